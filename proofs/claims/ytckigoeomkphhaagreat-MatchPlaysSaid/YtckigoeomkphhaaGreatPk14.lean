/- The reference's Holds and Matches. (g4's A9, A10, turned to symbols by tools/g4sym.py)
The document's index (08): Match.
The document's index (08): Looks.
The rule for a region that draws its order, where operations turn memory in ways of several kinds (two calls that write, beside each other). (Of any program.)
Both indexes beside each other; a block in which none of their predicates lies.
The law's Own (pneumaticlaw04): a predicate in memory of its own.
A predicate's sets are within the form's reach. (Of any seat that holds predicates.)
A law's argument of acts (pneumaticlaw08), opened; its sizes are within the form's reach.
What MatchPlays keeps. -/
import Derived.SizedLaws
import Derived.Test.YtckigoeomkphhaaGreatPk5
import Derived.Test.YtckigoeomkphhaaGreatPk12
import Derived.Test.YtckigoeomkphhaaGreatPk10
import Derived.Test.YtckigoeomkphhaaGreatPk8
import Derived.Test.YtckigoeomkphhaaGreatPk7
import Derived.Test.YtckigoeomkphhaaGreatPk2
namespace Go.Proofs.YtckigoeomkphhaaGreat
open Go.RowKit

set_option maxRecDepth 100000 in
set_option maxHeartbeats 8000000 in
theorem rholds_any (w : World) (c : C) (sa : Option Addr) (sc : Nat) (hs : SetR w (.slice sa c.set.length sc) c.set) (v : V) :
    Calls Tryz.prog 64 #[.agg #[.string (strOf c.name), .int .i64 c.op, .int .i64 c.v.k, .int .i64 c.v.n, .string (strOf c.v.s), .bool c.v.b, .slice sa c.set.length sc], .agg #[.int .i64 v.k, .int .i64 v.n, .string (strOf v.s), .bool v.b]] w
      fun e w' => e = .returned (.bool (holdsC c v)) ∧ Ext w w' := by
  have hx0 : Ext w ((w.alloc (.cells #[.string (strOf c.name), .int .i64 c.op, .int .i64 c.v.k, .int .i64 c.v.n, .string (strOf c.v.s), .bool c.v.b, .slice sa c.set.length sc] 52)).alloc (.cells #[.int .i64 v.k, .int .i64 v.n, .string (strOf v.s), .bool v.b] 49)) := ((Ext.refl w).alloc _).alloc _
  have hN : ((w.alloc (.cells #[.string (strOf c.name), .int .i64 c.op, .int .i64 c.v.k, .int .i64 c.v.n, .string (strOf c.v.s), .bool c.v.b, .slice sa c.set.length sc] 52)).alloc (.cells #[.int .i64 v.k, .int .i64 v.n, .string (strOf v.s), .bool v.b] 49)).heap[w.heap.size + 1]? = some (.cells #[.int .i64 v.k, .int .i64 v.n, .string (strOf v.s), .bool v.b] 49 (0, 0)) := by
    have h := heap_alloc_new (w.alloc (.cells #[.string (strOf c.name), .int .i64 c.op, .int .i64 c.v.k, .int .i64 c.v.n, .string (strOf c.v.s), .bool c.v.b, .slice sa c.set.length sc] 52)) (.cells #[.int .i64 v.k, .int .i64 v.n, .string (strOf v.s), .bool v.b] 49)
    rw [World.size_alloc] at h; exact h
  have hB : CBox ((w.alloc (.cells #[.string (strOf c.name), .int .i64 c.op, .int .i64 c.v.k, .int .i64 c.v.n, .string (strOf c.v.s), .bool c.v.b, .slice sa c.set.length sc] 52)).alloc (.cells #[.int .i64 v.k, .int .i64 v.n, .string (strOf v.s), .bool v.b] 49)) w.heap.size c sa sc :=
    (CBox.mk (heap_alloc_new _ _) (hs.ext ((Ext.refl w).alloc _))).ext ((Ext.refl _).alloc _)
  obtain ⟨c0, c1, c2, c3, c4, c5, c6⟩ := hB.cell
  have n0 := cell_of_row _ _ 0 _ _ _ hN
  have n1 := cell_of_row _ _ 1 _ _ _ hN
  have n2 := cell_of_row _ _ 2 _ _ _ hN
  have n3 := cell_of_row _ _ 3 _ _ _ hN
  have hsd := hB.s
  have HB := Lib.hid hB
  clear hs hN hB
  by_cases h1 : c.op = 1
  · have hh : holdsC c v = true := by unfold holdsC; rw [if_pos h1]
    rw [hh]
    have d1 : (c.op == 1) = true := beq_iff_eq.2 h1
    clear hh h1
    go_enter Tryz.func64, Tryz.ntmps64
    go_wp2_with fail
    go_ret
    exact ⟨rfl, hx0⟩
  have d1 := beq_int_ne h1
  by_cases h9 : c.op = 9
  · have hh : holdsC c v = c.set.any fun x => decide (cmpV v x = 0) := by unfold holdsC; rw [if_neg h1, if_pos h9]
    rw [hh]
    have d9 : (c.op == 9) = true := beq_iff_eq.2 h9
    obtain ⟨_, _, es, _, hms⟩ := Row.shape hsd
    simp only [Value.slice.injEq] at es
    obtain ⟨rfl, -, rfl⟩ := es
    unfold maxLen at hms
    clear hh h1 h9
    go_enter Tryz.func64, Tryz.ntmps64
    go_wp2_with fail
    generalize (w.alloc (.cells #[.string (strOf c.name), .int .i64 c.op, .int .i64 c.v.k, .int .i64 c.v.n, .string (strOf c.v.s), .bool c.v.b, .slice sa c.set.length sc] 52)).alloc (.cells #[.int .i64 v.k, .int .i64 v.n, .string (strOf v.s), .bool v.b] 49) = wa at *
    go_loopw [5] (fun i wr => ∃ k : Nat, k ≤ c.set.length ∧ i = .int .i64 k ∧ Hid (∀ x ∈ c.set.take k, decide (cmpV v x = 0) = false) ∧ Ext wa wr) (fun i _ => c.set.length - (intOf i).toNat)
    case atStart => exact ⟨0, Nat.zero_le _, rfl, (by show ∀ x ∈ c.set.take 0, _; simp), Ext.refl _⟩
    case round =>
      obtain ⟨k, hk, rfl, hall, hx⟩ := hrel
      have g6 := hx.cell c6
      by_cases hlt : k < c.set.length
      · obtain ⟨B1, o1, rfl, f0, f1, f2, f3⟩ := SetR.at (hsd.ext hx) hlt
        have hI : decide ((k : Int) < (c.set.length : Int)) = true := decide_eq_true (by omega)
        have hhit : cmpV v c.set[k] = 0 → (c.set.any fun x => decide (cmpV v x = 0)) = true := fun e => List.any_eq_true.2 ⟨_, List.getElem_mem hlt, decide_eq_true e⟩
        have hnext : cmpV v c.set[k] ≠ 0 → ∀ x ∈ c.set.take (k + 1), decide (cmpV v x = 0) = false := fun e x hx => by
          rw [List.take_succ_eq_append_getElem hlt] at hx
          rcases List.mem_append.1 hx with hx | hx
          · exact hall.out x hx
          · rw [List.mem_singleton.1 hx]; exact decide_eq_false e
        generalize c.set[k] = x at *
        have hxd : Ext wr wr.drew := (Ext.refl wr).drew
        have q0 := (hx.trans hxd).cell n0
        have q1 := (hx.trans hxd).cell n1
        have q2 := (hx.trans hxd).cell n2
        have q3 := (hx.trans hxd).cell n3
        have q6 := hxd.cell g6
        have e0 := hxd.cell f0
        have e1 := hxd.cell f1
        have e2 := hxd.cell f2
        have e3 := hxd.cell f3
        by_cases hz : cmpV v x = 0
        · have hres := Lib.hid (hhit hz)
          have hcm := fun W => rcmpV_any W v x
          rw [hz] at hcm
          clear hz hhit hnext
          go_upto_region 7 with fail
          go_region_law (first | (go_simp; go_at_call 101; refine (hcm _).mono ?_; rintro e w2 ⟨rfl, hx2⟩))
          all_goals
            go_wp2_with fail
            go_ret
            exact ⟨by rw [hres.out]; rfl, hx0.trans (hx.trans (hxd.trans hx2.1))⟩
        · have hres := Lib.hid (hnext hz)
          have hcm := fun W => rcmpV_any W v x
          have hzz := beq_int_ne hz
          generalize cmpV v x = r at *
          clear hz hhit hnext
          go_upto_region 7 with fail
          go_region_law (first | (go_simp; go_at_call 101; refine (hcm _).mono ?_; rintro e w2 ⟨rfl, hx2⟩))
          all_goals
            go_wp2_with fail
            go_roundw
            case rel => exact ⟨k + 1, hlt, by go_num, hres, hx.trans (hxd.trans hx2.1)⟩
            case measure => simp [intOf]; omega
      · obtain rfl : k = c.set.length := by omega
        have hI : decide ((c.set.length : Int) < (c.set.length : Int)) = false := decide_eq_false (by omega)
        have hres : Hid ((c.set.any fun x => decide (cmpV v x = 0)) = false) := by
          show _ = _
          refine List.any_eq_false.2 fun x hx => ?_
          have := hall.out x (by rw [List.take_length]; exact hx)
          simpa using this
        go_wp2_with fail
        go_ret
        exact ⟨by rw [hres.out]; rfl, hx0.trans hx⟩
  have d9 := beq_int_ne h9
  by_cases hk : v.k = c.v.k
  · have dk : (v.k != c.v.k) = false := by simp [hk]
    have hcm := fun W => rcmpV_any W v c.v
    by_cases h2 : c.op = 2
    · have hh : holdsC c v = decide (cmpV v c.v = 0) := by unfold holdsC; rw [if_neg h1, if_neg h9, if_pos hk, if_pos h2]
      rw [hh]
      have d2 : (c.op == 2) = true := beq_iff_eq.2 h2
      clear hh h1 h9 h2 hk
      generalize cmpV v c.v = r at *
      go_enter Tryz.func64, Tryz.ntmps64
      go_wp2_with (go_at_call 101; refine (hcm _).mono ?_; rintro e w2 ⟨rfl, hx2⟩; have x1 := hx2.1.cell c1)
      go_ret
      exact ⟨by rw [← beq_dec]; rfl, hx0.trans hx2.1⟩
    have d2 := beq_int_ne h2
    by_cases h3 : c.op = 3
    · have hh : holdsC c v = !decide (cmpV v c.v = 0) := by unfold holdsC; rw [if_neg h1, if_neg h9, if_pos hk, if_neg h2, if_pos h3]
      rw [hh]
      have d3 : (c.op == 3) = true := beq_iff_eq.2 h3
      clear hh h1 h9 h3 hk
      generalize cmpV v c.v = r at *
      go_enter Tryz.func64, Tryz.ntmps64
      go_wp2_with (go_at_call 101; refine (hcm _).mono ?_; rintro e w2 ⟨rfl, hx2⟩; have x1 := hx2.1.cell c1)
      go_ret
      exact ⟨by rw [← beq_dec]; rfl, hx0.trans hx2.1⟩
    have d3 := beq_int_ne h3
    by_cases h4 : c.op = 4
    · have hh : holdsC c v = decide (cmpV v c.v < 0) := by unfold holdsC; rw [if_neg h1, if_neg h9, if_pos hk, if_neg h2, if_neg h3, if_pos h4]
      rw [hh]
      have d4 : (c.op == 4) = true := beq_iff_eq.2 h4
      clear hh h1 h9 h4 hk
      generalize cmpV v c.v = r at *
      go_enter Tryz.func64, Tryz.ntmps64
      go_wp2_with (go_at_call 101; refine (hcm _).mono ?_; rintro e w2 ⟨rfl, hx2⟩; have x1 := hx2.1.cell c1)
      go_ret
      exact ⟨rfl, hx0.trans hx2.1⟩
    have d4 := beq_int_ne h4
    by_cases h5 : c.op = 5
    · have hh : holdsC c v = decide (cmpV v c.v ≤ 0) := by unfold holdsC; rw [if_neg h1, if_neg h9, if_pos hk, if_neg h2, if_neg h3, if_neg h4, if_pos h5]
      rw [hh]
      have d5 : (c.op == 5) = true := beq_iff_eq.2 h5
      clear hh h1 h9 h5 hk
      generalize cmpV v c.v = r at *
      go_enter Tryz.func64, Tryz.ntmps64
      go_wp2_with (go_at_call 101; refine (hcm _).mono ?_; rintro e w2 ⟨rfl, hx2⟩; have x1 := hx2.1.cell c1)
      go_ret
      exact ⟨rfl, hx0.trans hx2.1⟩
    have d5 := beq_int_ne h5
    by_cases h6 : c.op = 6
    · have hh : holdsC c v = decide (0 < cmpV v c.v) := by unfold holdsC; rw [if_neg h1, if_neg h9, if_pos hk, if_neg h2, if_neg h3, if_neg h4, if_neg h5, if_pos h6]
      rw [hh]
      have d6 : (c.op == 6) = true := beq_iff_eq.2 h6
      clear hh h1 h9 h6 hk
      generalize cmpV v c.v = r at *
      go_enter Tryz.func64, Tryz.ntmps64
      go_wp2_with (go_at_call 101; refine (hcm _).mono ?_; rintro e w2 ⟨rfl, hx2⟩; have x1 := hx2.1.cell c1)
      go_ret
      exact ⟨rfl, hx0.trans hx2.1⟩
    have d6 := beq_int_ne h6
    by_cases h7 : c.op = 7
    · have hh : holdsC c v = decide (0 ≤ cmpV v c.v) := by unfold holdsC; rw [if_neg h1, if_neg h9, if_pos hk, if_neg h2, if_neg h3, if_neg h4, if_neg h5, if_neg h6, if_pos h7]
      rw [hh]
      have d7 : (c.op == 7) = true := beq_iff_eq.2 h7
      clear hh h1 h9 h7 hk
      generalize cmpV v c.v = r at *
      go_enter Tryz.func64, Tryz.ntmps64
      go_wp2_with (go_at_call 101; refine (hcm _).mono ?_; rintro e w2 ⟨rfl, hx2⟩; have x1 := hx2.1.cell c1)
      go_ret
      exact ⟨rfl, hx0.trans hx2.1⟩
    have d7 := beq_int_ne h7
    by_cases h8 : c.op = 8
    · have d8 : (c.op == 8) = true := beq_iff_eq.2 h8
      by_cases hk2 : v.k = 2
      · have hh : holdsC c v = c.v.s.isPrefixOf v.s := by
          rw [holds_pre h8, decide_eq_true hk2, decide_eq_true (by omega : c.v.k = 2)]; rfl
        rw [hh]
        have dk2 : (v.k == 2) = true := beq_iff_eq.2 hk2
        clear hh h1 h2 h3 h4 h5 h6 h7 h8 h9 hk hk2
        generalize cmpV v c.v = r at *
        go_enter Tryz.func64, Tryz.ntmps64
        go_upto_region 28 with (go_at_call 101; refine (hcm _).mono ?_; rintro e w2 ⟨rfl, hx2⟩; have x1 := hx2.1.cell c1; have x4 := hx2.1.cell c4; have y0 := hx2.1.cell n0; have y2 := hx2.1.cell n2)
        by_cases hle : c.v.s.length ≤ v.s.length
        · have hI : decide (((strOf c.v.s).size : Int) ≤ ((strOf v.s).size : Int)) = true := decide_eq_true (by rw [strOf_size, strOf_size]; omega)
          have hI2 : (strOf c.v.s).size ≤ (strOf v.s).size := by rw [strOf_size, strOf_size]; exact hle
          have hP := pre_str v.s c.v.s hle
          generalize hR : c.v.s.isPrefixOf v.s = R at hP
          go_quiet (fail)
          go_wp2_with fail
          go_ret
          exact ⟨by rw [hR]; rfl, (hx0.trans hx2.1).drewN _⟩
        · have hI : decide (((strOf c.v.s).size : Int) ≤ ((strOf v.s).size : Int)) = false := decide_eq_false (by rw [strOf_size, strOf_size]; omega)
          have hP : c.v.s.isPrefixOf v.s = false := by
            cases hq : c.v.s.isPrefixOf v.s with
            | false => rfl
            | true => exact absurd (Lib.hasPrefix_le (s := v.s) (p := c.v.s) hq) hle
          have hI2 : decide ((strOf c.v.s).size ≤ (strOf v.s).size) = false := decide_eq_false (by rw [strOf_size, strOf_size]; exact hle)
          have hI3 : ¬ (strOf c.v.s).size ≤ (strOf v.s).size := by rw [strOf_size, strOf_size]; exact hle
          go_quiet (fail)
          go_wp2_with fail
          go_ret
          exact ⟨by rw [hP]; rfl, (hx0.trans hx2.1).drewN _⟩
      · have hh : holdsC c v = false := by
          rw [holds_pre h8, decide_eq_false hk2]; rfl
        rw [hh]
        have dk2 : (v.k == 2) = false := beq_eq_false_iff_ne.2 hk2
        clear hh h1 h2 h3 h4 h5 h6 h7 h8 h9 hk hk2
        generalize cmpV v c.v = r at *
        go_enter Tryz.func64, Tryz.ntmps64
        go_upto_region 28 with (go_at_call 101; refine (hcm _).mono ?_; rintro e w2 ⟨rfl, hx2⟩; have x1 := hx2.1.cell c1; have x4 := hx2.1.cell c4; have y0 := hx2.1.cell n0; have y2 := hx2.1.cell n2)
        go_quiet (fail)
        go_wp2_with fail
        go_ret
        exact ⟨rfl, (hx0.trans hx2.1).drewN _⟩
    have d8 := beq_int_ne h8
    have hh : holdsC c v = false := by unfold holdsC; rw [if_neg h1, if_neg h9, if_pos hk, if_neg h2, if_neg h3, if_neg h4, if_neg h5, if_neg h6, if_neg h7, if_neg h8]
    rw [hh]
    clear hh h1 h2 h3 h4 h5 h6 h7 h8 h9 hk
    generalize cmpV v c.v = r at *
    go_enter Tryz.func64, Tryz.ntmps64
    go_wp2_with (go_at_call 101; refine (hcm _).mono ?_; rintro e w2 ⟨rfl, hx2⟩; have x1 := hx2.1.cell c1)
    go_ret
    exact ⟨rfl, hx0.trans hx2.1⟩
  · have hh : holdsC c v = false := by unfold holdsC; rw [if_neg h1, if_neg h9, if_neg hk]
    rw [hh]
    have dk : (v.k != c.v.k) = true := by simp [hk]
    clear hh h1 h9 hk
    go_enter Tryz.func64, Tryz.ntmps64
    go_wp2_with fail
    go_ret
    exact ⟨rfl, hx0⟩
set_option maxRecDepth 100000 in
set_option maxHeartbeats 8000000 in
theorem rmatches_any (w : World) (v : Value) (p : List C) (key : List UInt8) (va : Value) (l : List (List UInt8 × V)) (hp : PredR w v p) (hl : AttrR w va l) :
    Calls Tryz.prog 42 #[v, .agg #[.string (strOf key), va]] w fun e w' => e = .returned (.bool (matchP p l)) ∧ Ext w w' := by
  obtain ⟨aa, ca, rfl, hca, hma⟩ := Row.shape hl
  obtain ⟨ap, cp, rfl, hcp, hmp⟩ := hp.shape
  unfold maxLen at hma hmp
  have hx0 : Ext w (w.alloc (.cells #[.string (strOf key), .slice aa l.length ca] 34)) := (Ext.refl w).alloc _
  have hE : (w.alloc (.cells #[.string (strOf key), .slice aa l.length ca] 34)).heap[w.heap.size]? = some (.cells #[.string (strOf key), .slice aa l.length ca] 34 (0, 0)) := heap_alloc_new _ _
  have hE1 := cell_of_row _ _ 1 _ _ _ hE
  have hl0 := hl.ext hx0
  have hp0 := hp.ext hx0
  clear hE hl hp
  go_enter Tryz.func42, Tryz.ntmps42
  go_wp2_with fail
  generalize w.alloc (.cells #[.string (strOf key), .slice aa l.length ca] 34) = wa at *
  go_loopw [5] (fun i wr => ∃ k : Nat, k ≤ p.length ∧ i = .int .i64 k ∧ Hid (∀ c ∈ p.take k, asksE l c = true) ∧ Ext wa wr) (fun i _ => p.length - (intOf i).toNat)
  case atStart => exact ⟨0, Nat.zero_le _, rfl, (by show ∀ x ∈ p.take 0, _; simp), Ext.refl _⟩
  case round =>
    obtain ⟨k, hk, rfl, hall, hx⟩ := hrel
    by_cases hlt : k < p.length
    · have hI : decide ((k : Int) < (p.length : Int)) = true := decide_eq_true (by omega)
      have hno : asksE l p[k] = false → matchP p l = false := fun e => by
        unfold matchP
        exact List.all_eq_false.2 ⟨p[k], List.getElem_mem hlt, by rw [e]; decide⟩
      have hyes : asksE l p[k] = true → ∀ c ∈ p.take (k + 1), asksE l c = true := fun e c hc => by
        rw [List.take_succ_eq_append_getElem hlt] at hc
        rcases List.mem_append.1 hc with hc | hc
        · exact hall.out c hc
        · rw [List.mem_singleton.1 hc]; exact e
      have hpk := (hp0.ext hx).at hlt
      obtain ⟨Bp, op, sa, sc, rfl, g0, g1, g2, g3, g4, g5, g6, hgs⟩ := hpk
      generalize p[k] = c at *
      have HNO := Lib.hid hno
      have HYES := Lib.hid hyes
      clear hno hyes
      go_upto_block 2 with fail
      go_cut [6] from 13 to 33 (fun v6 wx => ∃ j : Nat, j ≤ l.length ∧ v6 = .int .i64 j ∧ Hid (∀ x ∈ l.take j, x.1 ≠ c.name) ∧ Hid (∀ h : j < l.length, l[j].1 = c.name) ∧ Ext wr wx)
      case first =>
        go_wp2_with fail
        go_loopw [6] (fun i wx => ∃ j : Nat, j ≤ l.length ∧ i = .int .i64 j ∧ Hid (∀ x ∈ l.take j, x.1 ≠ c.name) ∧ Ext wr wx) (fun i _ => l.length - (intOf i).toNat)
        case atStart => exact ⟨0, Nat.zero_le _, rfl, (by show ∀ x ∈ l.take 0, _; simp), Ext.refl _⟩
        case round =>
          rename_i wy _
          obtain ⟨j, hj, rfl, hbef, hy⟩ := hrel
          have e1 := (hx.trans hy).cell hE1
          by_cases hjl : j < l.length
          · have hI2 : decide ((j : Int) < (l.length : Int)) = true := decide_eq_true (by omega)
            obtain ⟨Ba, oa, rfl, f0, f1, f2, f3, f4⟩ := (hl0.ext (hx.trans hy)).at hjl
            have g0 := hy.cell g0
            by_cases hn : l[j].1 = c.name
            · have hd : (l[j].1 == c.name) = true := beq_iff_eq.2 hn
              have hd2 : (l[j].1 != c.name) = false := by rw [bne, hd]; rfl
              have hat : Hid (∀ h : j < l.length, l[j].1 = c.name) := fun _ => hn
              generalize l[j].1 = nm at *
              clear hn
              go_upto_region 5 with fail
              go_quiet (fail)
              go_wp2_with fail
              go_meet
              exact ⟨j, hj, rfl, hbef, hat, hy.drewN _⟩
            · have hd : (l[j].1 == c.name) = false := beq_eq_false_iff_ne.2 hn
              have hd2 : (l[j].1 != c.name) = true := by rw [bne, hd]; rfl
              have hnx : Hid (∀ x ∈ l.take (j + 1), x.1 ≠ c.name) := fun x hx => by
                rw [List.take_succ_eq_append_getElem hjl] at hx
                rcases List.mem_append.1 hx with hx | hx
                · exact hbef.out x hx
                · rw [List.mem_singleton.1 hx]; exact hn
              generalize l[j].1 = nm at *
              clear hn
              go_upto_region 5 with fail
              go_quiet (fail)
              go_wp2_with fail
              go_roundw
              case rel => exact ⟨j + 1, hjl, by go_num, hnx, hy.drewN _⟩
              case measure => simp [intOf]; omega
          · obtain rfl : j = l.length := by omega
            have hI2 : decide ((l.length : Int) < (l.length : Int)) = false := decide_eq_false (by omega)
            go_upto_region 5 with fail
            go_quiet (fail)
            go_wp2_with fail
            go_meet
            exact ⟨l.length, hj, rfl, hbef, fun h => absurd h (Nat.lt_irrefl _), hy.drewN _⟩
      case rest =>
        obtain ⟨j, hj, rfl, hbef, hat, hy⟩ := hcut
        have e1 := (hx.trans hy).cell hE1
        by_cases hjl : j < l.length
        · have hI2 : ((j : Int) == (l.length : Int)) = false := beq_eq_false_iff_ne.2 (by omega)
          obtain ⟨Ba, oa, rfl, f0, f1, f2, f3, f4⟩ := (hl0.ext (hx.trans hy)).at hjl
          have g0 := hy.cell g0
          have g1 := hy.cell g1
          have g2 := hy.cell g2
          have g3 := hy.cell g3
          have g4 := hy.cell g4
          have g5 := hy.cell g5
          have g6 := hy.cell g6
          have hgs := hgs.ext hy
          have hask : Hid (asksE l c = holdsC c l[j].2) := asks_some hjl hbef.out (hat.out hjl)
          generalize l[j] = a at *
          generalize hH : holdsC c a.2 = H at *
          have HH := Lib.hid hH
          clear hH
          go_upto_region 7 with fail
          refine wp_region_facts [Fact.eq (.int .i64 j),
              Fact.eq (.pointer (some ⟨w.heap.size, 1, none⟩)),
              Fact.eq (.slice (some ⟨Ba, oa, none⟩) l.length ca),
              Fact.eq (.int .i64 l.length),
              Fact.eq (.bool false),
              Fact.eq (.bool false),
              Fact.eq (.slice (some ⟨Bp, op, none⟩) p.length cp),
              Fact.eq (.int .i64 k),
              Fact.eq (.pointer (some ⟨Bp, op + k * 7, none⟩)),
              Fact.eq (.agg #[.string (strOf c.name), .int .i64 c.op, .int .i64 c.v.k, .int .i64 c.v.n, .string (strOf c.v.s), .bool c.v.b, .slice sa c.set.length sc]),
              Fact.eq (.pointer (some ⟨w.heap.size, 1, none⟩)),
              Fact.eq (.slice (some ⟨Ba, oa, none⟩) l.length ca),
              Fact.eq (.int .i64 j),
              Fact.eq (.pointer (some ⟨Ba, oa + j * 5, none⟩)),
              Fact.eq (.pointer (some ⟨Ba, oa + j * 5 + 1, none⟩)),
              Fact.eq (.agg #[.int .i64 a.2.k, .int .i64 a.2.n, .string (strOf a.2.s), .bool a.2.b]),
              Fact.eq (.bool H),
              Fact.eq (.bool (!H)),
              Fact.eq (.bool (!H))]
            [[], [], [(1, 35)], [(2, 36)], [(0, 34), (3, 37)], [(4, 38)], [(5, 39)], [(5, 39)], [(6, 40), (7, 41), (5, 39)], [(8, 42), (5, 39)], [(5, 39)], [(10, 44), (5, 39)], [(5, 39)], [(11, 45), (12, 46), (5, 39)], [(13, 47), (5, 39)], [(14, 48), (5, 39)], [(9, 43), (15, 49), (5, 39)], [(16, 50), (5, 39)], [(5, 39), (17, 51)]]
            [(0, 34), (1, 35), (2, 36), (3, 37), (4, 38), (5, 39), (6, 40), (7, 41), (8, 42), (9, 43), (10, 44), (11, 45), (12, 46), (13, 47), (14, 48), (15, 49), (16, 50), (17, 51), (18, 52)] (by kernel_rfl) (by kernel_rfl) ?_ ?_
          · refine ⟨?_, ?_, ?_, ?_, ?_, ?_, ?_, ?_, ?_, ?_, ?_, ?_, ?_, ?_, ?_, ?_, ?_, ?_, ?_, trivial⟩
            · intro w1 hx1; change wpList _ _ _ _ _ _; exact ob_move rfl rfl rfl rfl rfl
            · intro w1 hx1; change wpList _ _ _ _ _ _; go_wp2_with fail; exact ⟨rfl, Ext.refl _, rfl, rfl⟩
            · intro w1 hx1; rintro _ rfl; change wpList _ _ _ _ _ _; have m := hx1.cell e1; go_wp2_with fail; exact ⟨rfl, Ext.refl _, rfl, rfl⟩
            · intro w1 hx1; rintro _ rfl; change wpList _ _ _ _ _ _; go_wp2_with fail; exact ⟨rfl, Ext.refl _, rfl, rfl⟩
            · intro w1 hx1; rintro _ rfl; rintro _ rfl; change wpList _ _ _ _ _ _; go_wp2_with fail; exact ⟨rfl, Ext.refl _, rfl, rfl⟩
            · intro w1 hx1; rintro _ rfl; change wpList _ _ _ _ _ _; exact ob_move rfl rfl rfl rfl rfl
            · intro w1 hx1; rintro _ rfl; change wpList _ _ _ _ _ _; exact ob_move rfl rfl rfl rfl rfl
            · intro w1 hx1; rintro _ rfl; change wpList _ _ _ _ _ _; exact ob_move rfl rfl rfl rfl rfl
            · intro w1 hx1; rintro _ rfl; rintro _ rfl; rintro _ rfl; change wpList _ _ _ _ _ _; go_wp2_with fail; exact ⟨rfl, Ext.refl _, rfl, rfl⟩
            · intro w1 hx1; rintro _ rfl; rintro _ rfl; change wpList _ _ _ _ _ _; have m0 := hx1.cell g0; have m1 := hx1.cell g1; have m2 := hx1.cell g2; have m3 := hx1.cell g3; have m4 := hx1.cell g4; have m5 := hx1.cell g5; have m6 := hx1.cell g6; go_wp2_with fail; exact ⟨rfl, Ext.refl _, rfl, rfl⟩
            · intro w1 hx1; rintro _ rfl; change wpList _ _ _ _ _ _; go_wp2_with fail; exact ⟨rfl, Ext.refl _, rfl, rfl⟩
            · intro w1 hx1; rintro _ rfl; rintro _ rfl; change wpList _ _ _ _ _ _; have m := hx1.cell e1; go_wp2_with fail; exact ⟨rfl, Ext.refl _, rfl, rfl⟩
            · intro w1 hx1; rintro _ rfl; change wpList _ _ _ _ _ _; exact ob_move rfl rfl rfl rfl rfl
            · intro w1 hx1; rintro _ rfl; rintro _ rfl; rintro _ rfl; change wpList _ _ _ _ _ _; go_wp2_with fail; exact ⟨rfl, Ext.refl _, rfl, rfl⟩
            · intro w1 hx1; rintro _ rfl; rintro _ rfl; change wpList _ _ _ _ _ _; go_wp2_with fail; exact ⟨rfl, Ext.refl _, rfl, rfl⟩
            · intro w1 hx1; rintro _ rfl; rintro _ rfl; change wpList _ _ _ _ _ _; have m1 := hx1.cell f1; have m2 := hx1.cell f2; have m3 := hx1.cell f3; have m4 := hx1.cell f4; go_wp2_with fail; exact ⟨rfl, Ext.refl _, rfl, rfl⟩
            · intro w1 hx1; rintro _ rfl; rintro _ rfl; rintro _ rfl; change wpList _ _ _ _ _ _; go_wp2_with fail; refine (rholds_any w1 c sa sc (hgs.ext hx1) a.2).mono ?_; rw [HH.out]; rintro e w2 ⟨rfl, hx2⟩; go_wp2_with fail; exact ⟨rfl, hx2, rfl, rfl⟩
            · intro w1 hx1; rintro _ rfl; rintro _ rfl; change wpList _ _ _ _ _ _; go_wp2_with fail; exact ⟨rfl, Ext.refl _, rfl, rfl⟩
            · intro w1 hx1; rintro _ rfl; rintro _ rfl; change wpList _ _ _ _ _ _; exact ob_pick rfl rfl rfl rfl rfl rfl
          · intro w1 hx1; rintro _ rfl; rintro _ rfl; rintro _ rfl; rintro _ rfl; rintro _ rfl; rintro _ rfl; rintro _ rfl; rintro _ rfl; rintro _ rfl; rintro _ rfl; rintro _ rfl; rintro _ rfl; rintro _ rfl; rintro _ rfl; rintro _ rfl; rintro _ rfl; rintro _ rfl; rintro _ rfl; rintro _ rfl; refine depsThen_nil ?_; dsimp only; simp only [Act.put, List.setIfInBounds_toArray, List.set_cons_zero, List.set_cons_succ]
            cases H
            · go_wp2_with fail
              go_ret
              exact ⟨by rw [HNO.out hask.out]; rfl, hx0.trans (hx.trans (hy.trans hx1))⟩
            · go_wp2_with fail
              go_roundw
              case rel => exact ⟨k + 1, hlt, by go_num, HYES.out hask.out, hx.trans (hy.trans hx1)⟩
              case measure => simp [intOf]; omega
        · obtain rfl : j = l.length := by omega
          have hI2 : ((l.length : Int) == (l.length : Int)) = true := beq_self_eq_true _
          have hask : Hid (asksE l c = false) := asks_none hbef.out
          go_upto_region 7 with fail
          go_quiet (fail)
          go_wp2_with fail
          go_ret
          exact ⟨by rw [HNO.out hask.out]; rfl, hx0.trans (hx.trans (hy.drewN _))⟩
    · obtain rfl : k = p.length := by omega
      have hI : decide ((p.length : Int) < (p.length : Int)) = false := decide_eq_false (by omega)
      have hres : Hid (matchP p l = true) := by
        show _ = _
        unfold matchP
        exact List.all_eq_true.2 fun x hx => hall.out x (by rw [List.take_length]; exact hx)
      go_wp2_with fail
      go_ret
      exact ⟨by rw [hres.out]; rfl, hx0.trans hx⟩
end Go.Proofs.YtckigoeomkphhaaGreat

namespace Go.Proofs.YtckigoeomkphhaaGreat
open Go.RowKit

theorem info_intY : (Tryz.prog.info? 3).map (fun i => (i.zero, i.size, i.bytes)) = some (some (.int .i64 0), 1, 8) := by kernel_rfl
theorem int_rowY (w : World) (n : Int) : Row (w.alloc (.cells #[.int .i64 n] 3)) 1 (.slice (some ⟨w.heap.size, 0, none⟩) 1 1) 1 [.int .i64 n] :=
  Row.of_own (World.ownsRow_lit (base := w.heap.size) (e := 3) (size := 1) w #[.int .i64 n] 1 (Nat.le_refl _) (by decide) rfl)
def rmIds (L : List PE) (l : List AT) : List Int := (L.filter fun k => matchP k.p l).map (·.id)
theorem rmIds_eq (L : List PE) (l : List AT) : rmIds L l = ((sS L).filter fun k => matchP k.2 l).map (·.1) := by
  unfold rmIds sS
  rw [List.filter_map, List.map_map]; rfl
theorem rmIds_snoc (L : List PE) (l : List AT) {k : Nat} (h : k < L.length) : rmIds (L.take (k + 1)) l = rmIds (L.take k) l ++ (if matchP L[k].p l then [L[k].id] else []) := by
  unfold rmIds
  rw [List.take_succ_eq_append_getElem h, List.filter_append, List.map_append]
  cases hm : matchP L[k].p l <;> simp [hm]
theorem rmIds_len (L : List PE) (l : List AT) : (rmIds L l).length ≤ L.length := by
  unfold rmIds
  rw [List.length_map]
  exact List.length_filter_le _ _

set_option maxRecDepth 100000 in
set_option maxHeartbeats 16000000 in
theorem rmatch_any (w : World) (base rb : Nat) (lv : Value) (L : List PE) (hr : RefI w base rb lv L) (hl256 : L.length ≤ 256) (key : List UInt8) (va : Value) (l : List AT) (hv : AttrR w va l) :
    Calls Tryz.prog 18 #[.pointer (some ⟨rb, 0, none⟩), .agg #[.string (strOf key), va]] w fun e w' => ∃ v, e = .returned v ∧ w'.ownsRow w.heap.size 3 1 v (rmIds L l).length ((rmIds L l).flatMap iC1) ∧ Ext w w' := by
  obtain ⟨a, cap, rfl, hcap, hmax⟩ := own_shape hr.row
  unfold maxLen at hmax
  obtain ⟨av, cv, rfl, _, _⟩ := Row.shape hv
  obtain ⟨hxe, hbe⟩ := boxes1 w (.cells #[.string (strOf key), .slice av l.length cv] 34)
  obtain ⟨n, hn⟩ : ∃ n, n = L.length := ⟨_, rfl⟩
  have HN := Lib.hid hn
  rw [← hn] at hr hcap hl256
  have HR := Lib.hid (hr.ext hxe)
  have HV := Lib.hid (hv.ext hxe)
  have HXE := Lib.hid hxe
  have HBE := Lib.hid hbe
  clear hr hn hv hxe hbe
  obtain ⟨ln, hln⟩ : ∃ ln, ln = l.length := ⟨_, rfl⟩
  rw [← hln] at HV HXE HBE HR ⊢
  clear hln
  go_enter Tryz.func18, Tryz.ntmps18
  go_wp2_with fail
  generalize w.alloc (.cells #[.string (strOf key), .slice av ln cv] 34) = wa at *
  go_loopw [5, 6] (fun v5 i wr => ∃ k : Nat, k ≤ n ∧ i = .int .i64 k ∧ Hid (wr.ownsRow wa.heap.size 3 1 v5 (rmIds (L.take k) l).length ((rmIds (L.take k) l).flatMap iC1)) ∧ Hid (Ext wa wr)) (fun _ i _ => n - (intOf i).toNat)
  case atStart => exact ⟨0, Nat.zero_le _, rfl, own_none _ _ _ _, Ext.refl _⟩
  case round =>
    obtain ⟨k, hk, rfl, hown, hx⟩ := hrel
    have rb0 := cell_of_row _ _ 0 _ _ _ (HR.out.ext hx.out).box
    obtain ⟨a5, c5, rfl, _, _⟩ := own_shape hown.out
    by_cases hlt : k < n
    · have hI : decide ((k : Int) < (n : Int)) = true := decide_eq_true (by omega)
      have hkN : (k : Int) < (n : Int) := by omega
      have hkl : k < L.length := by have := HN.out; omega
      obtain ⟨B, o, rfl, f0, f1⟩ := (HR.out.ext hx.out).at hkl
      have hbe := block_later HBE.out hx.out
      have b0 := cell_of_row _ _ 0 _ _ _ hbe
      have b1 := cell_of_row _ _ 1 _ _ _ hbe
      have HSN := Lib.hid (rmIds_snoc L l hkl)
      have HM : Hid (∀ W, Ext wr W → Calls Tryz.prog 42 #[L[k].h, .agg #[.string (strOf key), .slice av ln cv]] W fun e w' => e = .returned (.bool (matchP L[k].p l)) ∧ Ext W w') := fun W hW => rmatches_any W _ _ key _ l (((HR.out.preds _ (List.getElem_mem hkl)).ext (hx.out.trans hW)).pred) (HV.out.ext (hx.out.trans hW))
      have hcnt : (rmIds (L.take k) l).length ≤ k := Nat.le_trans (rmIds_len _ _) (by rw [List.length_take]; omega)
      have hwa : wa.heap.size ≤ wr.heap.size := hx.out.size
      obtain ⟨nk, hnk⟩ : ∃ x, x = (rmIds (L.take k) l).length := ⟨_, rfl⟩
      have HNK := Lib.hid hnk
      rw [← hnk] at hown hcnt ⊢
      clear hnk hbe
      generalize hE : L[k] = e at *
      clear hE
      generalize matchP e.p l = q at *
      go_upto_region 5 with fail
      refine wp_region_facts [Fact.eq (.pointer (some ⟨rb, 0, none⟩)),
          Fact.eq (.pointer (some ⟨rb, 0, none⟩)),
          Fact.eq (.pointer (some ⟨rb, 0, none⟩)),
          Fact.eq (.slice (some ⟨B, o, none⟩) n cap),
          Fact.eq (.int .i64 k),
          Fact.eq (.pointer (some ⟨B, o + k * 2, none⟩)),
          Fact.eq (.pointer (some ⟨B, o + k * 2 + 1, none⟩)),
          Fact.eq e.h,
          Fact.eq (.agg #[.string (strOf key), .slice av ln cv]),
          Fact.eq (.bool q)]
        [[], [(0, 16)], [(1, 17)], [(2, 18)], [], [(3, 19), (4, 20)], [(5, 21)], [(6, 22)], [], [(7, 23), (8, 24)]]
        [(0, 16), (1, 17), (2, 18), (3, 19), (4, 20), (5, 21), (6, 22), (7, 23), (8, 24), (9, 25)] (by kernel_rfl) (by kernel_rfl) ?_ ?_
      · refine ⟨?_, ?_, ?_, ?_, ?_, ?_, ?_, ?_, ?_, ?_, trivial⟩
        · intro w1 hx1; change wpList _ _ _ _ _ _; exact ob_move rfl rfl rfl rfl rfl
        · intro w1 hx1; rintro _ rfl; change wpList _ _ _ _ _ _; go_wp2_with fail; exact ⟨rfl, Ext.refl _, rfl, rfl⟩
        · intro w1 hx1; rintro _ rfl; change wpList _ _ _ _ _ _; go_wp2_with fail; exact ⟨rfl, Ext.refl _, rfl, rfl⟩
        · intro w1 hx1; rintro _ rfl; change wpList _ _ _ _ _ _; have m0 := hx1.cell rb0; go_wp2_with fail; exact ⟨rfl, Ext.refl _, rfl, rfl⟩
        · intro w1 hx1; change wpList _ _ _ _ _ _; exact ob_move rfl rfl rfl rfl rfl
        · intro w1 hx1; rintro _ rfl; rintro _ rfl; change wpList _ _ _ _ _ _; go_wp2_with fail; exact ⟨rfl, Ext.refl _, rfl, rfl⟩
        · intro w1 hx1; rintro _ rfl; change wpList _ _ _ _ _ _; go_wp2_with fail; exact ⟨rfl, Ext.refl _, rfl, rfl⟩
        · intro w1 hx1; rintro _ rfl; change wpList _ _ _ _ _ _; have m0 := hx1.cell f1; go_wp2_with fail; exact ⟨rfl, Ext.refl _, rfl, rfl⟩
        · intro w1 hx1; change wpList _ _ _ _ _ _; have m0 := hx1.cell b0; have m1 := hx1.cell b1; go_wp2_with fail; exact ⟨rfl, Ext.refl _, rfl, rfl⟩
        · intro w1 hx1; rintro _ rfl; rintro _ rfl; change wpList _ _ _ _ _ _; go_wp2_with fail; (with_reducible refine (HM.out _ hx1).mono ?_); rintro e w7 ⟨rfl, hx2⟩; go_wp2_with fail; exact ⟨rfl, hx2, rfl, rfl⟩
      · intro w1 hx1; rintro _ rfl; rintro _ rfl; rintro _ rfl; rintro _ rfl; rintro _ rfl; rintro _ rfl; rintro _ rfl; rintro _ rfl; rintro _ rfl; rintro _ rfl; refine depsThen_nil ?_; dsimp only; simp only [Act.put, List.setIfInBounds_toArray, List.set_cons_zero, List.set_cons_succ]
        clear HM
        replace rb0 := hx1.cell rb0
        replace f0 := hx1.cell f0
        have HX1 := Lib.hid (hx.out.trans hx1)
        have HO1 := Lib.hid (own_ext hown.out hx1)
        replace hwa : wa.heap.size ≤ w1.heap.size := Nat.le_trans hwa hx1.size
        cases q with
        | false =>
          have hs : rmIds (L.take (k + 1)) l = rmIds (L.take k) l := by rw [HSN.out]; exact List.append_nil _
          have HS := Lib.hid hs
          clear hs
          go_wp2_with fail
          go_roundw
          case rel => exact ⟨k + 1, hlt, by go_num, by rw [HS.out, ← HNK.out]; exact HO1, HX1⟩
          case measure => simp [intOf]; omega
        | true =>
          have hs : rmIds (L.take (k + 1)) l = rmIds (L.take k) l ++ [e.id] := by rw [HSN.out]; rfl
          have HS := Lib.hid hs
          clear hs
          have hxb : Ext w1 (w1.alloc (.cells #[.int .i64 e.id] 3)) := (Ext.refl w1).alloc _
          have HX2 := Lib.hid (HX1.out.trans hxb)
          have HO2 := Lib.hid (own_ext HO1.out hxb)
          have HR2 := Lib.hid (int_rowY w1 e.id)
          have hb2 : wa.heap.size ≤ (w1.alloc (.cells #[.int .i64 e.id] 3)).heap.size := Nat.le_trans hwa hxb.size
          clear hxb
          go_wp2_with (at_builtin; refine wpList_append_row 30 3 (.tmp 26) (.tmp 35) rfl wa.heap.size _ 1 8 Tryz.underlying30 info_intY rfl (by decide) rfl (.slice a5 nk c5) nk ((rmIds (L.take k) l).flatMap iC1) rfl HO2.out 1 [.int .i64 e.id] HR2.out (by simp [Value.oneCell']) (by omega) (by unfold maxLen; omega) hb2 ?_; intro v7 w7 ho7 hg7; have HO7 := Lib.hid ho7; have HX7 := Lib.hid (HX2.out.grown_none hg7 (own_base HO2.out)); clear ho7 hg7)
          go_roundw
          case rel => exact ⟨k + 1, hlt, by go_num, by show World.ownsRow _ _ _ _ _ _ _; rw [HS.out, List.length_append, ← HNK.out, List.flatMap_append]; exact HO7.out, HX7⟩
          case measure => simp [intOf]; omega
    · obtain rfl : k = n := by omega
      have hI : decide ((k : Int) < (k : Int)) = false := decide_eq_false (by omega)
      have he : L.take k = L := List.take_of_length_le (by have := HN.out; omega)
      rw [he] at hown ⊢
      go_wp2_with fail
      go_ret
      exact ⟨_, rfl, own_low hown.out HXE.out.size, HXE.out.trans hx.out⟩
end Go.Proofs.YtckigoeomkphhaaGreat

namespace Go.Proofs.YtckigoeomkphhaaGreat
open Go.RowKit

def lkSum (L : List PE) (l : List AT) : Nat := (L.map fun k => asksN l k.p).sum
theorem lkSum_eq (L : List PE) (l : List AT) : lkSum L l = ((sS L).map fun k => asksN l k.2).sum := by
  unfold lkSum sS
  rw [List.map_map]; rfl
theorem lkSum_snoc (L : List PE) (l : List AT) {k : Nat} (h : k < L.length) : lkSum (L.take (k + 1)) l = lkSum (L.take k) l + asksN l L[k].p := by
  unfold lkSum
  rw [List.take_succ_eq_append_getElem h, List.map_append, List.sum_append]; simp
theorem lkSum_le {L : List PE} (h : ∀ k ∈ L, k.p.length ≤ 6) (l : List AT) : lkSum L l ≤ L.length * 6 := by
  unfold lkSum
  induction L with
  | nil => simp
  | cons k L ih =>
    rw [List.map_cons, List.sum_cons, List.length_cons, Nat.succ_mul]
    have h1 := asksN_le l k.p
    have h2 := h k List.mem_cons_self
    have h3 := ih fun x hx => h x (List.mem_cons_of_mem _ hx)
    omega
def nmAny (l : List AT) (nm : List UInt8) : Bool := l.any fun a => decide (a.1 = nm)
theorem nmAny_snoc (l : List AT) (nm : List UInt8) {a : Nat} (h : a < l.length) : nmAny (l.take (a + 1)) nm = (nmAny (l.take a) nm || decide (l[a].1 = nm)) := by
  unfold nmAny
  rw [List.take_succ_eq_append_getElem h, List.any_append]; simp
theorem asksN_snoc (l : List AT) (p : List C) {j : Nat} (h : j < p.length) : asksN l (p.take (j + 1)) = asksN l (p.take j) + (if nmAny l p[j].name then 1 else 0) := by
  unfold asksN nmAny
  rw [List.take_succ_eq_append_getElem h, List.filter_append, List.length_append]
  congr 1
  rw [List.filter_cons]
  split <;> rfl

set_option maxRecDepth 100000 in
set_option maxHeartbeats 16000000 in
theorem rlooks_any (w : World) (base rb : Nat) (lv : Value) (L : List PE) (hr : RefI w base rb lv L) (hl256 : L.length ≤ 256) (h6 : ∀ k ∈ L, k.p.length ≤ 6) (key : List UInt8) (va : Value) (l : List AT) (hv : AttrR w va l) :
    Calls Tryz.prog 19 #[.pointer (some ⟨rb, 0, none⟩), .agg #[.string (strOf key), va]] w fun e w' => e = .returned (.int .i64 (lkSum L l : Nat)) ∧ Ext w w' := by
  obtain ⟨a, cap, rfl, hcap, hmax⟩ := own_shape hr.row
  unfold maxLen at hmax
  obtain ⟨av, cv, rfl, hcv, hmv⟩ := Row.shape hv
  unfold maxLen at hmv
  obtain ⟨hxe, hbe⟩ := boxes1 w (.cells #[.string (strOf key), .slice av l.length cv] 34)
  obtain ⟨n, hn⟩ : ∃ n, n = L.length := ⟨_, rfl⟩
  have HN := Lib.hid hn
  rw [← hn] at hr hcap hl256
  have HR := Lib.hid (hr.ext hxe)
  have HV := Lib.hid (hv.ext hxe)
  have HXE := Lib.hid hxe
  have HBE := Lib.hid hbe
  have H6 := Lib.hid h6
  clear hr hn hv hxe hbe h6
  obtain ⟨ln, hln⟩ : ∃ ln, ln = l.length := ⟨_, rfl⟩
  have HLN := Lib.hid hln
  rw [← hln] at HV HXE HBE HR hcv ⊢
  clear hln
  go_enter Tryz.func19, Tryz.ntmps19
  go_wp2_with fail
  generalize w.alloc (.cells #[.string (strOf key), .slice av ln cv] 34) = wa at *
  go_loopw [5, 6] (fun v5 i wr => ∃ (k s : Nat), k ≤ n ∧ i = .int .i64 k ∧ v5 = .int .i64 s ∧ s ≤ k * 6 ∧ Hid (s = lkSum (L.take k) l) ∧ Hid (Ext wa wr)) (fun _ i _ => n - (intOf i).toNat)
  case atStart => exact ⟨0, 0, Nat.zero_le _, rfl, rfl, Nat.zero_le _, rfl, Ext.refl _⟩
  case round =>
    obtain ⟨k, s, hk, rfl, rfl, hs6, hs, hx⟩ := hrel
    have rb0 := cell_of_row _ _ 0 _ _ _ (HR.out.ext hx.out).box
    by_cases hlt : k < n
    · have hI : decide ((k : Int) < (n : Int)) = true := decide_eq_true (by omega)
      have hkN : (k : Int) < (n : Int) := by omega
      have hkl : k < L.length := by have := HN.out; omega
      obtain ⟨B, o, rfl, f0, f1⟩ := (HR.out.ext hx.out).at hkl
      have HSN := Lib.hid (lkSum_snoc L l hkl)
      have hpt := ((HR.out.preds _ (List.getElem_mem hkl)).ext hx.out).pred
      have h6k := H6.out _ (List.getElem_mem hkl)
      generalize hE : L[k] = e at *
      clear hE
      obtain ⟨ph, pc, hph, hpc, hpm⟩ := hpt.shape
      rw [hph] at hpt f1
      clear hph
      unfold maxLen at hpm
      obtain ⟨p, hp⟩ : ∃ p, p = e.p := ⟨_, rfl⟩
      rw [← hp] at hpt f1 h6k hpc HSN
      clear hp
      obtain ⟨m, hm⟩ : ∃ m, m = p.length := ⟨_, rfl⟩
      have HMN := Lib.hid hm
      rw [← hm] at hpt f1 h6k hpc
      have HP := Lib.hid hpt
      clear hm hpt
      go_wp2_with fail
      go_loopw [5, 7] (fun v5 i2 wx => ∃ (j c : Nat), j ≤ m ∧ i2 = .int .i64 j ∧ v5 = .int .i64 (s + c : Nat) ∧ c ≤ j ∧ Hid (c = asksN l (p.take j)) ∧ Hid (Ext wr wx)) (fun _ i2 _ => m - (intOf i2).toNat)
      case atStart => exact ⟨0, 0, Nat.zero_le _, rfl, rfl, Nat.zero_le _, rfl, Ext.refl _⟩
      case round =>
        obtain ⟨j, c, hj, rfl, rfl, hcj, hc, hy⟩ := hrel
        replace rb0 := hy.out.cell rb0
        replace f1 := hy.out.cell f1
        by_cases hjm : j < m
        · have hI2 : decide ((j : Int) < (m : Int)) = true := decide_eq_true (by omega)
          have hjN : (j : Int) < (m : Int) := by omega
          have hjl : j < p.length := by have := HMN.out; omega
          have HCN := Lib.hid (asksN_snoc l p hjl)
          obtain ⟨Bp, op, sa, sc, rfl, g0, g1, g2, g3, g4, g5, g6, gs⟩ := (HP.out.ext hy.out).at hjl
          generalize p[j].name = nm at *
          clear g1 g2 g3 g4 g5 g6 gs
          go_wp2_with fail
          go_loopw [8, 9] (fun v8 i3 wz => ∃ (q : Nat) (fd : Bool), q ≤ ln ∧ i3 = .int .i64 q ∧ v8 = .bool fd ∧ Hid (fd = nmAny (l.take q) nm) ∧ Hid (Ext wr wz)) (fun _ i3 _ => ln - (intOf i3).toNat)
          case atStart => exact ⟨0, false, Nat.zero_le _, rfl, rfl, rfl, Ext.refl _⟩
          case round =>
            obtain ⟨q, fd, hq, rfl, rfl, hfd, hz⟩ := hrel
            replace rb0 := hz.out.cell rb0
            replace f1 := hz.out.cell f1
            replace g0 := hz.out.cell g0
            have hbe := block_later HBE.out (hx.out.trans (hy.out.trans hz.out))
            have b1 := cell_of_row _ _ 1 _ _ _ hbe
            clear hbe
            by_cases hql : q < ln
            · have hI3 : decide ((q : Int) < (ln : Int)) = true := decide_eq_true (by omega)
              have hqN : (q : Int) < (ln : Int) := by omega
              have hqll : q < l.length := by have := HLN.out; omega
              have HNA := Lib.hid (nmAny_snoc l nm hqll)
              obtain ⟨Ba, oa, rfl, e0, e1, e2, e3, e4⟩ := (HV.out.ext (hx.out.trans (hy.out.trans hz.out))).at hqll
              generalize l[q].1 = ln2 at *
              clear e1 e2 e3 e4
              have hnx : ∀ t : Bool, (ln2 == nm) = t → nmAny (l.take (q + 1)) nm = (fd || t) := fun t ht => by
                rw [HNA.out, ← hfd.out, ← ht]
                congr 1
                by_cases e : ln2 = nm
                · rw [decide_eq_true e, beq_iff_eq.2 e]
                · rw [decide_eq_false e, beq_eq_false_iff_ne.2 e]
              have HNX := Lib.hid hnx
              clear hnx HNA
              cases hd : (ln2 == nm) with
              | false =>
                have hn2 := HNX.out _ hd
                have HN2 := Lib.hid hn2
                clear hn2
                cases fd
                · go_upto_region 12 with fail
                  go_quiet (fail)
                  go_wp2_with fail
                  go_roundw
                  case rel => exact ⟨q + 1, false, hql, by go_num, rfl, HN2.out.symm, hz.out.drewN _⟩
                  case measure => simp [intOf]; omega
                · go_upto_region 12 with fail
                  go_quiet (fail)
                  go_wp2_with fail
                  go_roundw
                  case rel => exact ⟨q + 1, true, hql, by go_num, rfl, HN2.out.symm, hz.out.drewN _⟩
                  case measure => simp [intOf]; omega
              | true =>
                have hn2 := HNX.out _ hd
                have HN2 := Lib.hid hn2
                clear hn2
                cases fd
                · go_upto_region 12 with fail
                  go_quiet (fail)
                  go_wp2_with fail
                  go_roundw
                  case rel => exact ⟨q + 1, true, hql, by go_num, rfl, HN2.out.symm, hz.out.drewN _⟩
                  case measure => simp [intOf]; omega
                · go_upto_region 12 with fail
                  go_quiet (fail)
                  go_wp2_with fail
                  go_roundw
                  case rel => exact ⟨q + 1, true, hql, by go_num, rfl, HN2.out.symm, hz.out.drewN _⟩
                  case measure => simp [intOf]; omega
            · obtain rfl : q = ln := by omega
              have hI3 : decide ((q : Int) < (q : Int)) = false := decide_eq_false (by omega)
              have hall : l.take q = l := List.take_of_length_le (by have := HLN.out; omega)
              rw [hall] at hfd
              rw [← hfd.out] at HCN
              have hsc : s + c ≤ 2000 := by omega
              cases fd with
              | false =>
                go_wp2_with fail
                go_roundw
                case rel => exact ⟨j + 1, c, hjm, by go_num, rfl, by omega, by show _ = _; rw [HCN.out, ← hc.out]; rfl, hy.out.trans hz.out⟩
                case measure => simp [intOf]; omega
              | true =>
                go_wp2_with fail
                go_roundw
                case rel => exact ⟨j + 1, c + 1, hjm, by go_num, by go_num, by omega, by show _ = _; rw [HCN.out, ← hc.out]; rfl, hy.out.trans hz.out⟩
                case measure => simp [intOf]; omega
        · obtain rfl : j = m := by omega
          have hI2 : decide ((j : Int) < (j : Int)) = false := decide_eq_false (by omega)
          have hall : p.take j = p := List.take_of_length_le (by have := HMN.out; omega)
          rw [hall] at hc
          go_wp2_with fail
          go_roundw
          case rel => exact ⟨k + 1, s + c, hlt, by go_num, rfl, by omega, by show _ = _; rw [HSN.out, ← hs.out, ← hc.out], hx.out.trans hy.out⟩
          case measure => simp [intOf]; omega
    · obtain rfl : k = n := by omega
      have hI : decide ((k : Int) < (k : Int)) = false := decide_eq_false (by omega)
      have he : L.take k = L := List.take_of_length_le (by have := HN.out; omega)
      rw [he] at hs
      go_wp2_with fail
      go_ret
      exact ⟨by rw [← hs.out]; rfl, HXE.out.trans hx.out⟩
end Go.Proofs.YtckigoeomkphhaaGreat

namespace Go.Proofs.YtckigoeomkphhaaGreat.Rk
open Go.RowKit Go.Proofs.YtckigoeomkphhaaGreat.Rr

section
variable {P : Program}
/-- A fact, and the kinds of turns that it does not bear. -/
structure FactK (RK : Nat → World → World → Prop) where
  p : Value → World → Prop
  bad : Nat → Bool
  st : ∀ k, bad k = false → ∀ v w w', RK k w w' → p v w → p v w'
variable {RK : Nat → World → World → Prop}
def FactK.any : FactK RK := ⟨fun _ _ => True, fun _ => false, fun _ _ _ _ _ _ h => h⟩
def FactK.eq (u : Value) : FactK RK := ⟨fun v _ => v = u, fun _ => false, fun _ _ _ _ _ _ h => h⟩
def planK (J : World → Prop) (ks : List Nat) (Fs Gs : List (FactK RK)) : Plan where
  F := fun i => (Fs.getD i FactK.any).p
  G := fun i w => (Gs.getD i FactK.any).p undef w
  J := J
  R := fun j w w' => RK (ks.getD j 0) w w'
def calmK (ks : List Nat) (fs : List (FactK RK)) : Bool := (List.range fs.length).all fun i => (List.range (max ks.length fs.length)).all fun j => i == j || !(fs.getD i FactK.any).bad (ks.getD j 0)
theorem calmK_get {ks : List Nat} {fs : List (FactK RK)} (h : calmK ks fs = true) {i j : Nat} (hj : j < max ks.length fs.length) (hij : i ≠ j) : (fs.getD i FactK.any).bad (ks.getD j 0) = false := by
  by_cases hi : i < fs.length
  · have h1 := List.all_eq_true.1 (List.all_eq_true.1 h i (List.mem_range.2 hi)) j (List.mem_range.2 hj)
    simp only [Bool.or_eq_true, beq_iff_eq, Bool.not_eq_true'] at h1
    exact h1.resolve_left hij
  · rw [List.getD_eq_getElem?_getD, List.getElem?_eq_none (by omega)]
    rfl
theorem wp_region_turns {id : Nat} {l : List Oper} (J : World → Prop) (ks : List Nat) (Fs Gs : List (FactK RK)) (D : List (List (Nat × Tmp))) (E : List (Nat × Tmp)) {a0 : Act} {w0 : World} {Q : Exit → Act → World → Prop}
    (hm : P.follows .mixedOrders = true)
    (hok : (opsOk l.toArray a0.tmps.size 0 l D && endOk l.toArray E) = true)
    (hln : decide (l.length ≤ Fs.length) && decide (l.length ≤ Gs.length) = true)
    (hcf : calmK ks Fs = true) (hcg : calmK ks Gs = true) (hj0 : J w0.drew) (hjs : ∀ k w w', RK k w w' → J w → J w') (hg : ∀ f ∈ Gs, f.p undef w0.drew)
    (hob : Rr.Obs P l.toArray (planK J ks Fs Gs) a0 0 l D)
    (hend : ∀ w, J w → depsThen (planK J ks Fs Gs).F w E a0 (fun a => Q .normal a w)) :
    (Code.region id l.toArray true).wp P Q a0 w0 := by
  simp only [Bool.and_eq_true, decide_eq_true_eq] at hok hln
  refine wp_region_any hm (Rr.region_any (T := planK J ks Fs Gs) (D := D) (E := E) (by simpa using hok.1) hok.2 (fun i j hi hj hij v w w' hx h => ?_) (fun i j hi hj hij w w' hx h => ?_) (fun j w w' hx h => hjs _ w w' hx h) (by simpa using hob) hend _ _ _ _ ?_ ?_)
  · have hj : j < l.length := by simpa using hj
    exact (Fs.getD i FactK.any).st _ (calmK_get hcf (by omega) hij) v w w' hx h
  · have hj : j < l.length := by simpa using hj
    exact (Gs.getD i FactK.any).st _ (calmK_get hcg (by omega) hij) undef w w' hx h
  · simp
  · have hno : ∀ j, (Array.replicate l.toArray.size false).getD j false = false := fun j => by
      simp only [Array.getD_eq_getD_getElem?, Array.getElem?_replicate]; split <;> rfl
    refine ⟨by simp, rfl, rfl, fun _ _ => rfl, fun j _ h => (by rw [hno] at h; cases h), fun j h => (by rw [hno] at h; cases h), fun j _ _ => ?_, hj0⟩
    show (Gs.getD j FactK.any).p undef w0.drew
    rw [List.getD_eq_getElem?_getD]
    cases hj : Gs[j]? with
    | none => trivial
    | some f => exact hg f (List.mem_of_getElem? hj)
end
end Go.Proofs.YtckigoeomkphhaaGreat.Rk

namespace Go.Proofs.YtckigoeomkphhaaGreat
open Go.RowKit Go.MapKept

section
variable {w w1 w2 w' : World} {base b bp bq rb : Nat} {R : SP} {o : Option Nat}
/-- The document's index, in memory from base on. -/
structure RIx (w : World) (base rb : Nat) (R : SP) : Prop where
  ex : ∃ lv L, RefI w base rb lv L ∧ RelSL R (sS L) ∧ L.length ≤ 256
  le : base ≤ w.heap.size
  lo : base ≤ rb
  six : ∀ k ∈ R, k.2.length ≤ 6
theorem RIx.ext (h : RIx w base rb R) (hx : Ext w w') : RIx w' base rb R := by
  obtain ⟨lv, L, h1, h2, h3⟩ := h.ex
  exact ⟨⟨lv, L, h1.ext hx, h2, h3⟩, Nat.le_trans h.le hx.size, h.lo, h.six⟩
theorem RIx.box (h : RIx w base rb R) : ∃ lv, w.heap[rb]? = some (.cells #[lv] 43 (0, 0)) := by
  obtain ⟨lv, L, h1, _⟩ := h.ex
  exact ⟨lv, h1.box⟩
theorem RefI.turnX {base2 : Nat} {lv : Value} {L : List PE} (h : RefI w base rb lv L) (ht : TurnX base2 bp bq w w') (hm : ∀ q, Two2 bp bq q → ∃ es c, w.heap[q]? = some (.map es c)) : RefI w' base rb lv L := by
  refine ⟨ht.box h.box (fun hq => ?_) (by decide), ht.own h.row (fun q hq h2 => ?_) (by decide), fun k hk => (h.preds k hk).turn ht (fun q hq => .inl (hm q hq)) (by decide) (by decide)⟩
  · obtain ⟨es, c, hh⟩ := hm _ hq
    have := h.box
    rw [hh] at this; cases this
  · obtain ⟨es, c, hh⟩ := hm _ h2
    exact own_noMap h.row hq hh
/-- A block of another type turns. -/
theorem IdxR.keepB {S : List PE} {Q : List PQ} {T : TypeId} {c : Array Value} {fr : Nat × Nat} (h : IdxR w base b bp bq S Q) (hb : w.heap[rb]? = some (.cells c T fr)) (h1 : 72 ≠ T) (h2 : 77 ≠ T) (h3 : 49 ≠ T) (h4 : ∀ k ∈ S, k.h.ownBlock ≠ some rb) (hg : w.grownBy w' (some rb)) : IdxR w' base b bp bq S Q := by
  have key : ∀ {b2 size n : Nat} {e : TypeId} {u : Value} {ys : List Value}, w.ownsRow b2 e size u n ys → e ≠ T → w'.ownsRow b2 e size u n ys := fun hu he => own_keep hu hg fun k hk e => own_ne hu hb he (hk.trans e.symm)
  have hm : ∀ {c2 : Nat} {d : TypeDesc} {E : List (Value × Value)}, MapE w c2 d E → MapE w' c2 d E := fun hm => by
    obtain ⟨es, cl, k1, k2⟩ := hm
    exact ⟨es, cl, (hg.block _ (Array.getElem?_eq_some_iff.1 k1).1 fun e => by cases e; rw [hb] at k1; cases k1).trans k1, k2⟩
  refine ⟨(hg.block b (Array.getElem?_eq_some_iff.1 h.box).1 fun e => by
    cases e
    have := h.box
    rw [hb] at this
    cases this
    exact h1 rfl).trans h.box, hm h.mp, fun k hk => ?_, ⟨hm h.parts.mq, fun q hq => key (h.parts.rows q hq) h2, fun q hq x hx => key (h.parts.sets q hq x hx) h3, h.parts.apart⟩, h.cont⟩
  obtain ⟨us, e, p1, p2⟩ := h.preds k hk
  exact ⟨us, e, own_keep p1 hg fun q hq e => h4 k hk (hq.trans e.symm), fun x hx => key (p2 x hx) h3⟩
theorem PredT.keepB {lo : Nat} {T : TypeId} {c : Array Value} {fr : Nat × Nat} {h : Value} {p : List C} (k : PredT lo w h p) (hb : w.heap[rb]? = some (.cells c T fr)) (h1 : 52 ≠ T) (h2 : 49 ≠ T) (hg : w.grownBy w' (some rb)) : PredT lo w' h p := by
  obtain ⟨us, e, p1, p2⟩ := k
  have key : ∀ {b2 size n : Nat} {e : TypeId} {u : Value} {ys : List Value}, w.ownsRow b2 e size u n ys → e ≠ T → w'.ownsRow b2 e size u n ys := fun hu he => own_keep hu hg fun k hk e => own_ne hu hb he (hk.trans e.symm)
  exact ⟨us, e, key p1 h1, fun x hx => key (p2 x hx) h2⟩
theorem RefI.keepB {g : Nat} {T : TypeId} {c : Array Value} {fr : Nat × Nat} {lv : Value} {L : List PE} (h : RefI w base rb lv L) (hb : w.heap[g]? = some (.cells c T fr)) (h1 : 43 ≠ T) (h2 : 57 ≠ T) (h3 : 49 ≠ T) (h4 : ∀ k ∈ L, k.h.ownBlock ≠ some g) (hg : w.grownBy w' (some g)) : RefI w' base rb lv L := by
  have key : ∀ {b2 size n : Nat} {e : TypeId} {u : Value} {ys : List Value}, w.ownsRow b2 e size u n ys → e ≠ T → w'.ownsRow b2 e size u n ys := fun hu he => own_keep hu hg fun k hk e => own_ne hu hb he (hk.trans e.symm)
  refine ⟨(hg.block rb (Array.getElem?_eq_some_iff.1 h.box).1 fun e => by
    cases e
    have := h.box
    rw [hb] at this
    cases this
    exact h1 rfl).trans h.box, key h.row h2, fun k hk => ?_⟩
  obtain ⟨us, e, p1, p2⟩ := h.preds k hk
  exact ⟨us, e, own_keep p1 hg fun q hq e => h4 k hk (hq.trans e.symm), fun x hx => key (p2 x hx) h3⟩

/-- The index, none of its predicates in block o. -/
def IxG (w : World) (base b bp bq : Nat) (R : SP) (o : Option Nat) : Prop := Ix w base b bp bq R ∧ ∃ S Q, IdxR w base b bp bq S Q ∧ sS S = R ∧ ∀ k ∈ S, ∀ q, k.h.ownBlock = some q → o ≠ some q
def RIxG (w : World) (base rb : Nat) (R : SP) (o : Option Nat) : Prop := RIx w base rb R ∧ ∃ lv L, RefI w base rb lv L ∧ RelSL R (sS L) ∧ L.length ≤ 256 ∧ ∀ k ∈ L, ∀ q, k.h.ownBlock = some q → o ≠ some q
theorem PredT.lt {lo : Nat} {h : Value} {p : List C} (k : PredT lo w h p) : ∀ q, h.ownBlock = some q → q < w.heap.size := by
  obtain ⟨us, _, p1, _⟩ := k
  exact own_lt p1
theorem IxG.of (h : Ix w base b bp bq R) (ho : ∀ q, o = some q → w.heap.size ≤ q) : IxG w base b bp bq R o := by
  obtain ⟨S, Q, hi, hs⟩ := h.ex
  exact ⟨h, S, Q, hi, hs, fun k hk q hq e => by
    have h1 := (hi.preds k hk).lt q hq
    have h2 := ho q e
    omega⟩
theorem IxG.ext (h : IxG w base b bp bq R o) (hx : Ext w w') : IxG w' base b bp bq R o := by
  obtain ⟨h1, S, Q, hi, hs, ha⟩ := h
  exact ⟨h1.ext hx, S, Q, hi.ext hx, hs, ha⟩
theorem RIxG.of (h : RIx w base rb R) (ho : ∀ q, o = some q → w.heap.size ≤ q) : RIxG w base rb R o := by
  obtain ⟨lv, L, hi, hs, hl⟩ := h.ex
  exact ⟨h, lv, L, hi, hs, hl, fun k hk q hq e => by
    have h1 := (hi.preds k hk).lt q hq
    have h2 := ho q e
    omega⟩
theorem RIxG.ext (h : RIxG w base rb R o) (hx : Ext w w') : RIxG w' base rb R o := by
  obtain ⟨h1, S, Q, hi, hs, ha⟩ := h
  exact ⟨h1.ext hx, S, Q, hi.ext hx, hs, ha⟩
theorem Ix.with (h : Ix w base b bp bq R) {S : List PE} {Q : List PQ} (hi : IdxR w' base b bp bq S Q) (hs : sS S = R) (hl : base ≤ w'.heap.size) : Ix w' base b bp bq R := ⟨⟨S, Q, hi, hs⟩, hl, h.ne, h.lo, h.six, h.few, h.ids, h.nrm⟩
theorem RIx.with (h : RIx w base rb R) {lv : Value} {L : List PE} (hi : RefI w' base rb lv L) (hs : RelSL R (sS L)) (h2 : L.length ≤ 256) (hl : base ≤ w'.heap.size) : RIx w' base rb R := ⟨⟨lv, L, hi, hs, h2⟩, hl, h.lo, h.six⟩
theorem IxG.turnR (h : IxG w base b bp bq R o) (hb : ∃ lv, w.heap[rb]? = some (.cells #[lv] 43 (0, 0))) (hg : w.grownBy w' (some rb)) : IxG w' base b bp bq R o := by
  obtain ⟨lv, hb⟩ := hb
  obtain ⟨h1, S, Q, hi, hs, ha⟩ := h
  have hi' := hi.keepB hb (by decide) (by decide) (by decide) (fun k hk => by
    obtain ⟨us, _, p1, _⟩ := hi.preds k hk
    exact own_ne p1 hb (by decide)) hg
  exact ⟨h1.with hi' hs (Nat.le_trans h1.le hg.size), S, Q, hi', hs, ha⟩
theorem RIxG.turnX {base2 : Nat} (h : RIxG w base rb R o) (ht : TurnX base2 bp bq w w') (hm : ∀ q, Two2 bp bq q → ∃ es c, w.heap[q]? = some (.map es c)) : RIxG w' base rb R o := by
  obtain ⟨h1, lv, L, hi, hs, hl, ha⟩ := h
  exact ⟨h1.with (hi.turnX ht hm) hs hl (Nat.le_trans h1.le ht.size), lv, L, hi.turnX ht hm, hs, hl, ha⟩
/-- The block is written to. -/
theorem IxG.write {g : Nat} {c : Array Value} {fr : Nat × Nat} (h : IxG w base b bp bq R (some g)) (hb : w.heap[g]? = some (.cells c 52 fr)) (hg : w.grownBy w' (some g)) : IxG w' base b bp bq R (some g) := by
  obtain ⟨h1, S, Q, hi, hs, ha⟩ := h
  have hi' := hi.keepB hb (by decide) (by decide) (by decide) (fun k hk e => ha k hk g e rfl) hg
  exact ⟨h1.with hi' hs (Nat.le_trans h1.le hg.size), S, Q, hi', hs, ha⟩
theorem RIxG.write {g : Nat} {c : Array Value} {fr : Nat × Nat} (h : RIxG w base rb R (some g)) (hb : w.heap[g]? = some (.cells c 52 fr)) (hg : w.grownBy w' (some g)) : RIxG w' base rb R (some g) := by
  obtain ⟨h1, lv, L, hi, hs, hl, ha⟩ := h
  have hi' := hi.keepB hb (by decide) (by decide) (by decide) (fun k hk e => ha k hk g e rfl) hg
  exact ⟨h1.with hi' hs hl (Nat.le_trans h1.le hg.size), lv, L, hi', hs, hl, ha⟩
theorem sixS (h6 : ∀ k ∈ R, k.2.length ≤ 6) (id : Int) (p : List C) : ∀ k ∈ addS R id p, k.2.length ≤ 6 := fun k hk => by
  rcases mem_addS hk with hk | ⟨h0, rfl⟩
  · exact h6 k hk
  · have h1 := normP_len p
    have h2 := may_len (addE_zero h0).2.1
    show (normP p).length ≤ 6
    omega

theorem ixg_add (h : IxG w base b bp bq R o) (ho : ∀ q, o = some q → q < w.heap.size) (id : Int) (hid : (Lit.int .i64 id).wf = true) (v : Value) (p : List C) (hp : PredR w v p) :
    Calls Tryz.prog 8 #[.pointer (some ⟨b, 0, none⟩), .int .i64 id, v] w fun e w' => e = .returned (.int .i64 (addE R id p)) ∧ IxG w' base b bp bq (addS R id p) o ∧ TurnX base bp bq w w' := by
  obtain ⟨h, S, Q, hi, hs, ha⟩ := h
  refine (add_any w base b bp bq S Q hi h.le h.ne (lens6 hs h.six) (sS_few hs h.few) id v p hp).mono ?_
  rintro e w' ⟨rfl, S', Q', hi', hs', ht, hold⟩
  rw [hs] at hs' ⊢
  refine ⟨rfl, ⟨⟨⟨S', Q', hi', hs'⟩, Nat.le_trans h.le ht.size, h.ne, h.lo, sixS h.six id p, addS_len h.few, fun k hk => ?_, fun k hk => ?_⟩, S', Q', hi', hs', fun k hk q hq e => ?_⟩, ht⟩
  · rcases mem_addS hk with hk | ⟨h0, rfl⟩
    · exact h.ids k hk
    · exact hid
  · rcases mem_addS hk with hk | ⟨h0, rfl⟩
    · exact h.nrm k hk
    · exact ⟨normP_may (addE_zero h0).2.1, normP_idem p⟩
  · rcases hold k hk with hk | hk
    · exact ha k hk q hq e
    · have h1 := hk q hq
      have h2 := ho q e
      omega
theorem rixg_add (h : RIxG w base rb R o) (ho : ∀ q, o = some q → q < w.heap.size) (id : Int) (v : Value) (p : List C) (hp : PredR w v p) :
    Calls Tryz.prog 15 #[.pointer (some ⟨rb, 0, none⟩), .int .i64 id, v] w fun e w' => e = .returned (.int .i64 (addE R id p)) ∧ RIxG w' base rb (addS R id p) o ∧ w.grownBy w' (some rb) := by
  obtain ⟨h, lv, L, hi, hs, hl, ha⟩ := h
  refine (radd_any w base rb lv L hi h.le R hs hl id v p hp).mono ?_
  rintro e w' ⟨rfl, ⟨lv', L', hi', hs', hl', hold⟩, hg⟩
  refine ⟨rfl, ⟨⟨⟨lv', L', hi', hs', hl'⟩, Nat.le_trans h.le hg.size, h.lo, sixS h.six id p⟩, lv', L', hi', hs', hl', fun k hk q hq e => ?_⟩, hg⟩
  rcases hold k hk with hk | hk
  · exact ha k hk q hq e
  · have h1 := hk q hq
    have h2 := ho q e
    omega
theorem ixg_del (h : IxG w base b bp bq R none) (id : Int) :
    Calls Tryz.prog 9 #[.pointer (some ⟨b, 0, none⟩), .int .i64 id] w fun e w' => e = .returned (.int .i64 (delE R id)) ∧ IxG w' base b bp bq (delS R id) none ∧ TurnX base bp bq w w' := by
  refine (ix_del h.1 id).mono ?_
  rintro e w' ⟨rfl, hi, ht⟩
  exact ⟨rfl, IxG.of hi (fun _ h => nomatch h), ht⟩
theorem rixg_del (h : RIxG w base rb R none) (id : Int) :
    Calls Tryz.prog 16 #[.pointer (some ⟨rb, 0, none⟩), .int .i64 id] w fun e w' => e = .returned (.int .i64 (delE R id)) ∧ RIxG w' base rb (delS R id) none ∧ w.grownBy w' (some rb) := by
  obtain ⟨h, _⟩ := h
  obtain ⟨lv, L, hi, hs, hl⟩ := h.ex
  refine (rdel_any w base rb lv L hi h.le R hs hl id).mono ?_
  rintro e w' ⟨rfl, ⟨lv', L', hi', hs', hl'⟩, hg⟩
  exact ⟨rfl, RIxG.of ⟨⟨lv', L', hi', hs', hl'⟩, Nat.le_trans h.le hg.size, h.lo, fun k hk => h.six k (List.mem_filter.1 hk).1⟩ (fun _ h => nomatch h), hg⟩

/-! The kinds of turns: none, the index's, the document's index's. -/
def PlRK (base bp bq rb : Nat) (k : Nat) (w w' : World) : Prop :=
  match k with
  | 1 => TurnX base bp bq w w' ∧ ∀ q, Two2 bp bq q → ∃ es c, w.heap[q]? = some (.map es c)
  | 2 => w.grownBy w' (some rb) ∧ ∃ lv, w.heap[rb]? = some (.cells #[lv] 43 (0, 0))
  | _ => Ext w w'
def FI (base b bp bq rb : Nat) (e : Int) (R : SP) (o : Option Nat) : Rk.FactK (PlRK base bp bq rb) :=
  ⟨fun v w => v = .int .i64 e ∧ IxG w base b bp bq R o, fun k => k == 1, fun k hk v w w' hr h => by
    match k, hk, hr with
    | 0, _, hr => exact ⟨h.1, h.2.ext hr⟩
    | 2, _, hr => exact ⟨h.1, h.2.turnR hr.2 hr.1⟩
    | n + 3, _, hr => exact ⟨h.1, h.2.ext hr⟩⟩
def FR (base bp bq rb : Nat) (e : Int) (R : SP) (o : Option Nat) : Rk.FactK (PlRK base bp bq rb) :=
  ⟨fun v w => v = .int .i64 e ∧ RIxG w base rb R o, fun k => k == 2, fun k hk v w w' hr h => by
    match k, hk, hr with
    | 0, _, hr => exact ⟨h.1, h.2.ext hr⟩
    | 1, _, hr => exact ⟨h.1, h.2.turnX hr.1 hr.2⟩
    | n + 3, _, hr => exact ⟨h.1, h.2.ext hr⟩⟩
def GI (base b bp bq rb : Nat) (R : SP) (o : Option Nat) : Rk.FactK (PlRK base bp bq rb) :=
  ⟨fun _ w => IxG w base b bp bq R o, fun k => k == 1, fun k hk v w w' hr h => by
    match k, hk, hr with
    | 0, _, hr => exact h.ext hr
    | 2, _, hr => exact h.turnR hr.2 hr.1
    | n + 3, _, hr => exact h.ext hr⟩
def GR (base bp bq rb : Nat) (R : SP) (o : Option Nat) : Rk.FactK (PlRK base bp bq rb) :=
  ⟨fun _ w => RIxG w base rb R o, fun k => k == 2, fun k hk v w w' hr h => by
    match k, hk, hr with
    | 0, _, hr => exact h.ext hr
    | 1, _, hr => exact h.turnX hr.1 hr.2
    | n + 3, _, hr => exact h.ext hr⟩
/-- What stays beside both: the law's world, the act's box, its predicates. -/
structure PlJ (W : World) (ab : Nat) (cs : Array Value) (lo : Nat) (v7 : Value) (p : List C) (w : World) : Prop where
  ext : Ext W w
  act : w.heap[ab]? = some (.cells cs 45 (0, 0))
  own : PredT lo w v7 p
theorem PlJ.later {W : World} {ab : Nat} {cs : Array Value} {lo : Nat} {v7 : Value} {p : List C} (h : PlJ W ab cs lo v7 p w) (hx : Ext w w') : PlJ W ab cs lo v7 p w' := ⟨h.ext.trans hx, block_later h.act hx, h.own.ext hx⟩
theorem PlJ.st {W : World} {ab : Nat} {cs : Array Value} {lo : Nat} {v7 : Value} {p : List C} (hb : W.heap.size ≤ base) (hl : base ≤ bp ∧ base ≤ bq) (hr : base ≤ rb) : ∀ k w w', PlRK base bp bq rb k w w' → PlJ W ab cs lo v7 p w → PlJ W ab cs lo v7 p w' := by
  intro k w w' hk h
  match k, hk with
  | 0, hk => exact h.later hk
  | 1, hk =>
    obtain ⟨ht, hm⟩ := hk
    refine ⟨turnX_ext ht h.ext hb hl, ht.box h.act (fun hq => ?_) (by decide), h.own.turn ht (fun q hq => .inl (hm q hq)) (by decide) (by decide)⟩
    obtain ⟨es, c, hh⟩ := hm _ hq
    have := h.act
    rw [hh] at this; cases this
  | 2, hk =>
    obtain ⟨hg, lv, hb2⟩ := hk
    refine ⟨⟨hg.os.trans h.ext.os, hg.tape.trans h.ext.tape, hg.output.trans h.ext.output, Nat.le_trans h.ext.size hg.size, fun q hq => (hg.block q (Nat.lt_of_lt_of_le hq h.ext.size) fun e => ?_).trans (h.ext.block q hq)⟩, (hg.block ab (Array.getElem?_eq_some_iff.1 h.act).1 fun e => ?_).trans h.act, h.own.keepB hb2 (by decide) (by decide) hg⟩
    · have := Option.some.inj e; omega
    · cases e
      have := h.act
      rw [hb2] at this; cases this
  | n + 3, hk => exact h.later hk
end
end Go.Proofs.YtckigoeomkphhaaGreat

namespace Go.Proofs.YtckigoeomkphhaaGreat
open Go.RowKit

set_option maxRecDepth 100000 in
set_option maxHeartbeats 16000000 in
theorem own04_own (w : World) (v : Value) (p : List C) (hp : PredR w v p) (hb : ∀ c ∈ p, c.set.length * 40 ≤ 140737488355328) (hl : p.length * 88 ≤ 140737488355328) :
    Calls Tryz.prog 14 #[v] w fun e w' => ∃ (v' : Value) (us : List CS), e = .returned v' ∧ us.map CS.c = p ∧ w'.ownsRow w.heap.size 52 7 v' us.length (us.flatMap csC) ∧ (∀ x ∈ us, SetO w.heap.size w' x) ∧ Ext w w' := by
  obtain ⟨a, cap, rfl, hc, hcm⟩ := hp.shape
  unfold maxLen at hcm
  have HP := Lib.hid hp
  have HB := Lib.hid hb
  clear hp hb
  obtain ⟨n, hn⟩ : ∃ n, n = p.length := ⟨_, rfl⟩
  have HN := Lib.hid hn
  rw [← hn] at hc hl ⊢ HP
  clear hn
  go_enter Tryz.func14, Tryz.ntmps14
  go_wp2_with fail
  go_loopw [3, 8] (fun vo i wr => ∃ (k : Nat) (us : List CS), k ≤ n ∧ i = .int .i64 k ∧ Hid (us.map CS.c = p.take k) ∧ Hid (us.length = k) ∧ Hid (wr.ownsRow w.heap.size 52 7 vo us.length (us.flatMap csC)) ∧ Hid (∀ x ∈ us, SetO w.heap.size wr x) ∧ Hid (Ext w wr)) (fun _ i _ => n - (intOf i).toNat)
  case atStart => exact ⟨0, [], Nat.zero_le _, rfl, rfl, rfl, own_none _ _ _ _, (fun _ h => (by cases h)), Ext.refl _⟩
  case round =>
    obtain ⟨k, us, hk, rfl, hus, hul, hown, hset, hx⟩ := hrel
    by_cases hlt : k < n
    · have hI : decide ((k : Int) < (n : Int)) = true := decide_eq_true (by omega)
      have hkN : (k : Int) < (n : Int) := by omega
      have hkl : k < p.length := by have := HN.out; omega
      obtain ⟨B, o, sa, sc, rfl, f0, f1, f2, f3, f4, f5, f6, fs⟩ := (HP.out.ext hx.out).at hkl
      have hbk := HB.out p[k] (List.getElem_mem hkl)
      have htk : p.take (k + 1) = p.take k ++ [p[k]] := List.take_succ_eq_append_getElem hkl
      have HTK := Lib.hid htk
      clear htk
      generalize p[k] = c at *
      go_upto_region 5 with fail
      obtain ⟨hxa, hba⟩ := boxes1 wr (.cells #[.string (strOf c.name), .int .i64 c.op, .int .i64 c.v.k, .int .i64 c.v.n, .string (strOf c.v.s), .bool c.v.b, .slice sa c.set.length sc] 52)
      have q6 := cell_of_row _ _ 6 _ _ _ hba
      have z6 := frozen_of_row _ _ 6 _ _ hba
      have HXA := Lib.hid (hx.out.trans hxa)
      have HBA := Lib.hid hba
      have FS := Lib.hid (SetR.ext fs hxa)
      have HOA := Lib.hid (own_ext hown.out hxa)
      have HSA : Hid (∀ x ∈ us, SetO w.heap.size (wr.alloc (.cells #[.string (strOf c.name), .int .i64 c.op, .int .i64 c.v.k, .int .i64 c.v.n, .string (strOf c.v.s), .bool c.v.b, .slice sa c.set.length sc] 52)) x) := fun x hm => (hset.out x hm).ext hxa
      have hbx : w.heap.size ≤ wr.heap.size := hx.out.size
      have hsz : (wr.alloc (.cells #[.string (strOf c.name), .int .i64 c.op, .int .i64 c.v.k, .int .i64 c.v.n, .string (strOf c.v.s), .bool c.v.b, .slice sa c.set.length sc] 52)).heap.size = wr.heap.size + 1 := World.size_alloc _ _
      have HBL := Lib.hid (own_lt hown.out)
      have hbytes : (0 + c.set.length) * 40 ≤ 140737488355328 := by rw [Nat.zero_add]; exact hbk
      have h63 : 0 + c.set.length ≤ maxLen := by unfold maxLen; omega
      obtain ⟨uo, huo⟩ : ∃ x, x = u3 := ⟨_, rfl⟩
      subst huo
      clear hxa hba hown hset f0 f1 f2 f3 f4 f5 f6 fs hx
      generalize hbxn : wr.heap.size = bx at *
      clear hbxn
      generalize wr.alloc (.cells #[.string (strOf c.name), .int .i64 c.op, .int .i64 c.v.k, .int .i64 c.v.n, .string (strOf c.v.s), .bool c.v.b, .slice sa c.set.length sc] 52) = wa at *
      go_upto_region 6 with (at_builtin; refine wpList_append_row 50 49 (.const (.slice none 0 0)) (.tmp 13) rfl wa.heap.size _ 4 40 Tryz.underlying50 info28t rfl (by decide) rfl (.slice none 0 0) 0 [] rfl (own_none _ _ _ _) c.set.length (c.set.flatMap vC) FS.out (vC_one _) hbytes h63 (Nat.le_refl _) ?_; intro v4 w4 hown4 hg4; obtain ⟨a4, c4, e4, _, _⟩ := own_shape hown4; rw [Nat.zero_add] at e4; subst e4; have HX4 := Lib.hid ((Ext.refl wa).grown_none (v := .slice none 0 0) hg4 (fun q hq => by cases hq)); have HO4 : Hid (w4.ownsRow wa.heap.size 49 4 (.slice a4 c.set.length c4) c.set.length (c.set.flatMap vC)) := (by have h := hown4; rw [Nat.zero_add, List.nil_append] at h; exact h); have hba4 := block_later HBA.out HX4.out; have z64 := frozen_of_row _ _ 6 _ _ hba4; have z6c := cell_of_row _ _ 6 _ _ _ hba4; have HBA4 := Lib.hid hba4; clear hown4 hg4 hba4)
      have hg5 := grown_setC w4 bx 6 (.slice a4 c.set.length c4)
      have hb5 := setCell_blockC w4 bx 6 (.slice a4 c.set.length c4) _ _ _ HBA4.out
      have ho5 := own_keep (own_ext HOA.out HX4.out) hg5 (fun q hq e => by have h1 := HBL.out q hq; have h2 : bx = q := Option.some.inj e; omega)
      have hs5 : ∀ x ∈ us, SetO w.heap.size (w4.setCell ⟨bx, 6, none⟩ (.slice a4 c.set.length c4)) x := fun x hm => own_keep ((HSA.out x hm).ext HX4.out) hg5 (fun q hq e => own_ne ((HSA.out x hm).ext HX4.out) HBA4.out (by decide) (hq.trans e.symm))
      have hx5 : SetO w.heap.size (w4.setCell ⟨bx, 6, none⟩ (.slice a4 c.set.length c4)) ⟨c, .slice a4 c.set.length c4⟩ := own_keep (own_low HO4.out (by have := HXA.out.size; omega)) hg5 (fun q hq e => own_ne HO4.out HBA4.out (by decide) (hq.trans e.symm))
      have hxx5 : Ext w (w4.setCell ⟨bx, 6, none⟩ (.slice a4 c.set.length c4)) := (HXA.out.trans HX4.out).setCell hbx _
      have hb5' : (w4.setCell ⟨bx, 6, none⟩ (.slice a4 c.set.length c4)).heap[bx]? = some (.cells #[.string (strOf c.name), .int .i64 c.op, .int .i64 c.v.k, .int .i64 c.v.n, .string (strOf c.v.s), .bool c.v.b, .slice a4 c.set.length c4] 52 (0, 0)) := hb5
      have HOUT := Lib.hid ho5
      have HSETS := Lib.hid hs5
      have HXSET := Lib.hid hx5
      have HX5 := Lib.hid hxx5
      have b0 := cell_of_row _ _ 0 _ _ _ hb5'
      have b1 := cell_of_row _ _ 1 _ _ _ hb5'
      have b2 := cell_of_row _ _ 2 _ _ _ hb5'
      have b3 := cell_of_row _ _ 3 _ _ _ hb5'
      have b4 := cell_of_row _ _ 4 _ _ _ hb5'
      have b5 := cell_of_row _ _ 5 _ _ _ hb5'
      have b6 := cell_of_row _ _ 6 _ _ _ hb5'
      clear hg5 hb5 ho5 hs5 hx5 hxx5 HBA4 HX4 HO4 HOA HSA HXA HBA z6 z6c z64 q6 hb5' FS HBL
      generalize w4.setCell ⟨bx, 6, none⟩ (.slice a4 c.set.length c4) = w5 at *
      obtain ⟨ao, co, hvo, hco, hmo⟩ := own_shape HOUT.out
      rw [hvo] at HOUT
      rw [hvo]
      clear hvo
      have hm100 : (us.length + 1) * 88 ≤ 140737488355328 := by have := hul.out; omega
      have hxb : Ext w5 (w5.alloc (.cells #[.string (strOf c.name), .int .i64 c.op, .int .i64 c.v.k, .int .i64 c.v.n, .string (strOf c.v.s), .bool c.v.b, .slice a4 c.set.length c4] 52)) := (Ext.refl w5).alloc _
      have HROW := Lib.hid (show Row (w5.alloc (.cells #[.string (strOf c.name), .int .i64 c.op, .int .i64 c.v.k, .int .i64 c.v.n, .string (strOf c.v.s), .bool c.v.b, .slice a4 c.set.length c4] 52)) 7 (.slice (some ⟨w5.heap.size, 0, none⟩) 1 1) 1 (csC ⟨c, .slice a4 c.set.length c4⟩) from c_row w5 ⟨c, .slice a4 c.set.length c4⟩)
      have HONE : Hid (∀ u ∈ csC ⟨c, .slice a4 c.set.length c4⟩, u.oneCell' = true) := fun u hu => csC_one [⟨c, .slice a4 c.set.length c4⟩] (fun z hz => by rw [List.mem_singleton.1 hz]; rfl) u (by rw [List.flatMap_singleton]; exact hu)
      have HO10 := Lib.hid (own_ext HOUT.out hxb)
      have HX10 := Lib.hid (HX5.out.trans hxb)
      have hb10 : w.heap.size ≤ (w5.alloc (.cells #[.string (strOf c.name), .int .i64 c.op, .int .i64 c.v.k, .int .i64 c.v.n, .string (strOf c.v.s), .bool c.v.b, .slice a4 c.set.length c4] 52)).heap.size := HX10.out.size
      have HXB := Lib.hid hxb
      clear hxb
      go_upto_region 7 with (at_builtin; refine wpList_append_row 28 52 (.tmp 16) (.tmp 18) rfl w.heap.size _ 7 88 Tryz.underlying28 info31t rfl (by decide) rfl _ us.length (us.flatMap csC) rfl HO10.out 1 (csC ⟨c, .slice a4 c.set.length c4⟩) HROW.out HONE.out (by omega) (by unfold maxLen; omega) hb10 ?_; intro v6 w6 hown6 hg6; have HO6 := Lib.hid hown6; have HG6 := Lib.hid hg6; clear hown6 hg6)
      have hx6 := HX10.out.grown_none HG6.out (own_base HO10.out)
      have hkeep : ∀ z, SetO w.heap.size (w5.alloc (.cells #[.string (strOf c.name), .int .i64 c.op, .int .i64 c.v.k, .int .i64 c.v.n, .string (strOf c.v.s), .bool c.v.b, .slice a4 c.set.length c4] 52)) z → SetO w.heap.size w6 z := fun z hz => hz.keep HO10.out HG6.out
      have HSF : Hid (∀ z ∈ us ++ [(⟨c, .slice a4 c.set.length c4⟩ : CS)], SetO w.heap.size w6 z) := fun z hz => by
        rcases List.mem_append.1 hz with hz | hz
        · exact hkeep z ((HSETS.out z hz).ext HXB.out)
        · rw [List.mem_singleton.1 hz]; exact hkeep _ (HXSET.out.ext HXB.out)
      have HX6 := Lib.hid hx6
      have HOF : Hid (w6.ownsRow w.heap.size 52 7 v6 (us ++ [(⟨c, .slice a4 c.set.length c4⟩ : CS)]).length ((us ++ [(⟨c, .slice a4 c.set.length c4⟩ : CS)]).flatMap csC)) := by
        show World.ownsRow _ _ _ _ _ _ _
        rw [List.length_append, List.flatMap_append, List.flatMap_singleton]
        exact HO6.out
      have HU : Hid ((us ++ [(⟨c, .slice a4 c.set.length c4⟩ : CS)]).map CS.c = p.take (k + 1)) := by show _ = _; rw [HTK.out, List.map_append, hus.out]; rfl
      clear hx6 hkeep
      go_wp2_with fail
      go_roundw
      case rel => exact ⟨k + 1, us ++ [(⟨c, .slice a4 c.set.length c4⟩ : CS)], hlt, by go_num, HU, by show _ = _; rw [List.length_append, List.length_singleton, hul.out], HOF.out, HSF, HX6.out⟩
      case measure => simp [intOf]; omega
    · obtain rfl : k = n := by omega
      have hI : decide ((k : Int) < (k : Int)) = false := decide_eq_false (by omega)
      have hall2 : p.take k = p := List.take_of_length_le (by have := HN.out; omega)
      rw [hall2] at hus
      go_wp2_with fail
      go_ret
      exact ⟨_, us, rfl, hus.out, hown.out, hset.out, hx.out⟩
theorem own04_any (w : World) (v : Value) (p : List C) (hp : PredR w v p) (hb : ∀ c ∈ p, c.set.length * 40 ≤ 140737488355328) (hl : p.length ≤ 100) :
    Calls Tryz.prog 14 #[v] w fun e w' => ∃ v', e = .returned v' ∧ PredR w' v' p ∧ Ext w w' := by
  refine (own04_own w v p hp hb (by omega)).mono ?_
  rintro e w' ⟨v', us, rfl, hus, hown, hset, hx⟩
  exact ⟨v', rfl, by rw [← hus]; exact PredR.mk us (Row.of_own hown) fun x hm => (hset x hm).set, hx⟩
end Go.Proofs.YtckigoeomkphhaaGreat

namespace Go.Proofs.YtckigoeomkphhaaGreat
open Go.RowKit Go.ChangeShapes Go.WideShapes Go.Deep
section
variable {H : Type} {enc : TypeId × Value → H} {W : World} {base : Nat} {held : Bool}
theorem weightsAll_mem {P : Program} {e : TypeId} : ∀ {l : List (DataW H)} {d : DataW H} {n : Nat}, d ∈ l → n ∈ d.weights P e → n ∈ DataW.weightsAll P e l
  | d0 :: l, d, n, hd, hn => by
    simp only [DataW.weightsAll, List.mem_append]
    rcases List.mem_cons.1 hd with rfl | hd
    · exact .inl hn
    · exact .inr (weightsAll_mem hd hn)
theorem bytesOfV : Tryz.prog.bytesOf 49 = 40 := by kernel_rfl
set_option maxRecDepth 100000 in
theorem open_setS {fuel : Nat} {h : Value} {x : DataW H × List MemPlace} (ht : DataW.trod enc Tryz.prog W base (fun _ => true) held fuel 50 [h] = some x) : ∃ l : List V, SetR W h l ∧ (l = [] ∨ ∃ n ∈ x.1.weights Tryz.prog 50, l.length * 40 ≤ n) := by
  rcases open_slice Tryz.underlying50 ht with ⟨e, _⟩ | ⟨a, len, cap, m, n, D, Pl, e, _, hl, hm, hmm, ex, hi⟩
  · simp only [List.cons.injEq, and_true] at e
    subst e
    exact ⟨[], SetR.nil W, .inl rfl⟩
  · simp only [List.cons.injEq, and_true] at e
    subst e
    simp only [if_true] at hmm
    subst hmm
    have hC : Tryz.prog.cellsOf 49 = 4 := by kernel_rfl
    rw [hC] at hi
    obtain ⟨l, hln, hp⟩ := list_of (p := fun i (v : V) => W.cells? base (a.add (i * 4)) 4 = some (vC v)) m fun i hi' => by
      obtain ⟨cs, h1, h2⟩ := hi i hi'
      obtain ⟨v, rfl, hv⟩ := open_vals h2
      exact ⟨v, h1⟩
    have hr := row_of_cells vC 4 vC_len (by decide) hl hm l hln fun i hi => hp i hi
    have e : (l.take len).length = len := by rw [List.length_take]; omega
    refine ⟨l.take len, ?_, .inr ⟨_, by rw [ex]; simp only [DataW.weights, Tryz.underlying50]; exact List.mem_cons_self .., ?_⟩⟩
    · unfold SetR
      rw [e]; exact hr
    · rw [bytesOfV, e]
      simp only [List.length_map, List.length_range]
      omega
set_option maxRecDepth 100000 in
theorem open_consS {fuel : Nat} {cs : List Value} {x : DataW H × List MemPlace} (h : DataW.trod enc Tryz.prog W base (fun _ => true) held fuel 52 cs = some x) : ∃ c : CS, cs = csC c ∧ SetR W c.h c.c.set ∧ (c.c.set = [] ∨ ∃ n ∈ x.1.weights Tryz.prog 52, c.c.set.length * 40 ≤ n) ∧ (∃ n ∈ x.1.weights Tryz.prog 52, c.c.name.length ≤ n) := by
  obtain ⟨xs, n, _, ex, hl, hx, hf⟩ := DataW.trod_struct Tryz.underlying52 h
  have hC : Tryz.prog.cellsOf 52 = 7 := by kernel_rfl
  rw [hC] at hl
  match cs, hl with
  | [c0, c1, c2, c3, c4, c5, c6], _ =>
    match xs, hx with
    | [y0, y1, y2, y3], _ =>
      have q3 : Tryz.prog.cellsOf 3 = 1 := by kernel_rfl
      have q9 : Tryz.prog.cellsOf 9 = 1 := by kernel_rfl
      have q28 : Tryz.prog.cellsOf 49 = 4 := by kernel_rfl
      have q29 : Tryz.prog.cellsOf 50 = 1 := by kernel_rfl
      have h0 := hf 0 _ rfl
      have h1 := hf 1 _ rfl
      have h2 := hf 2 _ rfl
      have h3 := hf 3 _ rfl
      simp only [q3, q9, q28, q29, List.getElem_toArray, List.getElem_cons_zero, List.getElem_cons_succ, List.getElem?_cons_zero, List.getElem?_cons_succ, List.drop_zero, List.drop_succ_cons, List.take_succ_cons, List.take_zero] at h0 h1 h2 h3
      obtain ⟨s, e0, z0, w0⟩ := DataW.trod_string Tryz.underlying9 h0
      obtain ⟨k, e1, _, w1⟩ := DataW.trod_int Tryz.underlying3 h1
      obtain ⟨v, e2, w2⟩ := open_vals h2
      obtain ⟨l, e3, w3⟩ := open_setS h3
      simp only [vC, List.cons.injEq, and_true] at e0 e1 e2
      obtain ⟨rfl, rfl, rfl, rfl⟩ := e2
      subst e0; subst e1
      subst ex
      refine ⟨⟨⟨s.data.toList, k, v, l⟩, c6⟩, ?_, e3, w3.imp id ?_, s.data.toList.length, ?_, Nat.le_refl _⟩
      · unfold csC; rw [strOf_of]
      · rintro ⟨n, hn, hle⟩
        refine ⟨n, ?_, hle⟩
        show n ∈ DataW.weights Tryz.prog 52 (.agg [y0.1, y1.1, y2.1, y3.1])
        simp only [DataW.weights, Tryz.underlying52]
        exact DataW.weights_mem_each (j := 3) (t := 50) rfl rfl _ hn
      · show _ ∈ DataW.weights Tryz.prog 52 (.agg [y0.1, y1.1, y2.1, y3.1])
        simp only [DataW.weights, Tryz.underlying52]
        refine DataW.weights_mem_each (j := 0) (t := 9) rfl rfl _ ?_
        rw [z0]
        exact List.mem_singleton.2 rfl
set_option maxRecDepth 100000 in
theorem open_predS {fuel : Nat} {h : Value} {x : DataW H × List MemPlace} (ht : DataW.trod enc Tryz.prog W base (fun _ => true) held fuel 28 [h] = some x) : ∃ p : List C, PredR W h p ∧ (∀ c ∈ p, c.set = [] ∨ ∃ n ∈ x.1.weights Tryz.prog 28, c.set.length * 40 ≤ n) ∧ (∀ c ∈ p, ∃ n ∈ x.1.weights Tryz.prog 28, c.name.length ≤ n) := by
  rcases open_slice Tryz.underlying28 ht with ⟨e, _⟩ | ⟨a, len, cap, m, n, D, Pl, e, _, hl, hm, hmm, ex, hi⟩
  · simp only [List.cons.injEq, and_true] at e
    subst e
    exact ⟨[], PredR.nil W, (fun _ h => by cases h), (fun _ h => by cases h)⟩
  · simp only [List.cons.injEq, and_true] at e
    subst e
    simp only [if_true] at hmm
    subst hmm
    have hC : Tryz.prog.cellsOf 52 = 7 := by kernel_rfl
    rw [hC] at hi
    obtain ⟨l, hln, hp⟩ := list_of (p := fun i (c : CS) => W.cells? base (a.add (i * 7)) 7 = some (csC c) ∧ SetR W c.h c.c.set ∧ (c.c.set = [] ∨ ∃ n ∈ (D i).weights Tryz.prog 52, c.c.set.length * 40 ≤ n) ∧ (∃ n ∈ (D i).weights Tryz.prog 52, c.c.name.length ≤ n)) m fun i hi' => by
      obtain ⟨cs, h1, h2⟩ := hi i hi'
      obtain ⟨v, rfl, hv⟩ := open_consS h2
      exact ⟨v, h1, hv⟩
    have hr := row_of_cells csC 7 csC_len (by decide) hl hm l hln fun i hi => (hp i hi).1
    have e : (l.take len).length = len := by rw [List.length_take]; omega
    have hall : ∀ y ∈ l.take len, SetR W y.h y.c.set ∧ (y.c.set = [] ∨ ∃ n ∈ x.1.weights Tryz.prog 28, y.c.set.length * 40 ≤ n) ∧ (∃ n ∈ x.1.weights Tryz.prog 28, y.c.name.length ≤ n) := fun y hy => by
      obtain ⟨i, hi, rfl⟩ := List.getElem_of_mem hy
      have hil : i < len := by omega
      rw [List.getElem_take]
      obtain ⟨_, h1, h2, h3⟩ := hp i (by omega)
      have hup : ∀ n, n ∈ (D i).weights Tryz.prog 52 → n ∈ x.1.weights Tryz.prog 28 := fun n hn => by
        rw [ex]
        simp only [DataW.weights, Tryz.underlying28]
        exact List.mem_cons_of_mem _ (List.mem_append_left _ (weightsAll_mem (List.mem_map.2 ⟨i, List.mem_range.2 hil, rfl⟩) hn))
      exact ⟨h1, h2.imp id fun ⟨n, hn, hle⟩ => ⟨n, hup n hn, hle⟩, h3.imp fun n hn => ⟨hup n hn.1, hn.2⟩⟩
    refine ⟨(l.take len).map CS.c, PredR.mk _ (by rw [e]; exact hr) (fun x hx => (hall x hx).1), (fun c hc => ?_), (fun c hc => ?_)⟩
    · obtain ⟨x, hx, rfl⟩ := List.mem_map.1 hc
      exact (hall x hx).2.1
    · obtain ⟨x, hx, rfl⟩ := List.mem_map.1 hc
      exact (hall x hx).2.2
set_option maxRecDepth 100000 in
theorem arg_predS {ts : List TypeId} {ds : List (DataW H)} (hz : (DataW.weightsEach Tryz.prog ts ds).all (· ≤ reachBytes) = true) {j : Nat} {b0 : Nat} {v : Value} {d : DataW H} {p : List MemPlace} (ht : ts[j]? = some 28) (hd : ds[j]? = some d)
    (hv : Value.okWide Tryz.prog W .any b0 28 v) (h : DataW.Trod enc Tryz.prog W base (fun _ => true) held 28 v d p) : ∃ l : List C, PredR W v l ∧ ∀ c ∈ l, c.set.length * 40 ≤ 140737488355328 := by
  obtain ⟨a, len, cap, rfl⟩ := okWide_slice Tryz.underlying28 hv
  obtain ⟨fuel, hf⟩ := h
  obtain ⟨us, h1, h2, _⟩ := open_predS hf
  refine ⟨us, h1, fun y hy => ?_⟩
  rcases h2 y hy with h0 | ⟨n, hn, hle⟩
  · rw [h0]; exact Nat.zero_le _
  · have h3 := List.all_eq_true.1 hz _ (DataW.weights_mem_each ht hd n hn)
    have h4 : n ≤ reachBytes := by simpa using h3
    exact Nat.le_trans hle (Nat.le_trans h4 (by decide))
end
end Go.Proofs.YtckigoeomkphhaaGreat

namespace Go.Proofs.YtckigoeomkphhaaGreat
open Go.RowKit Go.ChangeShapes Go.WideShapes Go.Deep

structure AE where
  what : Int
  id : Int
  h : Value
  p : List C
  key : List UInt8
  va : Value
  l : List (List UInt8 × V)
def aeC (x : AE) : List Value := [.int .i64 x.what, .int .i64 x.id, x.h, .string (strOf x.key), x.va]
theorem aeC_len (x : AE) : (aeC x).length = 5 := rfl
/-- A row of acts. -/
structure ActsR (w : World) (v : Value) (us : List AE) : Prop where
  row : Row w 5 v us.length (us.flatMap aeC)
  hs : ∀ x ∈ us, PredR w x.h x.p
  ls : ∀ x ∈ us, AttrR w x.va x.l
structure okAE (x : AE) : Prop where
  id : (Lit.int .i64 x.id).wf = true
  sets : ∀ c ∈ x.p, c.set.length * 40 ≤ 140737488355328
  len : x.p.length * 88 ≤ 140737488355328
  names : ∀ c ∈ x.p, c.name.length ≤ 140737488355328
theorem ActsR.ext {w w' : World} {v : Value} {us : List AE} (h : ActsR w v us) (hx : Ext w w') : ActsR w' v us := ⟨h.row.ext hx, fun x hm => (h.hs x hm).ext hx, fun x hm => (h.ls x hm).ext hx⟩
theorem ActsR.at {w : World} {a : Option Addr} {n cap : Nat} {us : List AE} (h : ActsR w (.slice a n cap) us) {k : Nat} (hk : k < us.length) :
    ∃ B o, a = some ⟨B, o, none⟩ ∧ w.cell? ⟨B, o + k * 5, none⟩ = some (.int .i64 us[k].what) ∧ w.cell? ⟨B, o + k * 5 + 1, none⟩ = some (.int .i64 us[k].id) ∧ w.cell? ⟨B, o + k * 5 + 2, none⟩ = some us[k].h ∧ w.cell? ⟨B, o + k * 5 + 3, none⟩ = some (.string (strOf us[k].key)) ∧ w.cell? ⟨B, o + k * 5 + 4, none⟩ = some us[k].va := by
  obtain ⟨B, o, rfl⟩ := Row.base h.row (by omega) (by decide)
  have q := fun j u hj (e : (aeC us[k])[j]? = some u) => Row.cellAt h.row ((flat_get aeC 5 aeC_len us k hk j hj).trans e) (by omega)
  exact ⟨B, o, rfl, q 0 _ (by decide) rfl, by have := q 1 _ (by decide) rfl; rwa [← Nat.add_assoc] at this, by have := q 2 _ (by decide) rfl; rwa [← Nat.add_assoc] at this, by have := q 3 _ (by decide) rfl; rwa [← Nat.add_assoc] at this, by have := q 4 _ (by decide) rfl; rwa [← Nat.add_assoc] at this⟩
section
variable {H : Type} {enc : TypeId × Value → H} {W : World} {base : Nat} {held : Bool}
theorem bytesOfC : Tryz.prog.bytesOf 52 = 88 := by kernel_rfl
set_option maxRecDepth 100000 in
theorem open_predL {fuel : Nat} {h : Value} {x : DataW H × List MemPlace} (ht : DataW.trod enc Tryz.prog W base (fun _ => true) held fuel 28 [h] = some x) (p : List C) (hp : PredR W h p) : p.length = 0 ∨ ∃ n ∈ x.1.weights Tryz.prog 28, p.length * 88 ≤ n := by
  obtain ⟨a0, c0, hsh, _, _⟩ := hp.shape
  rcases open_slice Tryz.underlying28 ht with ⟨e, _⟩ | ⟨a, len, cap, m, n, D, Pl, e, _, hl, hm, hmm, ex, hi⟩
  · simp only [List.cons.injEq, and_true] at e
    rw [hsh] at e
    simp only [Value.slice.injEq] at e
    exact .inl e.2.1
  · simp only [List.cons.injEq, and_true] at e
    rw [hsh] at e
    simp only [Value.slice.injEq] at e
    simp only [if_true] at hmm
    subst hmm
    refine .inr ⟨_, by rw [ex]; simp only [DataW.weights, Tryz.underlying28]; exact List.mem_cons_self .., ?_⟩
    rw [bytesOfC, e.2.1]
    simp only [List.length_map, List.length_range]
    omega
set_option maxRecDepth 100000 in
theorem open_act {fuel : Nat} {cs : List Value} {x : DataW H × List MemPlace} (h : DataW.trod enc Tryz.prog W base (fun _ => true) held fuel 45 cs = some x) : ∃ v : AE, cs = aeC v ∧ PredR W v.h v.p ∧ AttrR W v.va v.l ∧ (Lit.int .i64 v.id).wf = true ∧ (∀ c ∈ v.p, c.set = [] ∨ ∃ n ∈ x.1.weights Tryz.prog 45, c.set.length * 40 ≤ n) ∧ (v.p.length = 0 ∨ ∃ n ∈ x.1.weights Tryz.prog 45, v.p.length * 88 ≤ n) ∧ (∀ c ∈ v.p, ∃ n ∈ x.1.weights Tryz.prog 45, c.name.length ≤ n) := by
  obtain ⟨xs, n, _, ex, hl, hx, hf⟩ := DataW.trod_struct Tryz.underlying45 h
  have hC : Tryz.prog.cellsOf 45 = 5 := by kernel_rfl
  rw [hC] at hl
  match cs, hl with
  | [c0, c1, c2, c3, c4], _ =>
    match xs, hx with
    | [y0, y1, y2, y3], _ =>
      have q3 : Tryz.prog.cellsOf 3 = 1 := by kernel_rfl
      have qp : Tryz.prog.cellsOf 28 = 1 := by kernel_rfl
      have qe : Tryz.prog.cellsOf 34 = 2 := by kernel_rfl
      have h0 := hf 0 _ rfl
      have h1 := hf 1 _ rfl
      have h2 := hf 2 _ rfl
      have h3 := hf 3 _ rfl
      simp only [q3, qp, qe, List.getElem_toArray, List.getElem_cons_zero, List.getElem_cons_succ, List.getElem?_cons_zero, List.getElem?_cons_succ, List.drop_zero, List.drop_succ_cons, List.take_succ_cons, List.take_zero] at h0 h1 h2 h3
      obtain ⟨k0, e0, _, w0⟩ := DataW.trod_int Tryz.underlying3 h0
      obtain ⟨k1, e1, _, w1⟩ := DataW.trod_int Tryz.underlying3 h1
      obtain ⟨p, hp, hw, hnm⟩ := open_predS h2
      have hpl := open_predL h2 p hp
      obtain ⟨key, va, l, e3, hv, _⟩ := open_event h3
      simp only [List.cons.injEq, and_true] at e0 e1 e3
      obtain ⟨rfl, rfl⟩ := e3
      subst e0; subst e1
      subst ex
      have hup : ∀ n, n ∈ DataW.weights Tryz.prog 28 y2.1 → n ∈ DataW.weights Tryz.prog 45 (.agg [y0.1, y1.1, y2.1, y3.1]) := fun n hn => by
        simp only [DataW.weights, Tryz.underlying45]
        exact DataW.weights_mem_each (j := 2) (t := 28) rfl rfl _ hn
      refine ⟨⟨k0, k1, c2, p, key, c4, l⟩, rfl, hp, hv, w1, fun c hc => (hw c hc).imp id fun ⟨n, hn, hle⟩ => ⟨n, hup n hn, hle⟩, hpl.imp id (fun ⟨n, hn, hle⟩ => ⟨n, hup n hn, hle⟩), fun c hc => (hnm c hc).imp fun n hn => ⟨hup n hn.1, hn.2⟩⟩
set_option maxRecDepth 100000 in
theorem open_acts {fuel : Nat} {h : Value} {x : DataW H × List MemPlace} (ht : DataW.trod enc Tryz.prog W base (fun _ => true) held fuel 39 [h] = some x) : ∃ us : List AE, ActsR W h us ∧ ∀ y ∈ us, (Lit.int .i64 y.id).wf = true ∧ (∀ c ∈ y.p, c.set = [] ∨ ∃ n ∈ x.1.weights Tryz.prog 39, c.set.length * 40 ≤ n) ∧ (y.p.length = 0 ∨ ∃ n ∈ x.1.weights Tryz.prog 39, y.p.length * 88 ≤ n) ∧ (∀ c ∈ y.p, ∃ n ∈ x.1.weights Tryz.prog 39, c.name.length ≤ n) := by
  rcases open_slice Tryz.underlying39 ht with ⟨e, _⟩ | ⟨a, len, cap, m, n, D, Pl, e, _, hl, hm, hmm, ex, hi⟩
  · simp only [List.cons.injEq, and_true] at e
    subst e
    exact ⟨[], ⟨Row.nil W 5, (fun _ h => (by cases h)), (fun _ h => (by cases h))⟩, (fun _ h => (by cases h))⟩
  · simp only [List.cons.injEq, and_true] at e
    subst e
    simp only [if_true] at hmm
    subst hmm
    have hC : Tryz.prog.cellsOf 45 = 5 := by kernel_rfl
    rw [hC] at hi
    obtain ⟨l, hln, hp⟩ := list_of (p := fun i (v : AE) => W.cells? base (a.add (i * 5)) 5 = some (aeC v) ∧ PredR W v.h v.p ∧ AttrR W v.va v.l ∧ (Lit.int .i64 v.id).wf = true ∧ (∀ c ∈ v.p, c.set = [] ∨ ∃ n ∈ (D i).weights Tryz.prog 45, c.set.length * 40 ≤ n) ∧ (v.p.length = 0 ∨ ∃ n ∈ (D i).weights Tryz.prog 45, v.p.length * 88 ≤ n) ∧ (∀ c ∈ v.p, ∃ n ∈ (D i).weights Tryz.prog 45, c.name.length ≤ n)) m fun i hi' => by
      obtain ⟨cs, h1, h2⟩ := hi i hi'
      obtain ⟨v, rfl, hv⟩ := open_act h2
      exact ⟨v, h1, hv⟩
    have hr := row_of_cells aeC 5 aeC_len (by decide) hl hm l hln fun i hi => (hp i hi).1
    have e : (l.take len).length = len := by rw [List.length_take]; omega
    have hall : ∀ y ∈ l.take len, PredR W y.h y.p ∧ AttrR W y.va y.l ∧ (Lit.int .i64 y.id).wf = true ∧ (∀ c ∈ y.p, c.set = [] ∨ ∃ n ∈ x.1.weights Tryz.prog 39, c.set.length * 40 ≤ n) ∧ (y.p.length = 0 ∨ ∃ n ∈ x.1.weights Tryz.prog 39, y.p.length * 88 ≤ n) ∧ (∀ c ∈ y.p, ∃ n ∈ x.1.weights Tryz.prog 39, c.name.length ≤ n) := fun y hy => by
      obtain ⟨i, hi, rfl⟩ := List.getElem_of_mem hy
      have hil : i < len := by omega
      rw [List.getElem_take]
      obtain ⟨_, h1, h2, h3, h4, h5, h6⟩ := hp i (by omega)
      have hup : ∀ n, n ∈ (D i).weights Tryz.prog 45 → n ∈ x.1.weights Tryz.prog 39 := fun n hn => by
        rw [ex]
        simp only [DataW.weights, Tryz.underlying39]
        exact List.mem_cons_of_mem _ (List.mem_append_left _ (weightsAll_mem (List.mem_map.2 ⟨i, List.mem_range.2 hil, rfl⟩) hn))
      exact ⟨h1, h2, h3, fun c hc => (h4 c hc).imp id fun ⟨n, hn, hle⟩ => ⟨n, hup n hn, hle⟩, h5.imp id (fun ⟨n, hn, hle⟩ => ⟨n, hup n hn, hle⟩), fun c hc => (h6 c hc).imp fun n hn => ⟨hup n hn.1, hn.2⟩⟩
    exact ⟨l.take len, ⟨by rw [e]; exact hr, fun y hy => (hall y hy).1, fun y hy => (hall y hy).2.1⟩, fun y hy => (hall y hy).2.2⟩
set_option maxRecDepth 100000 in
theorem arg_acts {ts : List TypeId} {ds : List (DataW H)} (hz : (DataW.weightsEach Tryz.prog ts ds).all (· ≤ reachBytes) = true) {j : Nat} {b0 : Nat} {v : Value} {d : DataW H} {p : List MemPlace} (ht : ts[j]? = some 39) (hd : ds[j]? = some d)
    (hv : Value.okWide Tryz.prog W .any b0 39 v) (h : DataW.Trod enc Tryz.prog W base (fun _ => true) held 39 v d p) : ∃ us : List AE, ActsR W v us ∧ ∀ y ∈ us, okAE y := by
  obtain ⟨a, len, cap, rfl⟩ := okWide_slice Tryz.underlying39 hv
  obtain ⟨fuel, hf⟩ := h
  obtain ⟨us, h1, h2⟩ := open_acts hf
  have hle : ∀ n, n ∈ d.weights Tryz.prog 39 → n ≤ 140737488355328 := fun n hn => by
    have h3 := List.all_eq_true.1 hz _ (DataW.weights_mem_each ht hd n hn)
    have h4 : n ≤ reachBytes := by simpa using h3
    exact Nat.le_trans h4 (by decide)
  refine ⟨us, h1, fun y hy => ⟨(h2 y hy).1, fun c hc => ?_, ?_, fun c hc => ?_⟩⟩
  · rcases (h2 y hy).2.1 c hc with h0 | ⟨n, hn, h5⟩
    · rw [h0]; exact Nat.zero_le _
    · exact Nat.le_trans h5 (hle n hn)
  · rcases (h2 y hy).2.2.1 with h0 | ⟨n, hn, h5⟩
    · rw [h0]; exact Nat.zero_le _
    · exact Nat.le_trans h5 (hle n hn)
  · obtain ⟨n, hn, h5⟩ := (h2 y hy).2.2.2 c hc
    exact Nat.le_trans h5 (hle n hn)
end
end Go.Proofs.YtckigoeomkphhaaGreat

namespace Go.Proofs.YtckigoeomkphhaaGreat
open Go.RowKit

/-- A row of constraints whose names, from the i-th on, may be written: they begin at place o of block g. -/
def NmB (w : World) (g o n i : Nat) : Prop := ∃ cs, w.heap[g]? = some (.cells cs 52 (0, 0)) ∧ ∀ j, i ≤ j → j < n → ∃ s : ByteArray, cs[o + j * 7]? = some (.string s) ∧ s.size ≤ 140737488355328
theorem NmB.set {w : World} {g o n k : Nat} (h : NmB w g o n k) (s : ByteArray) : NmB (w.setCell ⟨g, o + k * 7, none⟩ (.string s)) g o n (k + 1) := by
  obtain ⟨cs, h1, h2⟩ := h
  refine ⟨_, setCell_blockC w g (o + k * 7) (.string s) _ _ _ h1, fun j hi hj => ?_⟩
  obtain ⟨u, hu, hb⟩ := h2 j (by omega) hj
  rw [Array.getElem?_setIfInBounds]
  rw [if_neg (by omega)]
  exact ⟨u, hu, hb⟩
theorem names_of {lo : Nat} {w : World} {v : Value} {p : List C} (h : PredT lo w v p) (h0 : 0 < p.length) (hb : ∀ c ∈ p, c.name.length ≤ 140737488355328) : ∃ g o cap, v = .slice (some ⟨g, o, none⟩) p.length cap ∧ v.ownBlock = some g ∧ lo ≤ g ∧ NmB w g o p.length 0 := by
  obtain ⟨us, rfl, p1, _⟩ := h
  rw [List.length_map] at h0 ⊢
  have hr := Row.of_own p1
  have hat := fun (k : Nat) (hk : k < us.length) => (flat_get csC 7 csC_len us k hk 0 (by decide)).trans (rfl : (csC us[k])[0]? = some (.string (strOf us[k].c.name)))
  obtain ⟨_, h2⟩ := p1
  rcases h2 with ⟨rfl, hn⟩ | ⟨g, cap, cur, rfl, hb1, hg, hn, hm, hs, ht⟩
  · exact absurd hn (by omega)
  · refine ⟨g, 0, cap, rfl, rfl, hb1, cur, hg, fun j _ hj => ⟨strOf us[j].c.name, ?_, ?_⟩⟩
    · have hcell := Row.cellAt hr (hat j hj) (by omega)
      have e := cell_of_row w g (0 + j * 7) _ _ _ hg
      rw [Nat.add_zero] at hcell
      rw [← e]; exact hcell
    · rw [strOf_size]
      exact hb _ (List.mem_map.2 ⟨us[j], List.getElem_mem hj, rfl⟩)

/-- Both indexes hold R. -/
structure PlB (W : World) (base b bp bq rb : Nat) (R : SP) (w : World) : Prop where
  ix : Ix w base b bp bq R
  rx : RIx w base rb R
  ext : Ext W w
  lo : W.heap.size ≤ base
  nm : ∀ k ∈ R, ∀ c ∈ k.2, c.name.length ≤ 140737488355328
theorem PlB.later {W w w' : World} {base b bp bq rb : Nat} {R : SP} (h : PlB W base b bp bq rb R w) (hx : Ext w w') : PlB W base b bp bq rb R w' := ⟨h.ix.ext hx, h.rx.ext hx, h.ext.trans hx, h.lo, h.nm⟩
theorem addS_nm {R : SP} (h : ∀ k ∈ R, ∀ c ∈ k.2, c.name.length ≤ 140737488355328) (id : Int) {p : List C} (hp : ∀ c ∈ p, c.name.length ≤ 140737488355328) : ∀ k ∈ addS R id p, ∀ c ∈ k.2, c.name.length ≤ 140737488355328 := fun k hk => by
  rcases mem_addS hk with hk | ⟨_, rfl⟩
  · exact h k hk
  · intro c hc
    obtain ⟨d, hd, rfl⟩ := (normP_mem p c).1 hc
    exact hp d hd
theorem delS_nm {R : SP} (h : ∀ k ∈ R, ∀ c ∈ k.2, c.name.length ≤ 140737488355328) (id : Int) : ∀ k ∈ delS R id, ∀ c ∈ k.2, c.name.length ≤ 140737488355328 := fun k hk => h k (List.mem_filter.1 hk).1
/-- In the loop that writes over own's names. -/
structure PlN (W : World) (base b bp bq rb : Nat) (R : SP) (ab : Nat) (cs : Array Value) (g o n i : Nat) (w : World) : Prop where
  ix : IxG w base b bp bq R (some g)
  rx : RIxG w base rb R (some g)
  ext : Ext W w
  lo : W.heap.size ≤ g
  act : w.heap[ab]? = some (.cells cs 45 (0, 0))
  nm : NmB w g o n i
theorem PlN.write {W w : World} {base b bp bq rb : Nat} {R : SP} {ab : Nat} {cs : Array Value} {g o n k : Nat} (h : PlN W base b bp bq rb R ab cs g o n k w) (s : ByteArray) : PlN W base b bp bq rb R ab cs g o n (k + 1) (w.setCell ⟨g, o + k * 7, none⟩ (.string s)) := by
  obtain ⟨c, hg, _⟩ := h.nm
  have hgr := grown_setC w g (o + k * 7) (.string s)
  refine ⟨h.ix.write hg hgr, h.rx.write hg hgr, h.ext.setCell h.lo _, h.lo, (hgr.block ab (Array.getElem?_eq_some_iff.1 h.act).1 fun e => ?_).trans h.act, h.nm.set s⟩
  cases e
  have := h.act
  rw [hg] at this; cases this
end Go.Proofs.YtckigoeomkphhaaGreat
