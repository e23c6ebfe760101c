/- What a value may be; Number, Word, Truth.
MayCons, May: which constraints, which predicates may be.
cmp.Or, the whole order of values.
slices.CompareFunc at values; the order of constraints. -/
import Derived.Deep.CutBlock
import Derived.Test.YtcgflkfbjnpdiaaGreatP9
import Derived.Test.YtcgflkfbjnpdiaaGreatP5
namespace Go.Proofs.YtcgflkfbjnpdiaaGreat
open Go.RowKit

set_option maxRecDepth 100000 in
theorem number_any (w : World) (n : Int) : Calls Tryz.prog 50 #[.int .i64 n] w fun e w' => e = .returned (.agg #[.int .i64 1, .int .i64 n, .string (strOf []), .bool false]) ∧ Grew w w' := by
  go_enter Tryz.func50, Tryz.ntmps50
  go_wp2
  have hR := heap_alloc_new w (.cells #[.int .i64 1, .int .i64 n, .string ⟨#[]⟩, .bool false] 34)
  have r0 := cell_of_row _ _ 0 _ _ _ hR
  have r1 := cell_of_row _ _ 1 _ _ _ hR
  have r2 := cell_of_row _ _ 2 _ _ _ hR
  have r3 := cell_of_row _ _ 3 _ _ _ hR
  refine bodyPost_ret (v := .agg #[.int .i64 1, .int .i64 n, .string (strOf []), .bool false]) (by simp [results, Tryz.results50, go_sem, r0, r1, r2, r3]; rfl) rfl ⟨rfl, (Grew.refl w).alloc _⟩
set_option maxRecDepth 100000 in
theorem word_any (w : World) (s : List UInt8) : Calls Tryz.prog 72 #[.string (strOf s)] w fun e w' => e = .returned (.agg #[.int .i64 2, .int .i64 0, .string (strOf s), .bool false]) ∧ Grew w w' := by
  go_enter Tryz.func72, Tryz.ntmps72
  go_wp2
  have hR := heap_alloc_new w (.cells #[.int .i64 2, .int .i64 0, .string (strOf s), .bool false] 34)
  have r0 := cell_of_row _ _ 0 _ _ _ hR
  have r1 := cell_of_row _ _ 1 _ _ _ hR
  have r2 := cell_of_row _ _ 2 _ _ _ hR
  have r3 := cell_of_row _ _ 3 _ _ _ hR
  refine bodyPost_ret (v := .agg #[.int .i64 2, .int .i64 0, .string (strOf s), .bool false]) (by simp [results, Tryz.results72, go_sem, r0, r1, r2, r3]) rfl ⟨rfl, (Grew.refl w).alloc _⟩
set_option maxRecDepth 100000 in
theorem truth_any (w : World) (b : Bool) : Calls Tryz.prog 73 #[.bool b] w fun e w' => e = .returned (.agg #[.int .i64 3, .int .i64 0, .string (strOf []), .bool b]) ∧ Grew w w' := by
  go_enter Tryz.func73, Tryz.ntmps73
  go_wp2
  have hR := heap_alloc_new w (.cells #[.int .i64 3, .int .i64 0, .string ⟨#[]⟩, .bool b] 34)
  have r0 := cell_of_row _ _ 0 _ _ _ hR
  have r1 := cell_of_row _ _ 1 _ _ _ hR
  have r2 := cell_of_row _ _ 2 _ _ _ hR
  have r3 := cell_of_row _ _ 3 _ _ _ hR
  refine bodyPost_ret (v := .agg #[.int .i64 3, .int .i64 0, .string (strOf []), .bool b]) (by simp [results, Tryz.results73, go_sem, r0, r1, r2, r3]; rfl) rfl ⟨rfl, (Grew.refl w).alloc _⟩

/-- The value's own box, behind a second one and a draw. -/
theorem box28 (w : World) (k n : Int) (s : List UInt8) (b : Bool) :
    ((w.alloc (.cells #[.int .i64 k, .int .i64 n, .string (strOf s), .bool b] 34)).alloc (.cells #[.int .i64 k, .int .i64 n, .string (strOf s), .bool b] 34)).drew.cell? ⟨w.heap.size, 0, none⟩ = some (.int .i64 k) ∧
    ((w.alloc (.cells #[.int .i64 k, .int .i64 n, .string (strOf s), .bool b] 34)).alloc (.cells #[.int .i64 k, .int .i64 n, .string (strOf s), .bool b] 34)).drew.cell? ⟨w.heap.size, 1, none⟩ = some (.int .i64 n) ∧
    ((w.alloc (.cells #[.int .i64 k, .int .i64 n, .string (strOf s), .bool b] 34)).alloc (.cells #[.int .i64 k, .int .i64 n, .string (strOf s), .bool b] 34)).drew.cell? ⟨w.heap.size, 2, none⟩ = some (.string (strOf s)) ∧
    ((w.alloc (.cells #[.int .i64 k, .int .i64 n, .string (strOf s), .bool b] 34)).alloc (.cells #[.int .i64 k, .int .i64 n, .string (strOf s), .bool b] 34)).drew.cell? ⟨w.heap.size, 3, none⟩ = some (.bool b) := by
  have hx : Ext (w.alloc (.cells #[.int .i64 k, .int .i64 n, .string (strOf s), .bool b] 34)) ((w.alloc (.cells #[.int .i64 k, .int .i64 n, .string (strOf s), .bool b] 34)).alloc (.cells #[.int .i64 k, .int .i64 n, .string (strOf s), .bool b] 34)).drew := ((Ext.refl _).alloc _).drew
  have hR := heap_alloc_new w (.cells #[.int .i64 k, .int .i64 n, .string (strOf s), .bool b] 34)
  exact ⟨hx.cell (cell_of_row _ _ 0 _ _ _ hR), hx.cell (cell_of_row _ _ 1 _ _ _ hR), hx.cell (cell_of_row _ _ 2 _ _ _ hR), hx.cell (cell_of_row _ _ 3 _ _ _ hR)⟩

set_option maxRecDepth 100000 in
set_option maxHeartbeats 4000000 in
theorem vmay1 (w : World) (n : Int) (s : List UInt8) (b : Bool) :
    Calls Tryz.prog 33 #[.agg #[.int .i64 1, .int .i64 n, .string (strOf s), .bool b]] w fun e w' => e = .returned (.bool (s.isEmpty && !b)) ∧ Grew w w' := by
  have t1 := ta22
  obtain ⟨c0, c1, c2, c3⟩ := box28 w 1 n s b
  cases s <;> cases b
  all_goals
    go_enter Tryz.func33, Tryz.ntmps33
    go_upto_region 4 with go_in
    go_region_law (go_simp; go_at_call 50; refine (number_any _ _).mono ?_; rintro e w2 ⟨rfl, hx2⟩; have m0 := hx2.1.cell c0; have m1 := hx2.1.cell c1; have m2 := hx2.1.cell c2; have m3 := hx2.1.cell c3)
    all_goals
      go_wp2_with fail
      go_ret
      exact ⟨rfl, (((Grew.refl w).alloc _).alloc _).trans ((Grew.refl _).drew.trans hx2)⟩

set_option maxRecDepth 100000 in
set_option maxHeartbeats 4000000 in
theorem vmay2 (w : World) (n : Int) (s : List UInt8) (b : Bool) :
    Calls Tryz.prog 33 #[.agg #[.int .i64 2, .int .i64 n, .string (strOf s), .bool b]] w fun e w' => e = .returned (.bool (decide (n = 0) && !b && decide (s.length ≤ 32))) ∧ Ext w w' := by
  obtain ⟨c0, c1, c2, c3⟩ := box28 w 2 n s b
  have t1 := ta92
  have t2 := ta99
  by_cases hn : n = 0
  · subst hn
    cases b
    · have hr : (decide ((0 : Int) = 0) && !false && decide (s.length ≤ 32)) = decide (((strOf s).size : Int) ≤ 32) := by
        rw [strOf_size]
        simp only [decide_true, Bool.not_false, Bool.true_and]
        rw [Bool.eq_iff_iff, decide_eq_true_iff, decide_eq_true_iff]; omega
      rw [hr]
      clear hr
      go_enter Tryz.func33, Tryz.ntmps33
      go_upto_region 7 with go_in
      refine wp_region_facts [Fact.eq (.agg #[.int .i64 2, .int .i64 0, .string (strOf s), .bool false]),
          Fact.eq (.string (strOf s)),
          Fact.eq (.agg #[.int .i64 2, .int .i64 0, .string (strOf s), .bool false]),
          Fact.eq (.bool true),
          Fact.eq (.bool true),
          Fact.eq (.string (strOf s)),
          Fact.eq (.int .i64 (strOf s).size),
          Fact.eq (.bool (decide (((strOf s).size : Int) ≤ 32))),
          Fact.eq (.bool (decide (((strOf s).size : Int) ≤ 32))),
          Fact.eq (.bool (decide (((strOf s).size : Int) ≤ 32)))]
        [[], [], [(1, 19)], [(0, 18), (2, 20)], [(3, 21)], [(4, 22)], [(5, 23), (4, 22)], [(6, 24), (4, 22)], [(4, 22), (7, 25)], [(8, 26)]]
        [(0, 18), (1, 19), (2, 20), (3, 21), (4, 22), (5, 23), (6, 24), (7, 25), (8, 26), (9, 2)] (by kernel_rfl) (by kernel_rfl) ?_ ?_
      · refine ⟨?_, ?_, ?_, ?_, ?_, ?_, ?_, ?_, ?_, ?_, trivial⟩
        · intro w1 hx1; change wpList _ _ _ _ _ _; have m0 := hx1.cell c0; have m1 := hx1.cell c1; have m2 := hx1.cell c2; have m3 := hx1.cell c3; go_wp2_with fail; exact ⟨rfl, Ext.refl _, rfl, rfl⟩
        · intro w1 hx1; change wpList _ _ _ _ _ _; exact ob_move rfl rfl rfl rfl rfl
        · intro w1 hx1; rintro _ rfl; change wpList _ _ _ _ _ _; go_wp2_with fail; refine (word_any _ _).mono ?_; rintro e w2 ⟨rfl, hx2⟩; go_wp2_with fail; exact ⟨rfl, hx2.1, rfl, rfl⟩
        · intro w1 hx1; rintro _ rfl; rintro _ rfl; change wpList _ _ _ _ _ _; go_wp2_with fail; exact ⟨rfl, Ext.refl _, rfl, rfl⟩
        · intro w1 hx1; rintro _ rfl; change wpList _ _ _ _ _ _; exact ob_move rfl rfl rfl rfl rfl
        · intro w1 hx1; rintro _ rfl; change wpList _ _ _ _ _ _; exact ob_move rfl rfl rfl rfl rfl
        · intro w1 hx1; rintro _ rfl; rintro _ rfl; change wpList _ _ _ _ _ _; go_wp2_with fail; exact ⟨rfl, Ext.refl _, rfl, rfl⟩
        · intro w1 hx1; rintro _ rfl; rintro _ rfl; change wpList _ _ _ _ _ _; go_wp2_with fail; exact ⟨rfl, Ext.refl _, rfl, rfl⟩
        · intro w1 hx1; rintro _ rfl; rintro _ rfl; change wpList _ _ _ _ _ _; exact ob_pick rfl rfl rfl rfl rfl rfl
        · intro w1 hx1; rintro _ rfl; change wpList _ _ _ _ _ _; exact ob_assign rfl rfl rfl rfl rfl
      · intro w1 hx1; rintro _ rfl; rintro _ rfl; rintro _ rfl; rintro _ rfl; rintro _ rfl; rintro _ rfl; rintro _ rfl; rintro _ rfl; rintro _ rfl; rintro _ rfl; refine depsThen_nil ?_; dsimp only; simp only [Act.put, List.setIfInBounds_toArray, List.set_cons_zero, List.set_cons_succ]
        go_wp2_with fail
        go_ret
        exact ⟨rfl, (((Ext.refl w).alloc _).alloc _).trans hx1⟩
    · have hr : (decide ((0 : Int) = 0) && !true && decide (s.length ≤ 32)) = false := by simp
      rw [hr]
      clear hr
      go_enter Tryz.func33, Tryz.ntmps33
      go_upto_region 7 with go_in
      refine wp_region_facts [Fact.eq (.agg #[.int .i64 2, .int .i64 0, .string (strOf s), .bool true]),
          Fact.eq (.string (strOf s)),
          Fact.eq (.agg #[.int .i64 2, .int .i64 0, .string (strOf s), .bool false]),
          Fact.eq (.bool false),
          Fact.eq (.bool false),
          Fact.eq undef,
          Fact.eq undef,
          Fact.eq undef,
          Fact.eq (.bool false),
          Fact.eq (.bool false)]
        [[], [], [(1, 19)], [(0, 18), (2, 20)], [(3, 21)], [(4, 22)], [(5, 23), (4, 22)], [(6, 24), (4, 22)], [(4, 22), (7, 25)], [(8, 26)]]
        [(0, 18), (1, 19), (2, 20), (3, 21), (4, 22), (5, 23), (6, 24), (7, 25), (8, 26), (9, 2)] (by kernel_rfl) (by kernel_rfl) ?_ ?_
      · refine ⟨?_, ?_, ?_, ?_, ?_, ?_, ?_, ?_, ?_, ?_, trivial⟩
        · intro w1 hx1; change wpList _ _ _ _ _ _; have m0 := hx1.cell c0; have m1 := hx1.cell c1; have m2 := hx1.cell c2; have m3 := hx1.cell c3; go_wp2_with fail; exact ⟨rfl, Ext.refl _, rfl, rfl⟩
        · intro w1 hx1; change wpList _ _ _ _ _ _; exact ob_move rfl rfl rfl rfl rfl
        · intro w1 hx1; rintro _ rfl; change wpList _ _ _ _ _ _; go_wp2_with fail; refine (word_any _ _).mono ?_; rintro e w2 ⟨rfl, hx2⟩; go_wp2_with fail; exact ⟨rfl, hx2.1, rfl, rfl⟩
        · intro w1 hx1; rintro _ rfl; rintro _ rfl; change wpList _ _ _ _ _ _; go_wp2_with fail; exact ⟨rfl, Ext.refl _, rfl, rfl⟩
        · intro w1 hx1; rintro _ rfl; change wpList _ _ _ _ _ _; exact ob_move rfl rfl rfl rfl rfl
        · intro w1 hx1; rintro _ rfl; change wpList _ _ _ _ _ _; exact ob_skip rfl rfl rfl rfl
        · intro w1 hx1; rintro _ rfl; rintro _ rfl; change wpList _ _ _ _ _ _; exact ob_skip rfl rfl rfl rfl
        · intro w1 hx1; rintro _ rfl; rintro _ rfl; change wpList _ _ _ _ _ _; exact ob_skip rfl rfl rfl rfl
        · intro w1 hx1; rintro _ rfl; rintro _ rfl; change wpList _ _ _ _ _ _; exact ob_pick rfl rfl rfl rfl rfl rfl
        · intro w1 hx1; rintro _ rfl; change wpList _ _ _ _ _ _; exact ob_assign rfl rfl rfl rfl rfl
      · intro w1 hx1; rintro _ rfl; rintro _ rfl; rintro _ rfl; rintro _ rfl; rintro _ rfl; rintro _ rfl; rintro _ rfl; rintro _ rfl; rintro _ rfl; rintro _ rfl; refine depsThen_nil ?_; dsimp only; simp only [Act.put, List.setIfInBounds_toArray, List.set_cons_zero, List.set_cons_succ]
        go_wp2_with fail
        go_ret
        exact ⟨rfl, (((Ext.refl w).alloc _).alloc _).trans hx1⟩
  · have hr : (decide (n = 0) && !b && decide (s.length ≤ 32)) = false := by rw [decide_eq_false hn]; rfl
    rw [hr]
    have hd := beq_int_ne hn
    clear hr hn
    go_enter Tryz.func33, Tryz.ntmps33
    go_upto_region 7 with go_in
    refine wp_region_facts [Fact.eq (.agg #[.int .i64 2, .int .i64 n, .string (strOf s), .bool b]),
        Fact.eq (.string (strOf s)),
        Fact.eq (.agg #[.int .i64 2, .int .i64 0, .string (strOf s), .bool false]),
        Fact.eq (.bool false),
        Fact.eq (.bool false),
        Fact.eq undef,
        Fact.eq undef,
        Fact.eq undef,
        Fact.eq (.bool false),
        Fact.eq (.bool false)]
      [[], [], [(1, 19)], [(0, 18), (2, 20)], [(3, 21)], [(4, 22)], [(5, 23), (4, 22)], [(6, 24), (4, 22)], [(4, 22), (7, 25)], [(8, 26)]]
      [(0, 18), (1, 19), (2, 20), (3, 21), (4, 22), (5, 23), (6, 24), (7, 25), (8, 26), (9, 2)] (by kernel_rfl) (by kernel_rfl) ?_ ?_
    · refine ⟨?_, ?_, ?_, ?_, ?_, ?_, ?_, ?_, ?_, ?_, trivial⟩
      · intro w1 hx1; change wpList _ _ _ _ _ _; have m0 := hx1.cell c0; have m1 := hx1.cell c1; have m2 := hx1.cell c2; have m3 := hx1.cell c3; go_wp2_with fail; exact ⟨rfl, Ext.refl _, rfl, rfl⟩
      · intro w1 hx1; change wpList _ _ _ _ _ _; exact ob_move rfl rfl rfl rfl rfl
      · intro w1 hx1; rintro _ rfl; change wpList _ _ _ _ _ _; go_wp2_with fail; refine (word_any _ _).mono ?_; rintro e w2 ⟨rfl, hx2⟩; go_wp2_with fail; exact ⟨rfl, hx2.1, rfl, rfl⟩
      · intro w1 hx1; rintro _ rfl; rintro _ rfl; change wpList _ _ _ _ _ _; go_wp2_with fail; exact ⟨rfl, Ext.refl _, rfl, rfl⟩
      · intro w1 hx1; rintro _ rfl; change wpList _ _ _ _ _ _; exact ob_move rfl rfl rfl rfl rfl
      · intro w1 hx1; rintro _ rfl; change wpList _ _ _ _ _ _; exact ob_skip rfl rfl rfl rfl
      · intro w1 hx1; rintro _ rfl; rintro _ rfl; change wpList _ _ _ _ _ _; exact ob_skip rfl rfl rfl rfl
      · intro w1 hx1; rintro _ rfl; rintro _ rfl; change wpList _ _ _ _ _ _; exact ob_skip rfl rfl rfl rfl
      · intro w1 hx1; rintro _ rfl; rintro _ rfl; change wpList _ _ _ _ _ _; exact ob_pick rfl rfl rfl rfl rfl rfl
      · intro w1 hx1; rintro _ rfl; change wpList _ _ _ _ _ _; exact ob_assign rfl rfl rfl rfl rfl
    · intro w1 hx1; rintro _ rfl; rintro _ rfl; rintro _ rfl; rintro _ rfl; rintro _ rfl; rintro _ rfl; rintro _ rfl; rintro _ rfl; rintro _ rfl; rintro _ rfl; refine depsThen_nil ?_; dsimp only; simp only [Act.put, List.setIfInBounds_toArray, List.set_cons_zero, List.set_cons_succ]
      go_wp2_with fail
      go_ret
      exact ⟨rfl, (((Ext.refl w).alloc _).alloc _).trans hx1⟩

set_option maxRecDepth 100000 in
set_option maxHeartbeats 4000000 in
theorem vmay3 (w : World) (n : Int) (s : List UInt8) (b : Bool) :
    Calls Tryz.prog 33 #[.agg #[.int .i64 3, .int .i64 n, .string (strOf s), .bool b]] w fun e w' => e = .returned (.bool (decide (n = 0) && s.isEmpty)) ∧ Grew w w' := by
  obtain ⟨c0, c1, c2, c3⟩ := box28 w 3 n s b
  have t1 := ta42
  have t2 := ta49
  have t3 := ta44
  by_cases hn : n = 0
  · subst hn
    cases s
    all_goals
      go_enter Tryz.func33, Tryz.ntmps33
      go_upto_region 10 with go_in
      go_region_law (go_simp; go_at_call 73; refine (truth_any _ _).mono ?_; rintro e w2 ⟨rfl, hx2⟩; have m0 := hx2.1.cell c0; have m1 := hx2.1.cell c1; have m2 := hx2.1.cell c2; have m3 := hx2.1.cell c3)
      all_goals
        go_wp2_with fail
        go_ret
        exact ⟨rfl, (((Grew.refl w).alloc _).alloc _).trans ((Grew.refl _).drew.trans hx2)⟩
  · have hr : (decide (n = 0) && s.isEmpty) = false := by rw [decide_eq_false hn]; rfl
    rw [hr]
    have hd := beq_int_ne hn
    clear hr hn
    go_enter Tryz.func33, Tryz.ntmps33
    go_upto_region 10 with go_in
    go_region_law (go_simp; go_at_call 73; refine (truth_any _ _).mono ?_; rintro e w2 ⟨rfl, hx2⟩; have m0 := hx2.1.cell c0; have m1 := hx2.1.cell c1; have m2 := hx2.1.cell c2; have m3 := hx2.1.cell c3)
    all_goals
      go_wp2_with fail
      go_ret
      exact ⟨rfl, (((Grew.refl w).alloc _).alloc _).trans ((Grew.refl _).drew.trans hx2)⟩

set_option maxRecDepth 100000 in
set_option maxHeartbeats 4000000 in
theorem vmay_any (w : World) (v : V) : Calls Tryz.prog 33 #[.agg #[.int .i64 v.k, .int .i64 v.n, .string (strOf v.s), .bool v.b]] w fun e w' => e = .returned (.bool (mayV v)) ∧ Ext w w' := by
  obtain ⟨k, n, s, b⟩ := v
  unfold mayV
  by_cases h1 : k = 1
  · subst h1; exact (vmay1 w n s b).mono fun _ _ h => ⟨h.1, h.2.1⟩
  by_cases h2 : k = 2
  · subst h2; exact vmay2 w n s b
  by_cases h3 : k = 3
  · subst h3; exact (vmay3 w n s b).mono fun _ _ h => ⟨h.1, h.2.1⟩
  simp only [if_neg h1, if_neg h2, if_neg h3]
  have d1 := beq_int_ne h1
  have d2 := beq_int_ne h2
  have d3 := beq_int_ne h3
  have t1 := ta02
  have t2 := ta09
  have t3 := ta04
  clear h1 h2 h3
  go_enter Tryz.func33, Tryz.ntmps33
  go_wp2_with go_in
  go_ret
  exact ⟨rfl, ((Ext.refl w).alloc _).alloc _⟩
end Go.Proofs.YtcgflkfbjnpdiaaGreat

namespace Go.Proofs.YtcgflkfbjnpdiaaGreat
open Go.RowKit

theorem ent72 : ∀ args w, (callFunc 32 args).run Tryz.prog w = .ok (.enter 32 args) w := enters_of Tryz.func32 (by kernel_rfl) rfl
theorem ent63 : ∀ args w, (callFunc 28 args).run Tryz.prog w = .ok (.enter 28 args) w := enters_of Tryz.func28 (by kernel_rfl) rfl

set_option maxRecDepth 100000 in
set_option maxHeartbeats 2000000 in
theorem may72_any (w : World) (v : V) : Calls Tryz.prog 32 #[.agg #[.int .i64 v.k, .int .i64 v.n, .string (strOf v.s), .bool v.b]] w fun e w' => e = .returned (.bool (!mayV v)) ∧ Ext w w' := by
  have hx0 : Ext w (w.alloc (.cells #[.int .i64 v.k, .int .i64 v.n, .string (strOf v.s), .bool v.b] 34)) := (Ext.refl w).alloc _
  go_enter Tryz.func32, Tryz.ntmps32
  go_wp2_with (go_at_call 33; refine (vmay_any _ v).mono ?_; rintro e w2 ⟨rfl, hx2⟩)
  go_ret
  exact ⟨rfl, hx0.trans hx2⟩

theorem bareV_eq (v : V) : bareV v = ((v.k == 0) && ((v.n == 0) && ((v.s == []) && (v.b == false)))) := by
  obtain ⟨k, n, s, b⟩ := v
  unfold bareV
  rw [Bool.eq_iff_iff]
  simp

/-- MayCons's answer, by its tests. -/
def mayT (len op vk : Int) (sl : Nat) (B M S : Bool) : Bool :=
  if decide (len < 1) || decide (16 < len) then false
  else if op = 1 then B && decide (sl = 0)
  else if 2 ≤ op ∧ op ≤ 7 then M && decide (sl = 0)
  else if op = 8 then M && decide (vk = 2) && decide (sl = 0)
  else if op = 9 then B && decide (1 ≤ sl) && decide (sl ≤ 6) && S
  else false
theorem mayC_T (c : C) : mayC c = mayT (strOf c.name).size c.op c.v.k c.set.length (bareV c.v) (mayV c.v) (!(c.set.any fun x => !mayV x)) := by
  have hS : (!(c.set.any fun x => !mayV x)) = c.set.all mayV := by
    generalize c.set = l
    induction l with
    | nil => rfl
    | cons x l ih => rw [List.any_cons, List.all_cons, ← ih]; cases mayV x <;> simp
  have hE : c.set.isEmpty = decide (c.set.length = 0) := by cases c.set <;> simp
  unfold mayC mayT
  rw [hS, hE, strOf_size]
  have hI : (decide (((c.name.length : Nat) : Int) < 1) || decide ((16 : Int) < ((c.name.length : Nat) : Int))) = decide (c.name.length < 1 ∨ 16 < c.name.length) := by
    rw [Bool.eq_iff_iff]
    simp only [Bool.or_eq_true, decide_eq_true_eq]; omega
  rw [hI]
  by_cases h : c.name.length < 1 ∨ 16 < c.name.length
  · rw [if_pos h, decide_eq_true h]; rfl
  · rw [if_neg h, decide_eq_false h]; rfl

set_option maxRecDepth 100000 in
set_option maxHeartbeats 8000000 in
theorem maycons_any (w : World) (c : C) (sa : Option Addr) (sc : Nat) (hs : SetR w (.slice sa c.set.length sc) c.set) :
    Calls Tryz.prog 14 #[.agg #[.string (strOf c.name), .int .i64 c.op, .int .i64 c.v.k, .int .i64 c.v.n, .string (strOf c.v.s), .bool c.v.b, .slice sa c.set.length sc]] w
      fun e w' => e = .returned (.bool (mayC c)) ∧ Ext w w' := by
  have hx0 : Ext w (w.alloc (.cells #[.string (strOf c.name), .int .i64 c.op, .int .i64 c.v.k, .int .i64 c.v.n, .string (strOf c.v.s), .bool c.v.b, .slice sa c.set.length sc] 37)) := (Ext.refl w).alloc _
  have hB : CBox (w.alloc (.cells #[.string (strOf c.name), .int .i64 c.op, .int .i64 c.v.k, .int .i64 c.v.n, .string (strOf c.v.s), .bool c.v.b, .slice sa c.set.length sc] 37)) w.heap.size c sa sc := ⟨heap_alloc_new _ _, hs.ext hx0⟩
  rw [mayC_T]
  have hbare := Lib.hid (bareV_eq c.v)
  obtain ⟨_, _, es, hcs, hms⟩ := Row.shape hs
  simp only [Value.slice.injEq] at es
  obtain ⟨rfl, -, rfl⟩ := es
  unfold maxLen at hms
  clear hs
  by_cases hn1 : ((strOf c.name).size : Int) < 1
  · have hT : mayT (strOf c.name).size c.op c.v.k c.set.length (bareV c.v) (mayV c.v) (!(c.set.any fun x => !mayV x)) = false := by
      unfold mayT; rw [decide_eq_true hn1]; rfl
    rw [hT]
    have d1 : decide (((strOf c.name).size : Int) < 1) = true := decide_eq_true hn1
    clear hT hn1
    go_enter Tryz.func14, Tryz.ntmps14
    go_wp2_with fail
    go_ret
    exact ⟨rfl, hx0⟩
  have d1 : decide (((strOf c.name).size : Int) < 1) = false := decide_eq_false hn1
  by_cases hn2 : (16 : Int) < ((strOf c.name).size : Int)
  · have hT : mayT (strOf c.name).size c.op c.v.k c.set.length (bareV c.v) (mayV c.v) (!(c.set.any fun x => !mayV x)) = false := by
      unfold mayT; rw [decide_eq_true hn2, Bool.or_true]; rfl
    rw [hT]
    have d2 : decide ((16 : Int) < ((strOf c.name).size : Int)) = true := decide_eq_true hn2
    have d3 : ¬ ((strOf c.name).size < 1) := by omega
    have d4 : 16 < (strOf c.name).size := by omega
    clear hT hn2 hn1
    go_enter Tryz.func14, Tryz.ntmps14
    go_wp2_with fail
    go_ret
    exact ⟨rfl, hx0⟩
  have d2 : decide ((16 : Int) < ((strOf c.name).size : Int)) = false := decide_eq_false hn2
  have hT : mayT (strOf c.name).size c.op c.v.k c.set.length (bareV c.v) (mayV c.v) (!(c.set.any fun x => !mayV x)) = 
      (if c.op = 1 then bareV c.v && decide (c.set.length = 0)
       else if 2 ≤ c.op ∧ c.op ≤ 7 then mayV c.v && decide (c.set.length = 0)
       else if c.op = 8 then mayV c.v && decide (c.v.k = 2) && decide (c.set.length = 0)
       else if c.op = 9 then bareV c.v && decide (1 ≤ c.set.length) && decide (c.set.length ≤ 6) && (!(c.set.any fun x => !mayV x))
       else false) := by
    unfold mayT; rw [d1, d2]; rfl
  rw [hT]
  clear hT
  generalize hbv : bareV c.v = B at *
  clear hbv
  have HT : ∃ R : Bool, R = (if c.op = 1 then B && decide (c.set.length = 0)
       else if 2 ≤ c.op ∧ c.op ≤ 7 then mayV c.v && decide (c.set.length = 0)
       else if c.op = 8 then mayV c.v && decide (c.v.k = 2) && decide (c.set.length = 0)
       else if c.op = 9 then B && decide (1 ≤ c.set.length) && decide (c.set.length ≤ 6) && (!(c.set.any fun x => !mayV x))
       else false) := ⟨_, rfl⟩
  obtain ⟨R, hR⟩ := HT
  rw [← hR]
  have HR := Lib.hid hR
  clear hR
  have hcon := fun W h => hasV_any W (.slice sa c.set.length sc) c.set h 32 #[] (fun x => !mayV x) ent72 (fun W x hx _ => may72_any W x)
  have HM := fun W => vmay_any W c.v
  have hxa := hB.cell
  go_enter Tryz.func14, Tryz.ntmps14
  go_upto_region 3 with fail
  generalize w.alloc (.cells #[.string (strOf c.name), .int .i64 c.op, .int .i64 c.v.k, .int .i64 c.v.n, .string (strOf c.v.s), .bool c.v.b, .slice sa c.set.length sc] 37) = wa at *
  obtain ⟨c0, c1, c2, c3, c4, c5, c6⟩ := hxa
  go_cut [3] from 15 to 18 (fun v3 wx => v3 = .bool B ∧ wx = wa)
  case first =>
    clear hcon HM
    cases b1 : (c.v.k == 0)
    · go_wp2_with fail
      go_meet
      exact ⟨by rw [hbare.out, b1]; rfl, rfl⟩
    · cases b2 : (c.v.n == 0)
      · go_wp2_with fail
        go_meet
        exact ⟨by rw [hbare.out, b1, b2]; rfl, rfl⟩
      · cases b3 : (c.v.s == [])
        · go_wp2_with fail
          go_meet
          exact ⟨by rw [hbare.out, b1, b2, b3]; rfl, rfl⟩
        · cases b4 : (c.v.b == false)
          · go_wp2_with fail
            go_meet
            exact ⟨by rw [hbare.out, b1, b2, b3, b4]; rfl, rfl⟩
          · go_wp2_with fail
            go_meet
            exact ⟨by rw [hbare.out, b1, b2, b3, b4]; rfl, rfl⟩
  case rest =>
    obtain ⟨rfl, rfl⟩ := hcut
    clear hbare
    generalize (c.set.any fun x => !mayV x) = S at *
    generalize mayV c.v = M at *
    have hsl := hB.s
    have HB := Lib.hid hB
    clear hB
    go_upto_region 5 with (go_at_call 31; refine (hcon _ hsl).mono ?_; rintro e w2 ⟨rfl, hx2⟩; have m1 := hx2.cell c1; have m2 := hx2.cell c2; have m3 := hx2.cell c3; have m4 := hx2.cell c4; have m5 := hx2.cell c5; have m6 := hx2.cell c6)
    clear hcon c0 c1 c2 c3 c4 c5 c6 d1 d2 hn1 hn2
    have hxw := hx0.trans hx2
    by_cases h1 : c.op = 1
    · have d1 : (c.op == 1) = true := beq_iff_eq.2 h1
      have hr : Hid (R = (B && decide (c.set.length = 0))) := by show _ = _; rw [HR.out, if_pos h1]
      clear HR h1
      generalize c.set.length = n at *
      cases B
      · go_wp2_with fail
        go_ret
        exact ⟨by rw [hr.out]; rfl, hxw⟩
      · by_cases hz : n = 0
        · have z1 : ((n : Int) == 0) = true := beq_iff_eq.2 (by omega)
          go_wp2_with fail
          go_ret
          exact ⟨by rw [hr.out, decide_eq_true hz]; rfl, hxw⟩
        · have z1 : ((n : Int) == 0) = false := beq_eq_false_iff_ne.2 (by omega)
          go_wp2_with fail
          go_ret
          exact ⟨by rw [hr.out, decide_eq_false hz]; rfl, hxw⟩
    have e1 := beq_int_ne h1
    by_cases h27 : 2 ≤ c.op ∧ c.op ≤ 7
    · have d1 : decide (2 ≤ c.op) = true := decide_eq_true h27.1
      have d2 : decide (c.op ≤ 7) = true := decide_eq_true h27.2
      have hr : Hid (R = (M && decide (c.set.length = 0))) := by show _ = _; rw [HR.out, if_neg h1, if_pos h27]
      clear HR h1 h27
      generalize c.set.length = n at *
      cases M
      · go_wp2_with (go_at_call 33; refine (HM _).mono ?_; rintro e w3 ⟨rfl, hx3⟩; have m6 := hx3.cell m6)
        go_ret
        exact ⟨by rw [hr.out]; rfl, hxw.trans hx3⟩
      · by_cases hz : n = 0
        · have z1 : ((n : Int) == 0) = true := beq_iff_eq.2 (by omega)
          go_wp2_with (go_at_call 33; refine (HM _).mono ?_; rintro e w3 ⟨rfl, hx3⟩; have m6 := hx3.cell m6)
          go_ret
          exact ⟨by rw [hr.out, decide_eq_true hz]; rfl, hxw.trans hx3⟩
        · have z1 : ((n : Int) == 0) = false := beq_eq_false_iff_ne.2 (by omega)
          go_wp2_with (go_at_call 33; refine (HM _).mono ?_; rintro e w3 ⟨rfl, hx3⟩; have m6 := hx3.cell m6)
          go_ret
          exact ⟨by rw [hr.out, decide_eq_false hz]; rfl, hxw.trans hx3⟩
    by_cases h8 : c.op = 8
    · have d1 : (c.op == 8) = true := beq_iff_eq.2 h8
      have d2 : decide (2 ≤ c.op) = true := decide_eq_true (by omega)
      have d3 : decide (c.op ≤ 7) = false := decide_eq_false (by omega)
      have hr : Hid (R = (M && decide (c.v.k = 2) && decide (c.set.length = 0))) := by show _ = _; rw [HR.out, if_neg h1, if_neg h27, if_pos h8]
      clear HR h1 h27 h8
      generalize c.set.length = n at *
      cases M
      · go_wp2_with (go_at_call 33; refine (HM _).mono ?_; rintro e w3 ⟨rfl, hx3⟩; have m6 := hx3.cell m6; have m2 := hx3.cell m2)
        go_ret
        exact ⟨by rw [hr.out]; rfl, hxw.trans hx3⟩
      · by_cases hk : c.v.k = 2
        · have k1 : (c.v.k == 2) = true := beq_iff_eq.2 hk
          replace hk := Lib.hid hk
          by_cases hz : n = 0
          · have z1 : ((n : Int) == 0) = true := beq_iff_eq.2 (by omega)
            replace hz := Lib.hid hz
            go_wp2_with (go_at_call 33; refine (HM _).mono ?_; rintro e w3 ⟨rfl, hx3⟩; have m6 := hx3.cell m6; have m2 := hx3.cell m2)
            go_ret
            exact ⟨by rw [hr.out, decide_eq_true hk.out, decide_eq_true hz.out]; rfl, hxw.trans hx3⟩
          · have z1 : ((n : Int) == 0) = false := beq_eq_false_iff_ne.2 (by omega)
            replace hz := Lib.hid hz
            go_wp2_with (go_at_call 33; refine (HM _).mono ?_; rintro e w3 ⟨rfl, hx3⟩; have m6 := hx3.cell m6; have m2 := hx3.cell m2)
            go_ret
            exact ⟨by rw [hr.out, decide_eq_true hk.out, decide_eq_false hz.out]; rfl, hxw.trans hx3⟩
        · have k1 := beq_int_ne hk
          replace hk := Lib.hid hk
          go_wp2_with (go_at_call 33; refine (HM _).mono ?_; rintro e w3 ⟨rfl, hx3⟩; have m6 := hx3.cell m6; have m2 := hx3.cell m2)
          go_ret
          exact ⟨by rw [hr.out, decide_eq_false hk.out]; rfl, hxw.trans hx3⟩
    have e8 := beq_int_ne h8
    have e27 : (decide (2 ≤ c.op) = false) ∨ (decide (2 ≤ c.op) = true ∧ decide (c.op ≤ 7) = false) := by
      by_cases h2 : 2 ≤ c.op
      · exact Or.inr ⟨decide_eq_true h2, decide_eq_false fun h => h27 ⟨h2, h⟩⟩
      · exact Or.inl (decide_eq_false h2)
    by_cases h9 : c.op = 9
    · have d1 : (c.op == 9) = true := beq_iff_eq.2 h9
      have d2 : decide (2 ≤ c.op) = true := decide_eq_true (by omega)
      have d3 : decide (c.op ≤ 7) = false := decide_eq_false (by omega)
      have hr : Hid (R = (B && decide (1 ≤ c.set.length) && decide (c.set.length ≤ 6) && (!S))) := by show _ = _; rw [HR.out, if_neg h1, if_neg h27, if_neg h8, if_pos h9]
      clear HR h1 h27 h8 h9 e27
      generalize c.set.length = n at *
      cases B
      · go_wp2_with fail
        go_ret
        exact ⟨by rw [hr.out]; rfl, hxw⟩
      · by_cases hz : 1 ≤ n
        · have z1 : decide ((1 : Int) ≤ (n : Int)) = true := decide_eq_true (by omega)
          have z2 : 1 ≤ n := hz
          by_cases hy : n ≤ 6
          · have y1 : decide ((n : Int) ≤ 6) = true := decide_eq_true (by omega)
            have y2 : n ≤ 6 := hy
            go_wp2_with fail
            go_ret
            exact ⟨by rw [hr.out, decide_eq_true hz, decide_eq_true hy]; rfl, hxw⟩
          · have y1 : decide ((n : Int) ≤ 6) = false := decide_eq_false (by omega)
            have y2 : ¬ n ≤ 6 := hy
            go_wp2_with fail
            go_ret
            exact ⟨by rw [hr.out, decide_eq_true hz, decide_eq_false hy]; rfl, hxw⟩
        · have z1 : decide ((1 : Int) ≤ (n : Int)) = false := decide_eq_false (by omega)
          have z2 : ¬ 1 ≤ n := hz
          have z3 : n = 0 := by omega
          go_wp2_with fail
          go_ret
          exact ⟨by rw [hr.out, decide_eq_false hz]; cases S <;> rfl, hxw⟩
    have e9 := beq_int_ne h9
    have hr : Hid (R = false) := by show _ = _; rw [HR.out, if_neg h1, if_neg h27, if_neg h8, if_neg h9]
    clear HR h1 h27 h8 h9
    rcases e27 with e2 | ⟨e2, e7⟩
    · go_wp2_with fail
      go_ret
      exact ⟨by rw [hr.out]; rfl, hxw⟩
    · go_wp2_with fail
      go_ret
      exact ⟨by rw [hr.out]; rfl, hxw⟩

set_option maxRecDepth 100000 in
set_option maxHeartbeats 2000000 in
theorem may63_any (w : World) (c : C) (sa : Option Addr) (sc : Nat) (hs : SetR w (.slice sa c.set.length sc) c.set) :
    Calls Tryz.prog 28 #[.agg #[.string (strOf c.name), .int .i64 c.op, .int .i64 c.v.k, .int .i64 c.v.n, .string (strOf c.v.s), .bool c.v.b, .slice sa c.set.length sc]] w
      fun e w' => e = .returned (.bool (!mayC c)) ∧ Ext w w' := by
  have hx0 : Ext w (w.alloc (.cells #[.string (strOf c.name), .int .i64 c.op, .int .i64 c.v.k, .int .i64 c.v.n, .string (strOf c.v.s), .bool c.v.b, .slice sa c.set.length sc] 37)) := (Ext.refl w).alloc _
  have hs0 := hs.ext hx0
  go_enter Tryz.func28, Tryz.ntmps28
  go_wp2_with (go_at_call 14; refine (maycons_any _ c sa sc hs0).mono ?_; rintro e w2 ⟨rfl, hx2⟩)
  go_ret
  exact ⟨rfl, hx0.trans hx2⟩

set_option maxRecDepth 100000 in
set_option maxHeartbeats 2000000 in
theorem pmay_any (w : World) (v : Value) (p : List C) (hp : PredR w v p) :
    Calls Tryz.prog 9 #[v] w fun e w' => e = .returned (.bool (mayP p)) ∧ Ext w w' := by
  have hcon := fun W (hx : Ext w W) => hasC_any W v p (hp.ext hx) 28 #[] (fun c => !mayC c) ent63 (fun W' x sa sc _ _ hs => may63_any W' x sa sc hs)
  have hres : mayP p = (decide (p.length ≤ 6) && !(p.any fun c => !mayC c)) := by
    unfold mayP
    congr 1
    clear hp hcon
    induction p with
    | nil => rfl
    | cons c p ih => rw [List.all_cons, List.any_cons, ih]; cases mayC c <;> simp
  rw [hres]
  obtain ⟨ap, cp, rfl, hcp, hmp⟩ := hp.shape
  unfold maxLen at hmp
  clear hres hp
  generalize (p.any fun c => !mayC c) = S at *
  by_cases hl : p.length ≤ 6
  · have d1 : decide ((p.length : Int) ≤ 6) = true := decide_eq_true (by omega)
    rw [decide_eq_true hl]
    go_enter Tryz.func9, Tryz.ntmps9
    go_wp2_with (go_at_call 27; refine (hcon _ (Ext.refl _)).mono ?_; rintro e w' ⟨rfl, hx⟩)
    go_ret
    exact ⟨rfl, hx⟩
  · have d1 : decide ((p.length : Int) ≤ 6) = false := decide_eq_false (by omega)
    rw [decide_eq_false hl]
    go_enter Tryz.func9, Tryz.ntmps9
    go_wp2_with fail
    go_ret
    exact ⟨rfl, Ext.refl w⟩
end Go.Proofs.YtcgflkfbjnpdiaaGreat

namespace Go.Proofs.YtcgflkfbjnpdiaaGreat
open Go.RowKit

def orL : List Int → Int
  | [] => 0
  | x :: r => if x = 0 then orL r else x
theorem orL4 (a b c d : Int) : orL [a, b, c, d] = or2 a (or2 b (or2 c d)) := by
  simp only [orL, or2]
  (repeat' split) <;> simp_all
theorem orL_zero {l : List Int} {k : Nat} (hk : k < l.length) (h : l[k] = 0) : orL (l.drop k) = orL (l.drop (k + 1)) := by
  rw [List.drop_eq_getElem_cons hk, orL, if_pos h]
theorem orL_hit {l : List Int} {k : Nat} (hk : k < l.length) (h : l[k] ≠ 0) : orL (l.drop k) = l[k] := by
  rw [List.drop_eq_getElem_cons hk, orL, if_neg h]

set_option maxRecDepth 100000 in
set_option maxHeartbeats 2000000 in
theorem or_any (w : World) (v : Value) (l : List Int) (h : Row w 1 v l.length (l.map (Value.int .i64))) : Calls Tryz.prog 68 #[v] w fun e w' => e = .returned (.int .i64 (orL l)) ∧ w' = w := by
  obtain ⟨a, cap, rfl, hc, hm⟩ := Row.shape h
  unfold maxLen at hm
  generalize hn : l.length = n at *
  have HN := Lib.hid hn
  clear hn
  go_enter Tryz.func68, Tryz.ntmps68
  go_wp2_with fail
  go_loopw [5, 8] (fun _ i wr => ∃ k : Nat, k ≤ n ∧ i = .int .i64 k ∧ Hid (orL (l.drop k) = orL l) ∧ wr = w) (fun _ i _ => n - (intOf i).toNat)
  case atStart => exact ⟨0, Nat.zero_le _, rfl, rfl, rfl⟩
  case round =>
    obtain ⟨k, hk, rfl, hor, rfl⟩ := hrel
    by_cases hlt : k < n
    · have k1 : k < l.length := by rw [HN.out]; exact hlt
      have hI : decide ((k : Int) < (n : Int)) = true := decide_eq_true (by omega)
      obtain ⟨B, o, rfl, f0⟩ := Row.cell h (j := k) (u := .int .i64 l[k]) (by rw [List.getElem?_map, List.getElem?_eq_getElem k1]; rfl) (by omega)
      by_cases hz : l[k] = 0
      · have hnx : Hid (orL (l.drop (k + 1)) = orL l) := by show _ = _; rw [← orL_zero k1 hz, hor.out]
        rw [hz] at f0
        clear hz
        go_wp2_with fail
        go_roundw
        case rel => exact ⟨k + 1, hlt, by go_num, hnx, by first | rfl | trivial⟩
        case measure => simp [intOf]; omega
      · have hhit : Hid (orL l = l[k]) := by show _ = _; rw [← hor.out, orL_hit k1 hz]
        have hd : (l[k] != 0) = true := by simp [hz]
        have hd1 : (l[k] == 0) = false := beq_int_ne hz
        generalize l[k] = x at *
        replace hz := Lib.hid hz
        go_wp2_with fail
        go_ret
        exact ⟨by rw [hhit.out]; rfl, rfl⟩
    · obtain rfl : k = n := by omega
      have hI : decide ((k : Int) < (k : Int)) = false := decide_eq_false (by omega)
      have hz : Hid (orL l = 0) := by show _ = _; rw [← hor.out, ← HN.out, List.drop_length]; rfl
      go_wp2_with fail
      go_ret
      exact ⟨by rw [hz.out]; rfl, rfl⟩

/-- Worlds that grew and drew: a way in which memory may turn. -/
def GrewS : Rg.Step := ⟨Grew, Grew.refl, fun h k => Grew.trans h k, fun w => (Grew.refl w).drew⟩
def Rg.Fact.ints (l : List Int) : Rg.Fact GrewS := ⟨fun v w => Row w 1 v l.length (l.map (Value.int .i64)), fun _ _ _ hx h => Row.ext h hx.1⟩
theorem row_four (w : World) (a b c d : Int) : Row (w.alloc (.cells #[.int .i64 a, .int .i64 b, .int .i64 c, .int .i64 d] 3)) 1 (.slice (some ⟨w.heap.size, 0, none⟩) 4 4) [a, b, c, d].length ([a, b, c, d].map (Value.int .i64)) := by
  have := World.ownsRow_lit (base := w.heap.size) (e := 3) (size := 1) w #[.int .i64 a, .int .i64 b, .int .i64 c, .int .i64 d] 4 (Nat.le_refl _) (by decide) rfl
  exact Row.of_own this

set_option maxRecDepth 100000 in
set_option maxHeartbeats 4000000 in
theorem whole_any (w : World) (a b : V) :
    Calls Tryz.prog 69 #[.agg #[.int .i64 a.k, .int .i64 a.n, .string (strOf a.s), .bool a.b], .agg #[.int .i64 b.k, .int .i64 b.n, .string (strOf b.s), .bool b.b]] w
      fun e w' => e = .returned (.int .i64 (wholeV a b)) ∧ Grew w w' := by
  have hx0 : Grew w ((w.alloc (.cells #[.int .i64 a.k, .int .i64 a.n, .string (strOf a.s), .bool a.b] 34)).alloc (.cells #[.int .i64 b.k, .int .i64 b.n, .string (strOf b.s), .bool b.b] 34)) := ((Grew.refl w).alloc _).alloc _
  have hA : ((w.alloc (.cells #[.int .i64 a.k, .int .i64 a.n, .string (strOf a.s), .bool a.b] 34)).alloc (.cells #[.int .i64 b.k, .int .i64 b.n, .string (strOf b.s), .bool b.b] 34)).heap[w.heap.size]? = some (.cells #[.int .i64 a.k, .int .i64 a.n, .string (strOf a.s), .bool a.b] 34 (0, 0)) := by
    have h := heap_alloc_new w (.cells #[.int .i64 a.k, .int .i64 a.n, .string (strOf a.s), .bool a.b] 34)
    rw [((Ext.refl _).alloc _).block _ (Array.getElem?_eq_some_iff.1 h).1]; exact h
  have hN : ((w.alloc (.cells #[.int .i64 a.k, .int .i64 a.n, .string (strOf a.s), .bool a.b] 34)).alloc (.cells #[.int .i64 b.k, .int .i64 b.n, .string (strOf b.s), .bool b.b] 34)).heap[w.heap.size + 1]? = some (.cells #[.int .i64 b.k, .int .i64 b.n, .string (strOf b.s), .bool b.b] 34 (0, 0)) := by
    have h := heap_alloc_new (w.alloc (.cells #[.int .i64 a.k, .int .i64 a.n, .string (strOf a.s), .bool a.b] 34)) (.cells #[.int .i64 b.k, .int .i64 b.n, .string (strOf b.s), .bool b.b] 34)
    rw [World.size_alloc] at h; exact h
  have a0 := cell_of_row _ _ 0 _ _ _ hA
  have a1 := cell_of_row _ _ 1 _ _ _ hA
  have a2 := cell_of_row _ _ 2 _ _ _ hA
  have a3 := cell_of_row _ _ 3 _ _ _ hA
  have b0 := cell_of_row _ _ 0 _ _ _ hN
  have b1 := cell_of_row _ _ 1 _ _ _ hN
  have b2 := cell_of_row _ _ 2 _ _ _ hN
  have b3 := cell_of_row _ _ 3 _ _ _ hN
  have hres : wholeV a b = orL [cmpV a b, Lib.compareInt a.n b.n, Lib.compareBytes a.s b.s, cmpB a.b b.b] := by rw [orL4]; rfl
  have hcB : ∀ W, Calls Tryz.prog 22 #[.agg #[.int .i64 3, .int .i64 0, .string (strOf []), .bool a.b], .agg #[.int .i64 3, .int .i64 0, .string (strOf []), .bool b.b]] W fun e w' => e = .returned (.int .i64 (cmpB a.b b.b)) ∧ Grew W w' := fun W => compare_any W 3 0 3 0 [] [] a.b b.b
  rw [hres]
  clear hA hN hres
  go_enter Tryz.func69, Tryz.ntmps69
  go_upto_region 1 with fail
  generalize (w.alloc (.cells #[.int .i64 a.k, .int .i64 a.n, .string (strOf a.s), .bool a.b] 34)).alloc (.cells #[.int .i64 b.k, .int .i64 b.n, .string (strOf b.s), .bool b.b] 34) = wa at *
  refine Rg.wp_region_facts GrewS [Rg.Fact.eq _ (.agg #[.int .i64 a.k, .int .i64 a.n, .string (strOf a.s), .bool a.b]),
      Rg.Fact.eq _ (.agg #[.int .i64 b.k, .int .i64 b.n, .string (strOf b.s), .bool b.b]),
      Rg.Fact.eq _ (.int .i64 (cmpV a b)),
      Rg.Fact.eq _ (.pointer (some ⟨w.heap.size, 1, none⟩)),
      Rg.Fact.eq _ (.int .i64 a.n),
      Rg.Fact.eq _ (.pointer (some ⟨w.heap.size + 1, 1, none⟩)),
      Rg.Fact.eq _ (.int .i64 b.n),
      Rg.Fact.eq _ (.int .i64 (Lib.compareInt a.n b.n)),
      Rg.Fact.eq _ (.pointer (some ⟨w.heap.size, 2, none⟩)),
      Rg.Fact.eq _ (.string (strOf a.s)),
      Rg.Fact.eq _ (.pointer (some ⟨w.heap.size + 1, 2, none⟩)),
      Rg.Fact.eq _ (.string (strOf b.s)),
      Rg.Fact.eq _ (.int .i64 (Lib.compareBytes a.s b.s)),
      Rg.Fact.eq _ (.pointer (some ⟨w.heap.size, 3, none⟩)),
      Rg.Fact.eq _ (.bool a.b),
      Rg.Fact.eq _ (.agg #[.int .i64 3, .int .i64 0, .string (strOf []), .bool a.b]),
      Rg.Fact.eq _ (.pointer (some ⟨w.heap.size + 1, 3, none⟩)),
      Rg.Fact.eq _ (.bool b.b),
      Rg.Fact.eq _ (.agg #[.int .i64 3, .int .i64 0, .string (strOf []), .bool b.b]),
      Rg.Fact.eq _ (.int .i64 (cmpB a.b b.b)),
      Rg.Fact.ints [cmpV a b, Lib.compareInt a.n b.n, Lib.compareBytes a.s b.s, cmpB a.b b.b],
      Rg.Fact.eq _ (.int .i64 (orL [cmpV a b, Lib.compareInt a.n b.n, Lib.compareBytes a.s b.s, cmpB a.b b.b])),
      Rg.Fact.eq _ (.int .i64 (orL [cmpV a b, Lib.compareInt a.n b.n, Lib.compareBytes a.s b.s, cmpB a.b b.b]))]
    [[], [], [(0, 5), (1, 6)], [], [(3, 8)], [], [(5, 10)], [(4, 9), (6, 11)], [], [(8, 13)], [], [(10, 15)], [(9, 14), (11, 16)], [], [(13, 18)], [(14, 19)], [], [(16, 21)], [(17, 22)], [(15, 20), (18, 23)], [(2, 7), (7, 12), (12, 17), (19, 24)], [(20, 25)], [(21, 26)]]
    [(0, 5), (1, 6), (2, 7), (3, 8), (4, 9), (5, 10), (6, 11), (7, 12), (8, 13), (9, 14), (10, 15), (11, 16), (12, 17), (13, 18), (14, 19), (15, 20), (16, 21), (17, 22), (18, 23), (19, 24), (20, 25), (21, 26), (22, 4)] (by kernel_rfl) (by kernel_rfl) ?_ ?_
  · refine ⟨?_, ?_, ?_, ?_, ?_, ?_, ?_, ?_, ?_, ?_, ?_, ?_, ?_, ?_, ?_, ?_, ?_, ?_, ?_, ?_, ?_, ?_, ?_, trivial⟩
    · intro w1 hx1; change wpList _ _ _ _ _ _; have m0 := hx1.1.cell a0; have m1 := hx1.1.cell a1; have m2 := hx1.1.cell a2; have m3 := hx1.1.cell a3; go_wp2_with fail; exact ⟨rfl, GrewS.refl _, rfl, rfl⟩
    · intro w1 hx1; change wpList _ _ _ _ _ _; have m0 := hx1.1.cell b0; have m1 := hx1.1.cell b1; have m2 := hx1.1.cell b2; have m3 := hx1.1.cell b3; go_wp2_with fail; exact ⟨rfl, GrewS.refl _, rfl, rfl⟩
    · intro w1 hx1; rintro _ rfl; rintro _ rfl; change wpList _ _ _ _ _ _; go_wp2_with fail; refine (cmpV_any _ a b).mono ?_; rintro e w2 ⟨rfl, hx2⟩; go_wp2_with fail; exact ⟨rfl, hx2, rfl, rfl⟩
    · intro w1 hx1; change wpList _ _ _ _ _ _; go_wp2_with fail; exact ⟨rfl, GrewS.refl _, rfl, rfl⟩
    · intro w1 hx1; rintro _ rfl; change wpList _ _ _ _ _ _; have m := hx1.1.cell a1; go_wp2_with fail; exact ⟨rfl, GrewS.refl _, rfl, rfl⟩
    · intro w1 hx1; change wpList _ _ _ _ _ _; go_wp2_with fail; exact ⟨rfl, GrewS.refl _, rfl, rfl⟩
    · intro w1 hx1; rintro _ rfl; change wpList _ _ _ _ _ _; have m := hx1.1.cell b1; go_wp2_with fail; exact ⟨rfl, GrewS.refl _, rfl, rfl⟩
    · intro w1 hx1; rintro _ rfl; rintro _ rfl; change wpList _ _ _ _ _ _; go_wp2_with fail; refine (cmpint64_any _ _ _).mono ?_; rintro e w2 ⟨rfl, rfl⟩; go_wp2_with fail; exact ⟨rfl, GrewS.refl _, rfl, rfl⟩
    · intro w1 hx1; change wpList _ _ _ _ _ _; go_wp2_with fail; exact ⟨rfl, GrewS.refl _, rfl, rfl⟩
    · intro w1 hx1; rintro _ rfl; change wpList _ _ _ _ _ _; have m := hx1.1.cell a2; go_wp2_with fail; exact ⟨rfl, GrewS.refl _, rfl, rfl⟩
    · intro w1 hx1; change wpList _ _ _ _ _ _; go_wp2_with fail; exact ⟨rfl, GrewS.refl _, rfl, rfl⟩
    · intro w1 hx1; rintro _ rfl; change wpList _ _ _ _ _ _; have m := hx1.1.cell b2; go_wp2_with fail; exact ⟨rfl, GrewS.refl _, rfl, rfl⟩
    · intro w1 hx1; rintro _ rfl; rintro _ rfl; change wpList _ _ _ _ _ _; go_wp2_with fail; refine (cmpstr_any _ _ _).mono ?_; rintro e w2 ⟨rfl, rfl⟩; go_wp2_with fail; exact ⟨rfl, GrewS.refl _, rfl, rfl⟩
    · intro w1 hx1; change wpList _ _ _ _ _ _; go_wp2_with fail; exact ⟨rfl, GrewS.refl _, rfl, rfl⟩
    · intro w1 hx1; rintro _ rfl; change wpList _ _ _ _ _ _; have m := hx1.1.cell a3; go_wp2_with fail; exact ⟨rfl, GrewS.refl _, rfl, rfl⟩
    · intro w1 hx1; rintro _ rfl; change wpList _ _ _ _ _ _; go_wp2_with fail; refine (truth_any _ _).mono ?_; rintro e w2 ⟨rfl, hx2⟩; go_wp2_with fail; exact ⟨rfl, hx2, rfl, rfl⟩
    · intro w1 hx1; change wpList _ _ _ _ _ _; go_wp2_with fail; exact ⟨rfl, GrewS.refl _, rfl, rfl⟩
    · intro w1 hx1; rintro _ rfl; change wpList _ _ _ _ _ _; have m := hx1.1.cell b3; go_wp2_with fail; exact ⟨rfl, GrewS.refl _, rfl, rfl⟩
    · intro w1 hx1; rintro _ rfl; change wpList _ _ _ _ _ _; go_wp2_with fail; refine (truth_any _ _).mono ?_; rintro e w2 ⟨rfl, hx2⟩; go_wp2_with fail; exact ⟨rfl, hx2, rfl, rfl⟩
    · intro w1 hx1; rintro _ rfl; rintro _ rfl; change wpList _ _ _ _ _ _; go_wp2_with fail; refine (hcB _).mono ?_; rintro e w2 ⟨rfl, hx2⟩; go_wp2_with fail; exact ⟨rfl, hx2, rfl, rfl⟩
    · intro w1 hx1; rintro _ rfl; rintro _ rfl; rintro _ rfl; rintro _ rfl; change wpList _ _ _ _ _ _; have hr := row_four w1 (cmpV a b) (Lib.compareInt a.n b.n) (Lib.compareBytes a.s b.s) (cmpB a.b b.b); go_wp2_with fail; exact ⟨rfl, (Grew.refl w1).alloc _, rfl, hr⟩
    · intro w1 hx1; intro v25 h25; change wpList _ _ _ _ _ _; go_wp2_with fail; refine (or_any _ _ _ h25).mono ?_; rintro e w2 ⟨rfl, rfl⟩; go_wp2_with fail; exact ⟨rfl, GrewS.refl _, rfl, rfl⟩
    · intro w1 hx1; rintro _ rfl; change wpList _ _ _ _ _ _; exact Rg.ob_assign _ rfl rfl rfl rfl rfl
  · intro w1 hx1; rintro _ rfl; rintro _ rfl; rintro _ rfl; rintro _ rfl; rintro _ rfl; rintro _ rfl; rintro _ rfl; rintro _ rfl; rintro _ rfl; rintro _ rfl; rintro _ rfl; rintro _ rfl; rintro _ rfl; rintro _ rfl; rintro _ rfl; rintro _ rfl; rintro _ rfl; rintro _ rfl; rintro _ rfl; rintro _ rfl; intro v25 h25; rintro _ rfl; rintro _ rfl; refine depsThen_nil ?_; dsimp only; simp only [Act.put, List.setIfInBounds_toArray, List.set_cons_zero, List.set_cons_succ]
    replace h25 : (Rg.Fact.ints [cmpV a b, Lib.compareInt a.n b.n, Lib.compareBytes a.s b.s, cmpB a.b b.b]).p v25 w1 := h25
    go_wp2_with fail
    go_ret
    exact ⟨rfl, hx0.trans hx1⟩
end Go.Proofs.YtcgflkfbjnpdiaaGreat

namespace Go.Proofs.YtcgflkfbjnpdiaaGreat
open Go.RowKit

theorem cmpL_step {α : Type} {cf : α → α → Int} {l m : List α} {k : Nat} (h1 : k < l.length) (h2 : k < m.length) (h : cf l[k] m[k] = 0) : cmpL cf (l.drop k) (m.drop k) = cmpL cf (l.drop (k + 1)) (m.drop (k + 1)) := by
  rw [List.drop_eq_getElem_cons h1, List.drop_eq_getElem_cons h2, cmpL, if_pos h]
theorem cmpL_stop {α : Type} {cf : α → α → Int} {l m : List α} {k : Nat} (h1 : k < l.length) (h2 : k < m.length) (h : cf l[k] m[k] ≠ 0) : cmpL cf (l.drop k) (m.drop k) = cf l[k] m[k] := by
  rw [List.drop_eq_getElem_cons h1, List.drop_eq_getElem_cons h2, cmpL, if_neg h]
theorem cmpL_more {α : Type} {cf : α → α → Int} {l m : List α} {k : Nat} (h1 : k < l.length) (h2 : m.length ≤ k) : cmpL cf (l.drop k) (m.drop k) = 1 := by
  rw [List.drop_eq_getElem_cons h1, List.drop_eq_nil_of_le h2, cmpL]
theorem cmpL_less {α : Type} {cf : α → α → Int} {l m : List α} {k : Nat} (h1 : l.length ≤ k) (h2 : k < m.length) : cmpL cf (l.drop k) (m.drop k) = -1 := by
  rw [List.drop_eq_getElem_cons h2, List.drop_eq_nil_of_le h1, cmpL]
theorem cmpL_same {α : Type} {cf : α → α → Int} {l m : List α} {k : Nat} (h1 : l.length ≤ k) (h2 : m.length ≤ k) : cmpL cf (l.drop k) (m.drop k) = 0 := by
  rw [List.drop_eq_nil_of_le h2, List.drop_eq_nil_of_le h1, cmpL]

set_option maxRecDepth 100000 in
set_option maxHeartbeats 4000000 in
theorem cmpf122_any (w : World) (v1 v2 : Value) (l m : List V) (h1 : SetR w v1 l) (h2 : SetR w v2 m) (g : Nat) (cb : Array Value) (cf : V → V → Int) (eg : ∀ args w, (callFunc g args).run Tryz.prog w = .ok (.enter g args) w)
    (hc : ∀ (W : World) (x y : V), Calls Tryz.prog g (#[.agg #[.int .i64 x.k, .int .i64 x.n, .string (strOf x.s), .bool x.b], .agg #[.int .i64 y.k, .int .i64 y.n, .string (strOf y.s), .bool y.b]] ++ cb) W fun e W' => e = .returned (.int .i64 (cf x y)) ∧ Grew W W') :
    Calls Tryz.prog 70 #[v1, v2, .func (.func g) #[] cb] w fun e w' => e = .returned (.int .i64 (cmpL cf l m)) ∧ Grew w w' := by
  obtain ⟨a1, cap1, rfl, hc1, hm1⟩ := Row.shape h1
  obtain ⟨a2, cap2, rfl, hc2, hm2⟩ := Row.shape h2
  unfold maxLen at hm1 hm2
  generalize hn1 : l.length = n1 at *
  generalize hn2 : m.length = n2 at *
  have HN1 := Lib.hid hn1
  have HN2 := Lib.hid hn2
  clear hn1 hn2
  have HC := Lib.hid hc
  clear hc
  go_enter Tryz.func70, Tryz.ntmps70
  go_wp2_with fail
  go_loopw [7, 8, 9, 10, 13] (fun _ _ _ _ i wr => ∃ k : Nat, k ≤ n1 ∧ k ≤ n2 ∧ i = .int .i64 k ∧ Hid (cmpL cf (l.drop k) (m.drop k) = cmpL cf l m) ∧ Grew w wr) (fun _ _ _ _ i _ => n1 - (intOf i).toNat)
  case atStart => exact ⟨0, Nat.zero_le _, Nat.zero_le _, rfl, rfl, Grew.refl w⟩
  case round =>
    obtain ⟨k, hk, hkm, rfl, hcm, hx⟩ := hrel
    by_cases hlt : k < n1
    · have k1 : k < l.length := by rw [HN1.out]; exact hlt
      have hI : decide ((k : Int) < (n1 : Int)) = true := decide_eq_true (by omega)
      obtain ⟨B1, o1, rfl, f0, f1, f2, f3⟩ := SetR.at (h1.ext hx.1) k1
      by_cases hlm : k < n2
      · have k2 : k < m.length := by rw [HN2.out]; exact hlm
        have hI2 : decide ((n2 : Int) ≤ (k : Int)) = false := decide_eq_false (by omega)
        obtain ⟨B2, o2, rfl, g0, g1, g2, g3⟩ := SetR.at (h2.ext hx.1) k2
        have hcall := fun W => HC.out W l[k] m[k]
        have hst : cf l[k] m[k] = 0 → cmpL cf (l.drop (k + 1)) (m.drop (k + 1)) = cmpL cf l m := fun h => by rw [← cmpL_step k1 k2 h, hcm.out]
        have hsp : cf l[k] m[k] ≠ 0 → cmpL cf l m = cf l[k] m[k] := fun h => by rw [← hcm.out, cmpL_stop k1 k2 h]
        generalize l[k] = x at *
        generalize m[k] = y at *
        have hxb : ∀ o : Obj, Grew w (wr.alloc o) := fun o => hx.alloc o
        have q0 := ((Ext.refl wr).alloc (.cells #[.int .i64 x.k, .int .i64 x.n, .string (strOf x.s), .bool x.b] 34)).cell g0
        have q1 := ((Ext.refl wr).alloc (.cells #[.int .i64 x.k, .int .i64 x.n, .string (strOf x.s), .bool x.b] 34)).cell g1
        have q2 := ((Ext.refl wr).alloc (.cells #[.int .i64 x.k, .int .i64 x.n, .string (strOf x.s), .bool x.b] 34)).cell g2
        have q3 := ((Ext.refl wr).alloc (.cells #[.int .i64 x.k, .int .i64 x.n, .string (strOf x.s), .bool x.b] 34)).cell g3
        by_cases hz : cf x y = 0
        · have hres := Lib.hid (hst hz)
          rw [hz] at hcall
          have HCALL := Lib.hid hcall
          clear hz hst hsp hcall
          go_wp2_with (go_at_fn g; refine (HCALL.out _).mono ?_; rintro e w3 ⟨rfl, hx3⟩)
          go_roundw
          case rel => exact ⟨k + 1, hlt, hlm, by go_num, hres, (((hx.alloc _).alloc _).trans hx3)⟩
          case measure => simp [intOf]; omega
        · have hres := Lib.hid (hsp hz)
          have hd : (cf x y != 0) = true := by simp [hz]
          have hd1 := beq_int_ne hz
          generalize cf x y = r at *
          have HCALL := Lib.hid hcall
          clear hz hst hsp hcall
          go_wp2_with (go_at_fn g; refine (HCALL.out _).mono ?_; rintro e w3 ⟨rfl, hx3⟩)
          go_ret
          exact ⟨by rw [hres.out]; rfl, (((hx.alloc _).alloc _).trans hx3)⟩
      · obtain rfl : k = n2 := by omega
        have hI2 : decide ((k : Int) ≤ (k : Int)) = true := decide_eq_true (by omega)
        have hres : Hid (cmpL cf l m = 1) := by show _ = _; rw [← hcm.out, cmpL_more k1 (by rw [HN2.out]; omega)]
        generalize l[k] = x at *
        go_wp2_with fail
        go_ret
        exact ⟨by rw [hres.out]; rfl, hx.alloc _⟩
    · obtain rfl : k = n1 := by omega
      have hI : decide ((k : Int) < (k : Int)) = false := decide_eq_false (by omega)
      by_cases hlm : k < n2
      · have hI2 : decide ((k : Int) < (n2 : Int)) = true := decide_eq_true (by omega)
        have hres : Hid (cmpL cf l m = -1) := by show _ = _; rw [← hcm.out, cmpL_less (by rw [HN1.out]; omega) (by rw [HN2.out]; exact hlm)]
        go_wp2_with fail
        go_ret
        exact ⟨by rw [hres.out]; rfl, hx⟩
      · have hI2 : decide ((k : Int) < (n2 : Int)) = false := decide_eq_false (by omega)
        have hres : Hid (cmpL cf l m = 0) := by show _ = _; rw [← hcm.out, cmpL_same (by rw [HN1.out]; omega) (by rw [HN2.out]; omega)]
        go_wp2_with fail
        go_ret
        exact ⟨by rw [hres.out]; rfl, hx⟩
end Go.Proofs.YtcgflkfbjnpdiaaGreat
