/- What a value may be; Number, Word, Truth. -/
import Derived.Test.YtkefppdacigbmaaA10
namespace Go.Proofs.Ytkefppdacigbmaa
open Go.RowKit

set_option maxRecDepth 100000 in
theorem number_any (w : World) (n : Int) : Calls Try.prog 74 #[.int .i64 n] w fun e w' => e = .returned (.agg #[.int .i64 1, .int .i64 n, .string (strOf []), .bool false]) ∧ Grew w w' := by
  go_enter Try.func74, Try.ntmps74
  go_wp2
  have hR := heap_alloc_new w (.cells #[.int .i64 1, .int .i64 n, .string ⟨#[]⟩, .bool false] 28)
  have r0 := cell_of_row _ _ 0 _ _ _ hR
  have r1 := cell_of_row _ _ 1 _ _ _ hR
  have r2 := cell_of_row _ _ 2 _ _ _ hR
  have r3 := cell_of_row _ _ 3 _ _ _ hR
  refine bodyPost_ret (v := .agg #[.int .i64 1, .int .i64 n, .string (strOf []), .bool false]) (by simp [results, Try.results74, go_sem, r0, r1, r2, r3]; rfl) rfl ⟨rfl, (Grew.refl w).alloc _⟩
set_option maxRecDepth 100000 in
theorem word_any (w : World) (s : List UInt8) : Calls Try.prog 89 #[.string (strOf s)] w fun e w' => e = .returned (.agg #[.int .i64 2, .int .i64 0, .string (strOf s), .bool false]) ∧ Grew w w' := by
  go_enter Try.func89, Try.ntmps89
  go_wp2
  have hR := heap_alloc_new w (.cells #[.int .i64 2, .int .i64 0, .string (strOf s), .bool false] 28)
  have r0 := cell_of_row _ _ 0 _ _ _ hR
  have r1 := cell_of_row _ _ 1 _ _ _ hR
  have r2 := cell_of_row _ _ 2 _ _ _ hR
  have r3 := cell_of_row _ _ 3 _ _ _ hR
  refine bodyPost_ret (v := .agg #[.int .i64 2, .int .i64 0, .string (strOf s), .bool false]) (by simp [results, Try.results89, go_sem, r0, r1, r2, r3]) rfl ⟨rfl, (Grew.refl w).alloc _⟩
set_option maxRecDepth 100000 in
theorem truth_any (w : World) (b : Bool) : Calls Try.prog 127 #[.bool b] w fun e w' => e = .returned (.agg #[.int .i64 3, .int .i64 0, .string (strOf []), .bool b]) ∧ Grew w w' := by
  go_enter Try.func127, Try.ntmps127
  go_wp2
  have hR := heap_alloc_new w (.cells #[.int .i64 3, .int .i64 0, .string ⟨#[]⟩, .bool b] 28)
  have r0 := cell_of_row _ _ 0 _ _ _ hR
  have r1 := cell_of_row _ _ 1 _ _ _ hR
  have r2 := cell_of_row _ _ 2 _ _ _ hR
  have r3 := cell_of_row _ _ 3 _ _ _ hR
  refine bodyPost_ret (v := .agg #[.int .i64 3, .int .i64 0, .string (strOf []), .bool b]) (by simp [results, Try.results127, go_sem, r0, r1, r2, r3]; rfl) rfl ⟨rfl, (Grew.refl w).alloc _⟩

/-- The value's own box, behind a second one and a draw. -/
theorem box28 (w : World) (k n : Int) (s : List UInt8) (b : Bool) :
    ((w.alloc (.cells #[.int .i64 k, .int .i64 n, .string (strOf s), .bool b] 28)).alloc (.cells #[.int .i64 k, .int .i64 n, .string (strOf s), .bool b] 28)).drew.cell? ⟨w.heap.size, 0, none⟩ = some (.int .i64 k) ∧
    ((w.alloc (.cells #[.int .i64 k, .int .i64 n, .string (strOf s), .bool b] 28)).alloc (.cells #[.int .i64 k, .int .i64 n, .string (strOf s), .bool b] 28)).drew.cell? ⟨w.heap.size, 1, none⟩ = some (.int .i64 n) ∧
    ((w.alloc (.cells #[.int .i64 k, .int .i64 n, .string (strOf s), .bool b] 28)).alloc (.cells #[.int .i64 k, .int .i64 n, .string (strOf s), .bool b] 28)).drew.cell? ⟨w.heap.size, 2, none⟩ = some (.string (strOf s)) ∧
    ((w.alloc (.cells #[.int .i64 k, .int .i64 n, .string (strOf s), .bool b] 28)).alloc (.cells #[.int .i64 k, .int .i64 n, .string (strOf s), .bool b] 28)).drew.cell? ⟨w.heap.size, 3, none⟩ = some (.bool b) := by
  have hx : Ext (w.alloc (.cells #[.int .i64 k, .int .i64 n, .string (strOf s), .bool b] 28)) ((w.alloc (.cells #[.int .i64 k, .int .i64 n, .string (strOf s), .bool b] 28)).alloc (.cells #[.int .i64 k, .int .i64 n, .string (strOf s), .bool b] 28)).drew := ((Ext.refl _).alloc _).drew
  have hR := heap_alloc_new w (.cells #[.int .i64 k, .int .i64 n, .string (strOf s), .bool b] 28)
  exact ⟨hx.cell (cell_of_row _ _ 0 _ _ _ hR), hx.cell (cell_of_row _ _ 1 _ _ _ hR), hx.cell (cell_of_row _ _ 2 _ _ _ hR), hx.cell (cell_of_row _ _ 3 _ _ _ hR)⟩

set_option maxRecDepth 100000 in
set_option maxHeartbeats 4000000 in
theorem vmay1 (w : World) (n : Int) (s : List UInt8) (b : Bool) :
    Calls Try.prog 73 #[.agg #[.int .i64 1, .int .i64 n, .string (strOf s), .bool b]] w fun e w' => e = .returned (.bool (s.isEmpty && !b)) ∧ Grew w w' := by
  have t1 := ta22
  obtain ⟨c0, c1, c2, c3⟩ := box28 w 1 n s b
  cases s <;> cases b
  all_goals
    go_enter Try.func73, Try.ntmps73
    go_upto_region 4 with go_in
    go_region_law (go_simp; go_at_call 74; refine (number_any _ _).mono ?_; rintro e w2 ⟨rfl, hx2⟩; have m0 := hx2.1.cell c0; have m1 := hx2.1.cell c1; have m2 := hx2.1.cell c2; have m3 := hx2.1.cell c3)
    all_goals
      go_wp2_with fail
      go_ret
      exact ⟨rfl, (((Grew.refl w).alloc _).alloc _).trans ((Grew.refl _).drew.trans hx2)⟩

set_option maxRecDepth 100000 in
set_option maxHeartbeats 4000000 in
theorem vmay2 (w : World) (n : Int) (s : List UInt8) (b : Bool) :
    Calls Try.prog 73 #[.agg #[.int .i64 2, .int .i64 n, .string (strOf s), .bool b]] w fun e w' => e = .returned (.bool (decide (n = 0) && !b && decide (s.length ≤ 32))) ∧ Ext w w' := by
  obtain ⟨c0, c1, c2, c3⟩ := box28 w 2 n s b
  have t1 := ta92
  have t2 := ta99
  by_cases hn : n = 0
  · subst hn
    cases b
    · have hr : (decide ((0 : Int) = 0) && !false && decide (s.length ≤ 32)) = decide (((strOf s).size : Int) ≤ 32) := by
        rw [strOf_size]
        simp only [decide_true, Bool.not_false, Bool.true_and]
        rw [Bool.eq_iff_iff, decide_eq_true_iff, decide_eq_true_iff]; omega
      rw [hr]
      clear hr
      go_enter Try.func73, Try.ntmps73
      go_upto_region 7 with go_in
      refine wp_region_facts [Fact.eq (.agg #[.int .i64 2, .int .i64 0, .string (strOf s), .bool false]),
          Fact.eq (.string (strOf s)),
          Fact.eq (.agg #[.int .i64 2, .int .i64 0, .string (strOf s), .bool false]),
          Fact.eq (.bool true),
          Fact.eq (.bool true),
          Fact.eq (.string (strOf s)),
          Fact.eq (.int .i64 (strOf s).size),
          Fact.eq (.bool (decide (((strOf s).size : Int) ≤ 32))),
          Fact.eq (.bool (decide (((strOf s).size : Int) ≤ 32))),
          Fact.eq (.bool (decide (((strOf s).size : Int) ≤ 32)))]
        [[], [], [(1, 19)], [(0, 18), (2, 20)], [(3, 21)], [(4, 22)], [(5, 23), (4, 22)], [(6, 24), (4, 22)], [(4, 22), (7, 25)], [(8, 26)]]
        [(0, 18), (1, 19), (2, 20), (3, 21), (4, 22), (5, 23), (6, 24), (7, 25), (8, 26), (9, 2)] (by kernel_rfl) (by kernel_rfl) ?_ ?_
      · refine ⟨?_, ?_, ?_, ?_, ?_, ?_, ?_, ?_, ?_, ?_, trivial⟩
        · intro w1 hx1; change wpList _ _ _ _ _ _; have m0 := hx1.cell c0; have m1 := hx1.cell c1; have m2 := hx1.cell c2; have m3 := hx1.cell c3; go_wp2_with fail; exact ⟨rfl, Ext.refl _, rfl, rfl⟩
        · intro w1 hx1; change wpList _ _ _ _ _ _; exact ob_move rfl rfl rfl rfl rfl
        · intro w1 hx1; rintro _ rfl; change wpList _ _ _ _ _ _; go_wp2_with fail; refine (word_any _ _).mono ?_; rintro e w2 ⟨rfl, hx2⟩; go_wp2_with fail; exact ⟨rfl, hx2.1, rfl, rfl⟩
        · intro w1 hx1; rintro _ rfl; rintro _ rfl; change wpList _ _ _ _ _ _; go_wp2_with fail; exact ⟨rfl, Ext.refl _, rfl, rfl⟩
        · intro w1 hx1; rintro _ rfl; change wpList _ _ _ _ _ _; exact ob_move rfl rfl rfl rfl rfl
        · intro w1 hx1; rintro _ rfl; change wpList _ _ _ _ _ _; exact ob_move rfl rfl rfl rfl rfl
        · intro w1 hx1; rintro _ rfl; rintro _ rfl; change wpList _ _ _ _ _ _; go_wp2_with fail; exact ⟨rfl, Ext.refl _, rfl, rfl⟩
        · intro w1 hx1; rintro _ rfl; rintro _ rfl; change wpList _ _ _ _ _ _; go_wp2_with fail; exact ⟨rfl, Ext.refl _, rfl, rfl⟩
        · intro w1 hx1; rintro _ rfl; rintro _ rfl; change wpList _ _ _ _ _ _; exact ob_pick rfl rfl rfl rfl rfl rfl
        · intro w1 hx1; rintro _ rfl; change wpList _ _ _ _ _ _; exact ob_assign rfl rfl rfl rfl rfl
      · intro w1 hx1; rintro _ rfl; rintro _ rfl; rintro _ rfl; rintro _ rfl; rintro _ rfl; rintro _ rfl; rintro _ rfl; rintro _ rfl; rintro _ rfl; rintro _ rfl; refine depsThen_nil ?_; dsimp only; simp only [Act.put, List.setIfInBounds_toArray, List.set_cons_zero, List.set_cons_succ]
        go_wp2_with fail
        go_ret
        exact ⟨rfl, (((Ext.refl w).alloc _).alloc _).trans hx1⟩
    · have hr : (decide ((0 : Int) = 0) && !true && decide (s.length ≤ 32)) = false := by simp
      rw [hr]
      clear hr
      go_enter Try.func73, Try.ntmps73
      go_upto_region 7 with go_in
      refine wp_region_facts [Fact.eq (.agg #[.int .i64 2, .int .i64 0, .string (strOf s), .bool true]),
          Fact.eq (.string (strOf s)),
          Fact.eq (.agg #[.int .i64 2, .int .i64 0, .string (strOf s), .bool false]),
          Fact.eq (.bool false),
          Fact.eq (.bool false),
          Fact.eq undef,
          Fact.eq undef,
          Fact.eq undef,
          Fact.eq (.bool false),
          Fact.eq (.bool false)]
        [[], [], [(1, 19)], [(0, 18), (2, 20)], [(3, 21)], [(4, 22)], [(5, 23), (4, 22)], [(6, 24), (4, 22)], [(4, 22), (7, 25)], [(8, 26)]]
        [(0, 18), (1, 19), (2, 20), (3, 21), (4, 22), (5, 23), (6, 24), (7, 25), (8, 26), (9, 2)] (by kernel_rfl) (by kernel_rfl) ?_ ?_
      · refine ⟨?_, ?_, ?_, ?_, ?_, ?_, ?_, ?_, ?_, ?_, trivial⟩
        · intro w1 hx1; change wpList _ _ _ _ _ _; have m0 := hx1.cell c0; have m1 := hx1.cell c1; have m2 := hx1.cell c2; have m3 := hx1.cell c3; go_wp2_with fail; exact ⟨rfl, Ext.refl _, rfl, rfl⟩
        · intro w1 hx1; change wpList _ _ _ _ _ _; exact ob_move rfl rfl rfl rfl rfl
        · intro w1 hx1; rintro _ rfl; change wpList _ _ _ _ _ _; go_wp2_with fail; refine (word_any _ _).mono ?_; rintro e w2 ⟨rfl, hx2⟩; go_wp2_with fail; exact ⟨rfl, hx2.1, rfl, rfl⟩
        · intro w1 hx1; rintro _ rfl; rintro _ rfl; change wpList _ _ _ _ _ _; go_wp2_with fail; exact ⟨rfl, Ext.refl _, rfl, rfl⟩
        · intro w1 hx1; rintro _ rfl; change wpList _ _ _ _ _ _; exact ob_move rfl rfl rfl rfl rfl
        · intro w1 hx1; rintro _ rfl; change wpList _ _ _ _ _ _; exact ob_skip rfl rfl rfl rfl
        · intro w1 hx1; rintro _ rfl; rintro _ rfl; change wpList _ _ _ _ _ _; exact ob_skip rfl rfl rfl rfl
        · intro w1 hx1; rintro _ rfl; rintro _ rfl; change wpList _ _ _ _ _ _; exact ob_skip rfl rfl rfl rfl
        · intro w1 hx1; rintro _ rfl; rintro _ rfl; change wpList _ _ _ _ _ _; exact ob_pick rfl rfl rfl rfl rfl rfl
        · intro w1 hx1; rintro _ rfl; change wpList _ _ _ _ _ _; exact ob_assign rfl rfl rfl rfl rfl
      · intro w1 hx1; rintro _ rfl; rintro _ rfl; rintro _ rfl; rintro _ rfl; rintro _ rfl; rintro _ rfl; rintro _ rfl; rintro _ rfl; rintro _ rfl; rintro _ rfl; refine depsThen_nil ?_; dsimp only; simp only [Act.put, List.setIfInBounds_toArray, List.set_cons_zero, List.set_cons_succ]
        go_wp2_with fail
        go_ret
        exact ⟨rfl, (((Ext.refl w).alloc _).alloc _).trans hx1⟩
  · have hr : (decide (n = 0) && !b && decide (s.length ≤ 32)) = false := by rw [decide_eq_false hn]; rfl
    rw [hr]
    have hd := beq_int_ne hn
    clear hr hn
    go_enter Try.func73, Try.ntmps73
    go_upto_region 7 with go_in
    refine wp_region_facts [Fact.eq (.agg #[.int .i64 2, .int .i64 n, .string (strOf s), .bool b]),
        Fact.eq (.string (strOf s)),
        Fact.eq (.agg #[.int .i64 2, .int .i64 0, .string (strOf s), .bool false]),
        Fact.eq (.bool false),
        Fact.eq (.bool false),
        Fact.eq undef,
        Fact.eq undef,
        Fact.eq undef,
        Fact.eq (.bool false),
        Fact.eq (.bool false)]
      [[], [], [(1, 19)], [(0, 18), (2, 20)], [(3, 21)], [(4, 22)], [(5, 23), (4, 22)], [(6, 24), (4, 22)], [(4, 22), (7, 25)], [(8, 26)]]
      [(0, 18), (1, 19), (2, 20), (3, 21), (4, 22), (5, 23), (6, 24), (7, 25), (8, 26), (9, 2)] (by kernel_rfl) (by kernel_rfl) ?_ ?_
    · refine ⟨?_, ?_, ?_, ?_, ?_, ?_, ?_, ?_, ?_, ?_, trivial⟩
      · intro w1 hx1; change wpList _ _ _ _ _ _; have m0 := hx1.cell c0; have m1 := hx1.cell c1; have m2 := hx1.cell c2; have m3 := hx1.cell c3; go_wp2_with fail; exact ⟨rfl, Ext.refl _, rfl, rfl⟩
      · intro w1 hx1; change wpList _ _ _ _ _ _; exact ob_move rfl rfl rfl rfl rfl
      · intro w1 hx1; rintro _ rfl; change wpList _ _ _ _ _ _; go_wp2_with fail; refine (word_any _ _).mono ?_; rintro e w2 ⟨rfl, hx2⟩; go_wp2_with fail; exact ⟨rfl, hx2.1, rfl, rfl⟩
      · intro w1 hx1; rintro _ rfl; rintro _ rfl; change wpList _ _ _ _ _ _; go_wp2_with fail; exact ⟨rfl, Ext.refl _, rfl, rfl⟩
      · intro w1 hx1; rintro _ rfl; change wpList _ _ _ _ _ _; exact ob_move rfl rfl rfl rfl rfl
      · intro w1 hx1; rintro _ rfl; change wpList _ _ _ _ _ _; exact ob_skip rfl rfl rfl rfl
      · intro w1 hx1; rintro _ rfl; rintro _ rfl; change wpList _ _ _ _ _ _; exact ob_skip rfl rfl rfl rfl
      · intro w1 hx1; rintro _ rfl; rintro _ rfl; change wpList _ _ _ _ _ _; exact ob_skip rfl rfl rfl rfl
      · intro w1 hx1; rintro _ rfl; rintro _ rfl; change wpList _ _ _ _ _ _; exact ob_pick rfl rfl rfl rfl rfl rfl
      · intro w1 hx1; rintro _ rfl; change wpList _ _ _ _ _ _; exact ob_assign rfl rfl rfl rfl rfl
    · intro w1 hx1; rintro _ rfl; rintro _ rfl; rintro _ rfl; rintro _ rfl; rintro _ rfl; rintro _ rfl; rintro _ rfl; rintro _ rfl; rintro _ rfl; rintro _ rfl; refine depsThen_nil ?_; dsimp only; simp only [Act.put, List.setIfInBounds_toArray, List.set_cons_zero, List.set_cons_succ]
      go_wp2_with fail
      go_ret
      exact ⟨rfl, (((Ext.refl w).alloc _).alloc _).trans hx1⟩

set_option maxRecDepth 100000 in
set_option maxHeartbeats 4000000 in
theorem vmay3 (w : World) (n : Int) (s : List UInt8) (b : Bool) :
    Calls Try.prog 73 #[.agg #[.int .i64 3, .int .i64 n, .string (strOf s), .bool b]] w fun e w' => e = .returned (.bool (decide (n = 0) && s.isEmpty)) ∧ Grew w w' := by
  obtain ⟨c0, c1, c2, c3⟩ := box28 w 3 n s b
  have t1 := ta42
  have t2 := ta49
  have t3 := ta44
  by_cases hn : n = 0
  · subst hn
    cases s
    all_goals
      go_enter Try.func73, Try.ntmps73
      go_upto_region 10 with go_in
      go_region_law (go_simp; go_at_call 127; refine (truth_any _ _).mono ?_; rintro e w2 ⟨rfl, hx2⟩; have m0 := hx2.1.cell c0; have m1 := hx2.1.cell c1; have m2 := hx2.1.cell c2; have m3 := hx2.1.cell c3)
      all_goals
        go_wp2_with fail
        go_ret
        exact ⟨rfl, (((Grew.refl w).alloc _).alloc _).trans ((Grew.refl _).drew.trans hx2)⟩
  · have hr : (decide (n = 0) && s.isEmpty) = false := by rw [decide_eq_false hn]; rfl
    rw [hr]
    have hd := beq_int_ne hn
    clear hr hn
    go_enter Try.func73, Try.ntmps73
    go_upto_region 10 with go_in
    go_region_law (go_simp; go_at_call 127; refine (truth_any _ _).mono ?_; rintro e w2 ⟨rfl, hx2⟩; have m0 := hx2.1.cell c0; have m1 := hx2.1.cell c1; have m2 := hx2.1.cell c2; have m3 := hx2.1.cell c3)
    all_goals
      go_wp2_with fail
      go_ret
      exact ⟨rfl, (((Grew.refl w).alloc _).alloc _).trans ((Grew.refl _).drew.trans hx2)⟩

set_option maxRecDepth 100000 in
set_option maxHeartbeats 4000000 in
theorem vmay_any (w : World) (v : V) : Calls Try.prog 73 #[.agg #[.int .i64 v.k, .int .i64 v.n, .string (strOf v.s), .bool v.b]] w fun e w' => e = .returned (.bool (mayV v)) ∧ Ext w w' := by
  obtain ⟨k, n, s, b⟩ := v
  unfold mayV
  by_cases h1 : k = 1
  · subst h1; exact (vmay1 w n s b).mono fun _ _ h => ⟨h.1, h.2.1⟩
  by_cases h2 : k = 2
  · subst h2; exact vmay2 w n s b
  by_cases h3 : k = 3
  · subst h3; exact (vmay3 w n s b).mono fun _ _ h => ⟨h.1, h.2.1⟩
  simp only [if_neg h1, if_neg h2, if_neg h3]
  have d1 := beq_int_ne h1
  have d2 := beq_int_ne h2
  have d3 := beq_int_ne h3
  have t1 := ta02
  have t2 := ta09
  have t3 := ta04
  clear h1 h2 h3
  go_enter Try.func73, Try.ntmps73
  go_wp2_with go_in
  go_ret
  exact ⟨rfl, ((Ext.refl w).alloc _).alloc _⟩
end Go.Proofs.Ytkefppdacigbmaa
