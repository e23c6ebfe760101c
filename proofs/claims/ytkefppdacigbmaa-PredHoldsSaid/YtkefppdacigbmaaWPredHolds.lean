/- PredHolds, walked. -/
import Derived.Test.YtkefppdacigbmaaA16
namespace Go.Proofs.Ytkefppdacigbmaa
open Go.RowKit

set_option maxRecDepth 100000 in
set_option maxHeartbeats 8000000 in
theorem predHolds_walk (w : World) (v : Value) (p : List C) (key : List UInt8) (va : Value) (l : List (List UInt8 × V)) (x : V) (hp : PredR w v p) (hl : AttrR w va l) :
    Calls Try.prog 3 #[v, .agg #[.string (strOf key), va], .agg #[.int .i64 x.k, .int .i64 x.n, .string (strOf x.s), .bool x.b]] w fun e w' => e = .returned (.bool true) ∧ Ext w w' := by
  obtain ⟨ap, cp, rfl, hcp, hmp⟩ := hp.shape
  obtain ⟨aa, ca, rfl, hca, hma⟩ := Row.shape hl
  unfold maxLen at hmp
  have hx0 : Ext w ((w.alloc (.cells #[.string (strOf key), .slice aa l.length ca] 26)).alloc (.cells #[.int .i64 x.k, .int .i64 x.n, .string (strOf x.s), .bool x.b] 28)) := ((Ext.refl w).alloc _).alloc _
  have hN : ((w.alloc (.cells #[.string (strOf key), .slice aa l.length ca] 26)).alloc (.cells #[.int .i64 x.k, .int .i64 x.n, .string (strOf x.s), .bool x.b] 28)).heap[w.heap.size + 1]? = some (.cells #[.int .i64 x.k, .int .i64 x.n, .string (strOf x.s), .bool x.b] 28 (0, 0)) := by
    have h := heap_alloc_new (w.alloc (.cells #[.string (strOf key), .slice aa l.length ca] 26)) (.cells #[.int .i64 x.k, .int .i64 x.n, .string (strOf x.s), .bool x.b] 28)
    rw [World.size_alloc] at h; exact h
  have hE := heap_alloc_new w (.cells #[.string (strOf key), .slice aa l.length ca] 26)
  have hxe : Ext (w.alloc (.cells #[.string (strOf key), .slice aa l.length ca] 26)) ((w.alloc (.cells #[.string (strOf key), .slice aa l.length ca] 26)).alloc (.cells #[.int .i64 x.k, .int .i64 x.n, .string (strOf x.s), .bool x.b] 28)) := (Ext.refl _).alloc _
  have e0 := hxe.cell (cell_of_row _ _ 0 _ _ _ hE)
  have e1 := hxe.cell (cell_of_row _ _ 1 _ _ _ hE)
  have n0 := cell_of_row _ _ 0 _ _ _ hN
  have n1 := cell_of_row _ _ 1 _ _ _ hN
  have n2 := cell_of_row _ _ 2 _ _ _ hN
  have n3 := cell_of_row _ _ 3 _ _ _ hN
  have hp0 := hp.ext hx0
  have hl0 := hl.ext hx0
  clear hN hE hxe hp hl
  generalize hn : p.length = n at *
  have HN := Lib.hid hn
  clear hn
  go_enter Try.func3, Try.ntmps3
  go_wp2_with fail
  generalize (w.alloc (.cells #[.string (strOf key), .slice aa l.length ca] 26)).alloc (.cells #[.int .i64 x.k, .int .i64 x.n, .string (strOf x.s), .bool x.b] 28) = w0 at *
  go_loopw [7, 8, 11] (fun _ _ i wr => ∃ k : Nat, k ≤ n ∧ i = .int .i64 k ∧ Ext w0 wr) (fun _ _ i _ => n - (intOf i).toNat)
  case atStart => exact ⟨0, Nat.zero_le _, rfl, Ext.refl _⟩
  case round =>
    obtain ⟨k, hk, rfl, hx⟩ := hrel
    by_cases hlt : k < n
    · have hI : decide ((k : Int) < (n : Int)) = true := decide_eq_true (by omega)
      have k1 : k < p.length := by have := HN.out; omega
      obtain ⟨B, o, sa, sc, rfl, f0, f1, f2, f3, f4, f5, f6, fs⟩ := (hp0.ext hx).at k1
      generalize p[k] = c at *
      have hxW : Ext wr (wr.alloc (.cells #[.string (strOf c.name), .int .i64 c.op, .int .i64 c.v.k, .int .i64 c.v.n, .string (strOf c.v.s), .bool c.v.b, .slice sa c.set.length sc] 31)) := (Ext.refl wr).alloc _
      have hB : CBox (wr.alloc (.cells #[.string (strOf c.name), .int .i64 c.op, .int .i64 c.v.k, .int .i64 c.v.n, .string (strOf c.v.s), .bool c.v.b, .slice sa c.set.length sc] 31)) wr.heap.size c sa sc := ⟨heap_alloc_new _ _, fs.ext hxW⟩
      obtain ⟨c0, c1, c2, c3, c4, c5, c6⟩ := hB.cell
      have hs := hB.s
      have hxw := hx.trans hxW
      have n0 := hxw.cell n0
      have n1 := hxw.cell n1
      have n2 := hxw.cell n2
      have n3 := hxw.cell n3
      clear hB fs hxW
      generalize hH : holdsC c x = H at *
      have HH := Lib.hid hH
      clear hH
      by_cases h100 : k < 100
      · have hI2 : decide ((k : Int) < 100) = true := decide_eq_true (by omega)
        go_upto_region 4 with fail
        generalize wr.alloc (.cells #[.string (strOf c.name), .int .i64 c.op, .int .i64 c.v.k, .int .i64 c.v.n, .string (strOf c.v.s), .bool c.v.b, .slice sa c.set.length sc] 31) = W at *
        refine wp_region_facts [Fact.eq (.int .i64 k),
            Fact.eq (.bool true),
            Fact.eq (.bool true),
            Fact.eq (.agg #[.string (strOf c.name), .int .i64 c.op, .int .i64 c.v.k, .int .i64 c.v.n, .string (strOf c.v.s), .bool c.v.b, .slice sa c.set.length sc]),
            Fact.eq (.agg #[.int .i64 x.k, .int .i64 x.n, .string (strOf x.s), .bool x.b]),
            Fact.eq (.bool H),
            Fact.eq (.agg #[.string (strOf c.name), .int .i64 c.op, .int .i64 c.v.k, .int .i64 c.v.n, .string (strOf c.v.s), .bool c.v.b, .slice sa c.set.length sc]),
            Fact.eq (.agg #[.int .i64 x.k, .int .i64 x.n, .string (strOf x.s), .bool x.b]),
            Fact.eq (.bool H),
            Fact.eq (.bool false),
            Fact.eq (.bool false)]
          [[], [(0, 16)], [(1, 17)], [(2, 18)], [(2, 18)], [(3, 19), (4, 20), (2, 18)], [(2, 18)], [(2, 18)], [(6, 22), (7, 23), (2, 18)], [(5, 21), (8, 24), (2, 18)], [(2, 18), (9, 25)]]
          [(0, 16), (1, 17), (2, 18), (3, 19), (4, 20), (5, 21), (6, 22), (7, 23), (8, 24), (9, 25), (10, 26)] (by kernel_rfl) (by kernel_rfl) ?_ ?_
        · refine ⟨?_, ?_, ?_, ?_, ?_, ?_, ?_, ?_, ?_, ?_, ?_, trivial⟩
          · intro w1 hx1; change wpList _ _ _ _ _ _; exact ob_move rfl rfl rfl rfl rfl
          · intro w1 hx1; rintro _ rfl; change wpList _ _ _ _ _ _; go_wp2_with fail; exact ⟨rfl, Ext.refl _, rfl, rfl⟩
          · intro w1 hx1; rintro _ rfl; change wpList _ _ _ _ _ _; exact ob_move rfl rfl rfl rfl rfl
          · intro w1 hx1; rintro _ rfl; change wpList _ _ _ _ _ _; have m0 := hx1.cell c0; have m1 := hx1.cell c1; have m2 := hx1.cell c2; have m3 := hx1.cell c3; have m4 := hx1.cell c4; have m5 := hx1.cell c5; have m6 := hx1.cell c6; go_wp2_with fail; exact ⟨rfl, Ext.refl _, rfl, rfl⟩
          · intro w1 hx1; rintro _ rfl; change wpList _ _ _ _ _ _; have m0 := hx1.cell n0; have m1 := hx1.cell n1; have m2 := hx1.cell n2; have m3 := hx1.cell n3; go_wp2_with fail; exact ⟨rfl, Ext.refl _, rfl, rfl⟩
          · intro w1 hx1; rintro _ rfl; rintro _ rfl; rintro _ rfl; change wpList _ _ _ _ _ _; go_wp2_with fail; refine (pholds_any w1 c sa sc (hs.ext hx1) x).mono ?_; rw [HH.out]; rintro e w2 ⟨rfl, hx2⟩; go_wp2_with fail; exact ⟨rfl, hx2, rfl, rfl⟩
          · intro w1 hx1; rintro _ rfl; change wpList _ _ _ _ _ _; have m0 := hx1.cell c0; have m1 := hx1.cell c1; have m2 := hx1.cell c2; have m3 := hx1.cell c3; have m4 := hx1.cell c4; have m5 := hx1.cell c5; have m6 := hx1.cell c6; go_wp2_with fail; exact ⟨rfl, Ext.refl _, rfl, rfl⟩
          · intro w1 hx1; rintro _ rfl; change wpList _ _ _ _ _ _; have m0 := hx1.cell n0; have m1 := hx1.cell n1; have m2 := hx1.cell n2; have m3 := hx1.cell n3; go_wp2_with fail; exact ⟨rfl, Ext.refl _, rfl, rfl⟩
          · intro w1 hx1; rintro _ rfl; rintro _ rfl; rintro _ rfl; change wpList _ _ _ _ _ _; go_wp2_with fail; refine (rholds_any w1 c sa sc (hs.ext hx1) x).mono ?_; rw [HH.out]; rintro e w2 ⟨rfl, hx2⟩; go_wp2_with fail; exact ⟨rfl, hx2, rfl, rfl⟩
          · intro w1 hx1; rintro _ rfl; rintro _ rfl; rintro _ rfl; change wpList _ _ _ _ _ _; have q : (H != H) = false := bne_self_eq_false H; go_wp2_with fail; exact ⟨rfl, Ext.refl _, rfl, rfl⟩
          · intro w1 hx1; rintro _ rfl; rintro _ rfl; change wpList _ _ _ _ _ _; exact ob_pick rfl rfl rfl rfl rfl rfl
        · intro w1 hx1; rintro _ rfl; rintro _ rfl; rintro _ rfl; rintro _ rfl; rintro _ rfl; rintro _ rfl; rintro _ rfl; rintro _ rfl; rintro _ rfl; rintro _ rfl; rintro _ rfl; refine depsThen_nil ?_; dsimp only; simp only [Act.put, List.setIfInBounds_toArray, List.set_cons_zero, List.set_cons_succ]
          go_wp2_with fail
          go_roundw
          case rel => exact ⟨k + 1, hlt, by go_num, hxw.trans hx1⟩
          case measure => simp [intOf]; omega
      · have hI2 : decide ((k : Int) < 100) = false := decide_eq_false (by omega)
        go_upto_region 4 with fail
        generalize wr.alloc (.cells #[.string (strOf c.name), .int .i64 c.op, .int .i64 c.v.k, .int .i64 c.v.n, .string (strOf c.v.s), .bool c.v.b, .slice sa c.set.length sc] 31) = W at *
        refine wp_region_facts [Fact.eq (.int .i64 k),
            Fact.eq (.bool false),
            Fact.eq (.bool false),
            Fact.eq undef,
            Fact.eq undef,
            Fact.eq undef,
            Fact.eq undef,
            Fact.eq undef,
            Fact.eq undef,
            Fact.eq undef,
            Fact.eq (.bool false)]
          [[], [(0, 16)], [(1, 17)], [(2, 18)], [(2, 18)], [(3, 19), (4, 20), (2, 18)], [(2, 18)], [(2, 18)], [(6, 22), (7, 23), (2, 18)], [(5, 21), (8, 24), (2, 18)], [(2, 18), (9, 25)]]
          [(0, 16), (1, 17), (2, 18), (3, 19), (4, 20), (5, 21), (6, 22), (7, 23), (8, 24), (9, 25), (10, 26)] (by kernel_rfl) (by kernel_rfl) ?_ ?_
        · refine ⟨?_, ?_, ?_, ?_, ?_, ?_, ?_, ?_, ?_, ?_, ?_, trivial⟩
          · intro w1 hx1; change wpList _ _ _ _ _ _; exact ob_move rfl rfl rfl rfl rfl
          · intro w1 hx1; rintro _ rfl; change wpList _ _ _ _ _ _; go_wp2_with fail; exact ⟨rfl, Ext.refl _, rfl, rfl⟩
          · intro w1 hx1; rintro _ rfl; change wpList _ _ _ _ _ _; exact ob_move rfl rfl rfl rfl rfl
          · intro w1 hx1; rintro _ rfl; change wpList _ _ _ _ _ _; exact ob_skip rfl rfl rfl rfl
          · intro w1 hx1; rintro _ rfl; change wpList _ _ _ _ _ _; exact ob_skip rfl rfl rfl rfl
          · intro w1 hx1; rintro _ rfl; rintro _ rfl; rintro _ rfl; change wpList _ _ _ _ _ _; exact ob_skip rfl rfl rfl rfl
          · intro w1 hx1; rintro _ rfl; change wpList _ _ _ _ _ _; exact ob_skip rfl rfl rfl rfl
          · intro w1 hx1; rintro _ rfl; change wpList _ _ _ _ _ _; exact ob_skip rfl rfl rfl rfl
          · intro w1 hx1; rintro _ rfl; rintro _ rfl; rintro _ rfl; change wpList _ _ _ _ _ _; exact ob_skip rfl rfl rfl rfl
          · intro w1 hx1; rintro _ rfl; rintro _ rfl; rintro _ rfl; change wpList _ _ _ _ _ _; exact ob_skip rfl rfl rfl rfl
          · intro w1 hx1; rintro _ rfl; rintro _ rfl; change wpList _ _ _ _ _ _; exact ob_pick rfl rfl rfl rfl rfl rfl
        · intro w1 hx1; rintro _ rfl; rintro _ rfl; rintro _ rfl; rintro _ rfl; rintro _ rfl; rintro _ rfl; rintro _ rfl; rintro _ rfl; rintro _ rfl; rintro _ rfl; rintro _ rfl; refine depsThen_nil ?_; dsimp only; simp only [Act.put, List.setIfInBounds_toArray, List.set_cons_zero, List.set_cons_succ]
          go_wp2_with fail
          go_roundw
          case rel => exact ⟨k + 1, hlt, by go_num, hxw.trans hx1⟩
          case measure => simp [intOf]; omega
    · obtain rfl : k = n := by omega
      have hI : decide ((k : Int) < (k : Int)) = false := decide_eq_false (by omega)
      have hpr := hp0.ext hx
      have hlr := hl0.ext hx
      have e0 := hx.cell e0
      have e1 := hx.cell e1
      generalize hH : matchP p l = M at *
      have HH := Lib.hid hH
      clear hH
      go_upto_region 7 with fail
      refine wp_region_facts [Fact.eq (.bool true),
          Fact.eq (.bool true),
          Fact.eq (.slice ap k cp),
          Fact.eq (.agg #[.string (strOf key), .slice aa l.length ca]),
          Fact.eq (.bool M),
          Fact.eq (.slice ap k cp),
          Fact.eq (.agg #[.string (strOf key), .slice aa l.length ca]),
          Fact.eq (.bool M),
          Fact.eq (.bool true),
          Fact.eq (.bool true),
          Fact.eq (.bool true)]
        [[], [(0, 28)], [(1, 29)], [(1, 29)], [(2, 30), (3, 31), (1, 29)], [(1, 29)], [(1, 29)], [(5, 33), (6, 34), (1, 29)], [(4, 32), (7, 35), (1, 29)], [(1, 29), (8, 36)], [(9, 37)]]
        [(0, 28), (1, 29), (2, 30), (3, 31), (4, 32), (5, 33), (6, 34), (7, 35), (8, 36), (9, 37), (10, 6)] (by kernel_rfl) (by kernel_rfl) ?_ ?_
      · refine ⟨?_, ?_, ?_, ?_, ?_, ?_, ?_, ?_, ?_, ?_, ?_, trivial⟩
        · intro w1 hx1; change wpList _ _ _ _ _ _; go_wp2_with fail; refine (awake_any w1).mono ?_; rintro e w2 ⟨rfl, hx2⟩; go_wp2_with fail; exact ⟨rfl, hx2, rfl, rfl⟩
        · intro w1 hx1; rintro _ rfl; change wpList _ _ _ _ _ _; exact ob_move rfl rfl rfl rfl rfl
        · intro w1 hx1; rintro _ rfl; change wpList _ _ _ _ _ _; exact ob_move rfl rfl rfl rfl rfl
        · intro w1 hx1; rintro _ rfl; change wpList _ _ _ _ _ _; have m0 := hx1.cell e0; have m1 := hx1.cell e1; go_wp2_with fail; exact ⟨rfl, Ext.refl _, rfl, rfl⟩
        · intro w1 hx1; rintro _ rfl; rintro _ rfl; rintro _ rfl; change wpList _ _ _ _ _ _; go_wp2_with fail; refine (matches_any w1 _ p key _ l (hpr.ext hx1) (hlr.ext hx1)).mono ?_; rw [HH.out]; rintro e w2 ⟨rfl, hx2⟩; go_wp2_with fail; exact ⟨rfl, hx2, rfl, rfl⟩
        · intro w1 hx1; rintro _ rfl; change wpList _ _ _ _ _ _; exact ob_move rfl rfl rfl rfl rfl
        · intro w1 hx1; rintro _ rfl; change wpList _ _ _ _ _ _; have m0 := hx1.cell e0; have m1 := hx1.cell e1; go_wp2_with fail; exact ⟨rfl, Ext.refl _, rfl, rfl⟩
        · intro w1 hx1; rintro _ rfl; rintro _ rfl; rintro _ rfl; change wpList _ _ _ _ _ _; go_wp2_with fail; refine (rmatches_any w1 _ p key _ l (hpr.ext hx1) (hlr.ext hx1)).mono ?_; rw [HH.out]; rintro e w2 ⟨rfl, hx2⟩; go_wp2_with fail; exact ⟨rfl, hx2, rfl, rfl⟩
        · intro w1 hx1; rintro _ rfl; rintro _ rfl; rintro _ rfl; change wpList _ _ _ _ _ _; have q : (M == M) = true := beq_self_eq_true M; go_wp2_with fail; exact ⟨rfl, Ext.refl _, rfl, rfl⟩
        · intro w1 hx1; rintro _ rfl; rintro _ rfl; change wpList _ _ _ _ _ _; exact ob_pick rfl rfl rfl rfl rfl rfl
        · intro w1 hx1; rintro _ rfl; change wpList _ _ _ _ _ _; exact ob_assign rfl rfl rfl rfl rfl
      · intro w1 hx1; rintro _ rfl; rintro _ rfl; rintro _ rfl; rintro _ rfl; rintro _ rfl; rintro _ rfl; rintro _ rfl; rintro _ rfl; rintro _ rfl; rintro _ rfl; rintro _ rfl; refine depsThen_nil ?_; dsimp only; simp only [Act.put, List.setIfInBounds_toArray, List.set_cons_zero, List.set_cons_succ]
        go_wp2_with fail
        go_ret
        exact ⟨rfl, hx0.trans (hx.trans hx1)⟩
end Go.Proofs.Ytkefppdacigbmaa
