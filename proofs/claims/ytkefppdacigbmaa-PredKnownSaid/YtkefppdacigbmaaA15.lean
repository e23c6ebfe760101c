/- The order of constraints; CompareFunc at constraints; Compare, Same. -/
import Derived.Test.YtkefppdacigbmaaA14
namespace Go.Proofs.Ytkefppdacigbmaa
open Go.RowKit

theorem ent121 : ∀ args w, (callFunc 121 args).run Try.prog w = .ok (.enter 121 args) w := enters_of Try.func121 (by kernel_rfl) rfl
theorem ent65 : ∀ args w, (callFunc 65 args).run Try.prog w = .ok (.enter 65 args) w := enters_of Try.func65 (by kernel_rfl) rfl

set_option maxRecDepth 100000 in
set_option maxHeartbeats 4000000 in
theorem order_any (w : World) (a b : C) (sa : Option Addr) (ca : Nat) (sb : Option Addr) (cb : Nat) (ha : SetR w (.slice sa a.set.length ca) a.set) (hb : SetR w (.slice sb b.set.length cb) b.set) :
    Calls Try.prog 65 #[.agg #[.string (strOf a.name), .int .i64 a.op, .int .i64 a.v.k, .int .i64 a.v.n, .string (strOf a.v.s), .bool a.v.b, .slice sa a.set.length ca], .agg #[.string (strOf b.name), .int .i64 b.op, .int .i64 b.v.k, .int .i64 b.v.n, .string (strOf b.v.s), .bool b.v.b, .slice sb b.set.length cb]] w fun e w' => e = .returned (.int .i64 (orderC a b)) ∧ Grew w w' := by
  have hx0 : Grew w ((w.alloc (.cells #[.string (strOf a.name), .int .i64 a.op, .int .i64 a.v.k, .int .i64 a.v.n, .string (strOf a.v.s), .bool a.v.b, .slice sa a.set.length ca] 31)).alloc (.cells #[.string (strOf b.name), .int .i64 b.op, .int .i64 b.v.k, .int .i64 b.v.n, .string (strOf b.v.s), .bool b.v.b, .slice sb b.set.length cb] 31)) := ((Grew.refl w).alloc _).alloc _
  have hA : CBox ((w.alloc (.cells #[.string (strOf a.name), .int .i64 a.op, .int .i64 a.v.k, .int .i64 a.v.n, .string (strOf a.v.s), .bool a.v.b, .slice sa a.set.length ca] 31)).alloc (.cells #[.string (strOf b.name), .int .i64 b.op, .int .i64 b.v.k, .int .i64 b.v.n, .string (strOf b.v.s), .bool b.v.b, .slice sb b.set.length cb] 31)) w.heap.size a sa ca := (CBox.mk (heap_alloc_new _ _) (ha.ext ((Ext.refl w).alloc _))).ext ((Ext.refl _).alloc _)
  have hN : ((w.alloc (.cells #[.string (strOf a.name), .int .i64 a.op, .int .i64 a.v.k, .int .i64 a.v.n, .string (strOf a.v.s), .bool a.v.b, .slice sa a.set.length ca] 31)).alloc (.cells #[.string (strOf b.name), .int .i64 b.op, .int .i64 b.v.k, .int .i64 b.v.n, .string (strOf b.v.s), .bool b.v.b, .slice sb b.set.length cb] 31)).heap[w.heap.size + 1]? = some (.cells #[.string (strOf b.name), .int .i64 b.op, .int .i64 b.v.k, .int .i64 b.v.n, .string (strOf b.v.s), .bool b.v.b, .slice sb b.set.length cb] 31 (0, 0)) := by
    have h := heap_alloc_new (w.alloc (.cells #[.string (strOf a.name), .int .i64 a.op, .int .i64 a.v.k, .int .i64 a.v.n, .string (strOf a.v.s), .bool a.v.b, .slice sa a.set.length ca] 31)) (.cells #[.string (strOf b.name), .int .i64 b.op, .int .i64 b.v.k, .int .i64 b.v.n, .string (strOf b.v.s), .bool b.v.b, .slice sb b.set.length cb] 31)
    rw [World.size_alloc] at h; exact h
  have hB : CBox ((w.alloc (.cells #[.string (strOf a.name), .int .i64 a.op, .int .i64 a.v.k, .int .i64 a.v.n, .string (strOf a.v.s), .bool a.v.b, .slice sa a.set.length ca] 31)).alloc (.cells #[.string (strOf b.name), .int .i64 b.op, .int .i64 b.v.k, .int .i64 b.v.n, .string (strOf b.v.s), .bool b.v.b, .slice sb b.set.length cb] 31)) (w.heap.size + 1) b sb cb := ⟨hN, hb.ext hx0.1⟩
  obtain ⟨a0, a1, a2, a3, a4, a5, a6⟩ := hA.cell
  obtain ⟨b0, b1, b2, b3, b4, b5, b6⟩ := hB.cell
  have has := hA.s
  have hbs := hB.s
  have hres : orderC a b = orL [Lib.compareBytes a.name b.name, Lib.compareInt a.op b.op, wholeV a.v b.v, cmpL wholeV a.set b.set] := by rw [orL4]; rfl
  have hcB : ∀ W, Ext ((w.alloc (.cells #[.string (strOf a.name), .int .i64 a.op, .int .i64 a.v.k, .int .i64 a.v.n, .string (strOf a.v.s), .bool a.v.b, .slice sa a.set.length ca] 31)).alloc (.cells #[.string (strOf b.name), .int .i64 b.op, .int .i64 b.v.k, .int .i64 b.v.n, .string (strOf b.v.s), .bool b.v.b, .slice sb b.set.length cb] 31)) W → Calls Try.prog 122 #[.slice sa a.set.length ca, .slice sb b.set.length cb, .func (.func 121) #[] #[]] W fun e w' => e = .returned (.int .i64 (cmpL wholeV a.set b.set)) ∧ Grew W w' :=
    fun W hW => cmpf122_any W _ _ a.set b.set (has.ext hW) (hbs.ext hW) 121 #[] wholeV ent121 (fun W x y => whole_any W x y)
  rw [hres]
  clear hA hN hB hres ha hb has hbs
  generalize cmpL wholeV a.set b.set = r4 at *
  go_enter Try.func65, Try.ntmps65
  go_upto_region 1 with fail
  generalize (w.alloc (.cells #[.string (strOf a.name), .int .i64 a.op, .int .i64 a.v.k, .int .i64 a.v.n, .string (strOf a.v.s), .bool a.v.b, .slice sa a.set.length ca] 31)).alloc (.cells #[.string (strOf b.name), .int .i64 b.op, .int .i64 b.v.k, .int .i64 b.v.n, .string (strOf b.v.s), .bool b.v.b, .slice sb b.set.length cb] 31) = wa at *
  generalize a.set.length = na at *
  generalize b.set.length = nb at *
  refine Rg.wp_region_facts GrewS [Rg.Fact.eq _ (.pointer (some ⟨w.heap.size, 0, none⟩)),
      Rg.Fact.eq _ (.string (strOf a.name)),
      Rg.Fact.eq _ (.pointer (some ⟨w.heap.size + 1, 0, none⟩)),
      Rg.Fact.eq _ (.string (strOf b.name)),
      Rg.Fact.eq _ (.int .i64 (Lib.compareBytes a.name b.name)),
      Rg.Fact.eq _ (.pointer (some ⟨w.heap.size, 1, none⟩)),
      Rg.Fact.eq _ (.int .i64 a.op),
      Rg.Fact.eq _ (.pointer (some ⟨w.heap.size + 1, 1, none⟩)),
      Rg.Fact.eq _ (.int .i64 b.op),
      Rg.Fact.eq _ (.int .i64 (Lib.compareInt a.op b.op)),
      Rg.Fact.eq _ (.pointer (some ⟨w.heap.size, 2, none⟩)),
      Rg.Fact.eq _ (.agg #[.int .i64 a.v.k, .int .i64 a.v.n, .string (strOf a.v.s), .bool a.v.b]),
      Rg.Fact.eq _ (.pointer (some ⟨w.heap.size + 1, 2, none⟩)),
      Rg.Fact.eq _ (.agg #[.int .i64 b.v.k, .int .i64 b.v.n, .string (strOf b.v.s), .bool b.v.b]),
      Rg.Fact.eq _ (.int .i64 (wholeV a.v b.v)),
      Rg.Fact.eq _ (.pointer (some ⟨w.heap.size, 6, none⟩)),
      Rg.Fact.eq _ (.slice sa na ca),
      Rg.Fact.eq _ (.pointer (some ⟨w.heap.size + 1, 6, none⟩)),
      Rg.Fact.eq _ (.slice sb nb cb),
      Rg.Fact.eq _ (.int .i64 r4),
      Rg.Fact.ints [Lib.compareBytes a.name b.name, Lib.compareInt a.op b.op, wholeV a.v b.v, r4],
      Rg.Fact.eq _ (.int .i64 (orL [Lib.compareBytes a.name b.name, Lib.compareInt a.op b.op, wholeV a.v b.v, r4])),
      Rg.Fact.eq _ (.int .i64 (orL [Lib.compareBytes a.name b.name, Lib.compareInt a.op b.op, wholeV a.v b.v, r4]))]
    [[], [(0, 5)], [], [(2, 7)], [(1, 6), (3, 8)], [], [(5, 10)], [], [(7, 12)], [(6, 11), (8, 13)], [], [(10, 15)], [], [(12, 17)], [(11, 16), (13, 18)], [], [(15, 20)], [], [(17, 22)], [(16, 21), (18, 23)], [(4, 9), (9, 14), (14, 19), (19, 24)], [(20, 25)], [(21, 26)]]
    [(0, 5), (1, 6), (2, 7), (3, 8), (4, 9), (5, 10), (6, 11), (7, 12), (8, 13), (9, 14), (10, 15), (11, 16), (12, 17), (13, 18), (14, 19), (15, 20), (16, 21), (17, 22), (18, 23), (19, 24), (20, 25), (21, 26), (22, 4)] (by kernel_rfl) (by kernel_rfl) ?_ ?_
  · refine ⟨?_, ?_, ?_, ?_, ?_, ?_, ?_, ?_, ?_, ?_, ?_, ?_, ?_, ?_, ?_, ?_, ?_, ?_, ?_, ?_, ?_, ?_, ?_, trivial⟩
    · intro w1 hx1; change wpList _ _ _ _ _ _; go_wp2_with fail; exact ⟨rfl, GrewS.refl _, rfl, rfl⟩
    · intro w1 hx1; rintro _ rfl; change wpList _ _ _ _ _ _; have m := hx1.1.cell a0; go_wp2_with fail; exact ⟨rfl, GrewS.refl _, rfl, rfl⟩
    · intro w1 hx1; change wpList _ _ _ _ _ _; go_wp2_with fail; exact ⟨rfl, GrewS.refl _, rfl, rfl⟩
    · intro w1 hx1; rintro _ rfl; change wpList _ _ _ _ _ _; have m := hx1.1.cell b0; go_wp2_with fail; exact ⟨rfl, GrewS.refl _, rfl, rfl⟩
    · intro w1 hx1; rintro _ rfl; rintro _ rfl; change wpList _ _ _ _ _ _; go_wp2_with fail; refine (cmpstr_any _ _ _).mono ?_; rintro e w2 ⟨rfl, rfl⟩; go_wp2_with fail; exact ⟨rfl, GrewS.refl _, rfl, rfl⟩
    · intro w1 hx1; change wpList _ _ _ _ _ _; go_wp2_with fail; exact ⟨rfl, GrewS.refl _, rfl, rfl⟩
    · intro w1 hx1; rintro _ rfl; change wpList _ _ _ _ _ _; have m := hx1.1.cell a1; go_wp2_with fail; exact ⟨rfl, GrewS.refl _, rfl, rfl⟩
    · intro w1 hx1; change wpList _ _ _ _ _ _; go_wp2_with fail; exact ⟨rfl, GrewS.refl _, rfl, rfl⟩
    · intro w1 hx1; rintro _ rfl; change wpList _ _ _ _ _ _; have m := hx1.1.cell b1; go_wp2_with fail; exact ⟨rfl, GrewS.refl _, rfl, rfl⟩
    · intro w1 hx1; rintro _ rfl; rintro _ rfl; change wpList _ _ _ _ _ _; go_wp2_with fail; refine (cmpint_any _ _ _).mono ?_; rintro e w2 ⟨rfl, rfl⟩; go_wp2_with fail; exact ⟨rfl, GrewS.refl _, rfl, rfl⟩
    · intro w1 hx1; change wpList _ _ _ _ _ _; go_wp2_with fail; exact ⟨rfl, GrewS.refl _, rfl, rfl⟩
    · intro w1 hx1; rintro _ rfl; change wpList _ _ _ _ _ _; have m0 := hx1.1.cell a2; have m1 := hx1.1.cell a3; have m2 := hx1.1.cell a4; have m3 := hx1.1.cell a5; go_wp2_with fail; exact ⟨rfl, GrewS.refl _, rfl, rfl⟩
    · intro w1 hx1; change wpList _ _ _ _ _ _; go_wp2_with fail; exact ⟨rfl, GrewS.refl _, rfl, rfl⟩
    · intro w1 hx1; rintro _ rfl; change wpList _ _ _ _ _ _; have m0 := hx1.1.cell b2; have m1 := hx1.1.cell b3; have m2 := hx1.1.cell b4; have m3 := hx1.1.cell b5; go_wp2_with fail; exact ⟨rfl, GrewS.refl _, rfl, rfl⟩
    · intro w1 hx1; rintro _ rfl; rintro _ rfl; change wpList _ _ _ _ _ _; go_wp2_with fail; refine (whole_any _ a.v b.v).mono ?_; rintro e w2 ⟨rfl, hx2⟩; go_wp2_with fail; exact ⟨rfl, hx2, rfl, rfl⟩
    · intro w1 hx1; change wpList _ _ _ _ _ _; go_wp2_with fail; exact ⟨rfl, GrewS.refl _, rfl, rfl⟩
    · intro w1 hx1; rintro _ rfl; change wpList _ _ _ _ _ _; have m := hx1.1.cell a6; go_wp2_with fail; exact ⟨rfl, GrewS.refl _, rfl, rfl⟩
    · intro w1 hx1; change wpList _ _ _ _ _ _; go_wp2_with fail; exact ⟨rfl, GrewS.refl _, rfl, rfl⟩
    · intro w1 hx1; rintro _ rfl; change wpList _ _ _ _ _ _; have m := hx1.1.cell b6; go_wp2_with fail; exact ⟨rfl, GrewS.refl _, rfl, rfl⟩
    · intro w1 hx1; rintro _ rfl; rintro _ rfl; change wpList _ _ _ _ _ _; go_wp2_with fail; refine (hcB _ hx1.1).mono ?_; rintro e w2 ⟨rfl, hx2⟩; go_wp2_with fail; exact ⟨rfl, hx2, rfl, rfl⟩
    · intro w1 hx1; rintro _ rfl; rintro _ rfl; rintro _ rfl; rintro _ rfl; change wpList _ _ _ _ _ _; have hr := row_four w1 (Lib.compareBytes a.name b.name) (Lib.compareInt a.op b.op) (wholeV a.v b.v) r4; go_wp2_with fail; exact ⟨rfl, (Grew.refl w1).alloc _, rfl, hr⟩
    · intro w1 hx1; intro v25 h25; change wpList _ _ _ _ _ _; go_wp2_with fail; refine (or_any _ _ _ h25).mono ?_; rintro e w2 ⟨rfl, rfl⟩; go_wp2_with fail; exact ⟨rfl, GrewS.refl _, rfl, rfl⟩
    · intro w1 hx1; rintro _ rfl; change wpList _ _ _ _ _ _; exact Rg.ob_assign _ rfl rfl rfl rfl rfl
  · intro w1 hx1; rintro _ rfl; rintro _ rfl; rintro _ rfl; rintro _ rfl; rintro _ rfl; rintro _ rfl; rintro _ rfl; rintro _ rfl; rintro _ rfl; rintro _ rfl; rintro _ rfl; rintro _ rfl; rintro _ rfl; rintro _ rfl; rintro _ rfl; rintro _ rfl; rintro _ rfl; rintro _ rfl; rintro _ rfl; rintro _ rfl; intro v25 h25; rintro _ rfl; rintro _ rfl; refine depsThen_nil ?_; dsimp only; simp only [Act.put, List.setIfInBounds_toArray, List.set_cons_zero, List.set_cons_succ]
    replace h25 : (Rg.Fact.ints [Lib.compareBytes a.name b.name, Lib.compareInt a.op b.op, wholeV a.v b.v, r4]).p v25 w1 := h25
    go_wp2_with fail
    go_ret
    exact ⟨rfl, hx0.trans hx1⟩

set_option maxRecDepth 100000 in
set_option maxHeartbeats 4000000 in
theorem cmpf64_any (w : World) (v1 v2 : Value) (l m : List C) (h1 : PredR w v1 l) (h2 : PredR w v2 m) (g : Nat) (cb : Array Value) (cf : C → C → Int) (eg : ∀ args w, (callFunc g args).run Try.prog w = .ok (.enter g args) w)
    (hc : ∀ (W : World) (x y : C) (sx : Option Addr) (cx : Nat) (sy : Option Addr) (cy : Nat), SetR W (.slice sx x.set.length cx) x.set → SetR W (.slice sy y.set.length cy) y.set → Calls Try.prog g (#[.agg #[.string (strOf x.name), .int .i64 x.op, .int .i64 x.v.k, .int .i64 x.v.n, .string (strOf x.v.s), .bool x.v.b, .slice sx x.set.length cx], .agg #[.string (strOf y.name), .int .i64 y.op, .int .i64 y.v.k, .int .i64 y.v.n, .string (strOf y.v.s), .bool y.v.b, .slice sy y.set.length cy]] ++ cb) W fun e W' => e = .returned (.int .i64 (cf x y)) ∧ Grew W W') :
    Calls Try.prog 64 #[v1, v2, .func (.func g) #[] cb] w fun e w' => e = .returned (.int .i64 (cmpL cf l m)) ∧ Grew w w' := by
  obtain ⟨a1, cap1, rfl, hc1, hm1⟩ := h1.shape
  obtain ⟨a2, cap2, rfl, hc2, hm2⟩ := h2.shape
  unfold maxLen at hm1 hm2
  generalize hn1 : l.length = n1 at *
  generalize hn2 : m.length = n2 at *
  have HN1 := Lib.hid hn1
  have HN2 := Lib.hid hn2
  clear hn1 hn2
  have HC := Lib.hid hc
  clear hc
  go_enter Try.func64, Try.ntmps64
  go_wp2_with fail
  go_loopw [7, 8, 9, 10, 13] (fun _ _ _ _ i wr => ∃ k : Nat, k ≤ n1 ∧ k ≤ n2 ∧ i = .int .i64 k ∧ Hid (cmpL cf (l.drop k) (m.drop k) = cmpL cf l m) ∧ Grew w wr) (fun _ _ _ _ i _ => n1 - (intOf i).toNat)
  case atStart => exact ⟨0, Nat.zero_le _, Nat.zero_le _, rfl, rfl, Grew.refl w⟩
  case round =>
    obtain ⟨k, hk, hkm, rfl, hcm, hx⟩ := hrel
    by_cases hlt : k < n1
    · have k1 : k < l.length := by rw [HN1.out]; exact hlt
      have hI : decide ((k : Int) < (n1 : Int)) = true := decide_eq_true (by omega)
      obtain ⟨B1, o1, sx, cx, rfl, f0, f1, f2, f3, f4, f5, f6, fs⟩ := (h1.ext hx.1).at k1
      by_cases hlm : k < n2
      · have k2 : k < m.length := by rw [HN2.out]; exact hlm
        have hI2 : decide ((n2 : Int) ≤ (k : Int)) = false := decide_eq_false (by omega)
        obtain ⟨B2, o2, sy, cy, rfl, g0, g1, g2, g3, g4, g5, g6, gs⟩ := (h2.ext hx.1).at k2
        have hcall := fun W (hw : Ext wr W) => HC.out W l[k] m[k] sx cx sy cy (fs.ext hw) (gs.ext hw)
        clear fs gs
        have hst : cf l[k] m[k] = 0 → cmpL cf (l.drop (k + 1)) (m.drop (k + 1)) = cmpL cf l m := fun h => by rw [← cmpL_step k1 k2 h, hcm.out]
        have hsp : cf l[k] m[k] ≠ 0 → cmpL cf l m = cf l[k] m[k] := fun h => by rw [← hcm.out, cmpL_stop k1 k2 h]
        generalize l[k] = x at *
        generalize m[k] = y at *
        have hxb : ∀ o : Obj, Grew w (wr.alloc o) := fun o => hx.alloc o
        have q0 := ((Ext.refl wr).alloc (.cells #[.string (strOf x.name), .int .i64 x.op, .int .i64 x.v.k, .int .i64 x.v.n, .string (strOf x.v.s), .bool x.v.b, .slice sx x.set.length cx] 31)).cell g0
        have q1 := ((Ext.refl wr).alloc (.cells #[.string (strOf x.name), .int .i64 x.op, .int .i64 x.v.k, .int .i64 x.v.n, .string (strOf x.v.s), .bool x.v.b, .slice sx x.set.length cx] 31)).cell g1
        have q2 := ((Ext.refl wr).alloc (.cells #[.string (strOf x.name), .int .i64 x.op, .int .i64 x.v.k, .int .i64 x.v.n, .string (strOf x.v.s), .bool x.v.b, .slice sx x.set.length cx] 31)).cell g2
        have q3 := ((Ext.refl wr).alloc (.cells #[.string (strOf x.name), .int .i64 x.op, .int .i64 x.v.k, .int .i64 x.v.n, .string (strOf x.v.s), .bool x.v.b, .slice sx x.set.length cx] 31)).cell g3
        have q4 := ((Ext.refl wr).alloc (.cells #[.string (strOf x.name), .int .i64 x.op, .int .i64 x.v.k, .int .i64 x.v.n, .string (strOf x.v.s), .bool x.v.b, .slice sx x.set.length cx] 31)).cell g4
        have q5 := ((Ext.refl wr).alloc (.cells #[.string (strOf x.name), .int .i64 x.op, .int .i64 x.v.k, .int .i64 x.v.n, .string (strOf x.v.s), .bool x.v.b, .slice sx x.set.length cx] 31)).cell g5
        have q6 := ((Ext.refl wr).alloc (.cells #[.string (strOf x.name), .int .i64 x.op, .int .i64 x.v.k, .int .i64 x.v.n, .string (strOf x.v.s), .bool x.v.b, .slice sx x.set.length cx] 31)).cell g6
        have hxx : Ext wr ((wr.alloc (.cells #[.string (strOf x.name), .int .i64 x.op, .int .i64 x.v.k, .int .i64 x.v.n, .string (strOf x.v.s), .bool x.v.b, .slice sx x.set.length cx] 31)).alloc (.cells #[.string (strOf y.name), .int .i64 y.op, .int .i64 y.v.k, .int .i64 y.v.n, .string (strOf y.v.s), .bool y.v.b, .slice sy y.set.length cy] 31)) := ((Ext.refl wr).alloc _).alloc _
        by_cases hz : cf x y = 0
        · have hres := Lib.hid (hst hz)
          rw [hz] at hcall
          have HCALL := Lib.hid hcall
          clear hz hst hsp hcall
          go_wp2_with (go_at_fn g; refine (HCALL.out _ hxx).mono ?_; rintro e w3 ⟨rfl, hx3⟩)
          go_roundw
          case rel => exact ⟨k + 1, hlt, hlm, by go_num, hres, (((hx.alloc _).alloc _).trans hx3)⟩
          case measure => simp [intOf]; omega
        · have hres := Lib.hid (hsp hz)
          have hd : (cf x y != 0) = true := by simp [hz]
          have hd1 := beq_int_ne hz
          generalize cf x y = r at *
          have HCALL := Lib.hid hcall
          clear hz hst hsp hcall
          go_wp2_with (go_at_fn g; refine (HCALL.out _ hxx).mono ?_; rintro e w3 ⟨rfl, hx3⟩)
          go_ret
          exact ⟨by rw [hres.out]; rfl, (((hx.alloc _).alloc _).trans hx3)⟩
      · obtain rfl : k = n2 := by omega
        have hI2 : decide ((k : Int) ≤ (k : Int)) = true := decide_eq_true (by omega)
        have hres : Hid (cmpL cf l m = 1) := by show _ = _; rw [← hcm.out, cmpL_more k1 (by rw [HN2.out]; omega)]
        generalize l[k] = x at *
        go_wp2_with fail
        go_ret
        exact ⟨by rw [hres.out]; rfl, hx.alloc _⟩
    · obtain rfl : k = n1 := by omega
      have hI : decide ((k : Int) < (k : Int)) = false := decide_eq_false (by omega)
      by_cases hlm : k < n2
      · have hI2 : decide ((k : Int) < (n2 : Int)) = true := decide_eq_true (by omega)
        have hres : Hid (cmpL cf l m = -1) := by show _ = _; rw [← hcm.out, cmpL_less (by rw [HN1.out]; omega) (by rw [HN2.out]; exact hlm)]
        go_wp2_with fail
        go_ret
        exact ⟨by rw [hres.out]; rfl, hx⟩
      · have hI2 : decide ((k : Int) < (n2 : Int)) = false := decide_eq_false (by omega)
        have hres : Hid (cmpL cf l m = 0) := by show _ = _; rw [← hcm.out, cmpL_same (by rw [HN1.out]; omega) (by rw [HN2.out]; omega)]
        go_wp2_with fail
        go_ret
        exact ⟨by rw [hres.out]; rfl, hx⟩

set_option maxRecDepth 100000 in
set_option maxHeartbeats 2000000 in
theorem pcompare_any (w : World) (v1 v2 : Value) (p q : List C) (h1 : PredR w v1 p) (h2 : PredR w v2 q) : Calls Try.prog 21 #[v1, v2] w fun e w' => e = .returned (.int .i64 (cmpP p q)) ∧ Grew w w' := by
  have hcon := cmpf64_any w v1 v2 p q h1 h2 65 #[] orderC ent65 (fun W x y sx cx sy cy hx hy => order_any W x y sx cx sy cy hx hy)
  obtain ⟨a1, c1, rfl, -, -⟩ := h1.shape
  obtain ⟨a2, c2, rfl, -, -⟩ := h2.shape
  show Calls Try.prog 21 _ w fun e w' => e = .returned (.int .i64 (cmpL orderC p q)) ∧ Grew w w'
  generalize cmpL orderC p q = r at *
  go_enter Try.func21, Try.ntmps21
  go_wp2_with (go_at_call 64; refine hcon.mono ?_; rintro e w' ⟨rfl, hx⟩)
  go_ret
  exact ⟨rfl, hx⟩

set_option maxRecDepth 100000 in
set_option maxHeartbeats 2000000 in
theorem psame_any (w : World) (v1 v2 : Value) (p q : List C) (h1 : PredR w v1 p) (h2 : PredR w v2 q) : Calls Try.prog 20 #[v1, v2] w fun e w' => e = .returned (.bool (decide (cmpP p q = 0))) ∧ Grew w w' := by
  have hcon := pcompare_any w v1 v2 p q h1 h2
  obtain ⟨a1, c1, rfl, -, -⟩ := h1.shape
  obtain ⟨a2, c2, rfl, -, -⟩ := h2.shape
  generalize cmpP p q = r at *
  rw [← beq_dec]
  go_enter Try.func20, Try.ntmps20
  go_wp2_with (go_at_call 21; refine hcon.mono ?_; rintro e w' ⟨rfl, hx⟩)
  go_ret
  exact ⟨rfl, hx⟩
end Go.Proofs.Ytkefppdacigbmaa
