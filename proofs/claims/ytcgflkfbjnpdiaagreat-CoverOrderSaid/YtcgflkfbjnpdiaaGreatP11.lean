/- The order of constraints; CompareFunc at constraints; Compare, Same.
slices.SortFunc, pdqsortCmpFunc, Clone, bits.Len at this dump, laid by the kit's lay-plain.
slices.Clone at values and at constraints.
slices.SortFunc at values.
slices.SortFunc at constraints.
slices.SortFunc at constraints, walked.
Compaction by what a function says of the elements: as slices.CompactFunc does it. No program is in sight. -/
import Derived.Shelf.SlSortCmp.NoneTotal
import Derived.Shelf.SlSortCmp.SmallK
import Derived.Shelf.SlicesE.Clone
import Derived.Shelf.Small.Bits
import Derived.Test.YtcgflkfbjnpdiaaGreatProg
import Derived.Test.YtcgflkfbjnpdiaaGreatP10
import Derived.Test.YtcgflkfbjnpdiaaGreatP3
import Derived.Test.YtcgflkfbjnpdiaaGreatP2
import Derived.Test.YtcgflkfbjnpdiaaGreatP1
namespace Go.Proofs.YtcgflkfbjnpdiaaGreat
open Go.RowKit

theorem ent121 : ∀ args w, (callFunc 69 args).run Tryz.prog w = .ok (.enter 69 args) w := enters_of Tryz.func69 (by kernel_rfl) rfl
theorem ent65 : ∀ args w, (callFunc 30 args).run Tryz.prog w = .ok (.enter 30 args) w := enters_of Tryz.func30 (by kernel_rfl) rfl

set_option maxRecDepth 100000 in
set_option maxHeartbeats 4000000 in
theorem order_any (w : World) (a b : C) (sa : Option Addr) (ca : Nat) (sb : Option Addr) (cb : Nat) (ha : SetR w (.slice sa a.set.length ca) a.set) (hb : SetR w (.slice sb b.set.length cb) b.set) :
    Calls Tryz.prog 30 #[.agg #[.string (strOf a.name), .int .i64 a.op, .int .i64 a.v.k, .int .i64 a.v.n, .string (strOf a.v.s), .bool a.v.b, .slice sa a.set.length ca], .agg #[.string (strOf b.name), .int .i64 b.op, .int .i64 b.v.k, .int .i64 b.v.n, .string (strOf b.v.s), .bool b.v.b, .slice sb b.set.length cb]] w fun e w' => e = .returned (.int .i64 (orderC a b)) ∧ Grew w w' := by
  have hx0 : Grew w ((w.alloc (.cells #[.string (strOf a.name), .int .i64 a.op, .int .i64 a.v.k, .int .i64 a.v.n, .string (strOf a.v.s), .bool a.v.b, .slice sa a.set.length ca] 37)).alloc (.cells #[.string (strOf b.name), .int .i64 b.op, .int .i64 b.v.k, .int .i64 b.v.n, .string (strOf b.v.s), .bool b.v.b, .slice sb b.set.length cb] 37)) := ((Grew.refl w).alloc _).alloc _
  have hA : CBox ((w.alloc (.cells #[.string (strOf a.name), .int .i64 a.op, .int .i64 a.v.k, .int .i64 a.v.n, .string (strOf a.v.s), .bool a.v.b, .slice sa a.set.length ca] 37)).alloc (.cells #[.string (strOf b.name), .int .i64 b.op, .int .i64 b.v.k, .int .i64 b.v.n, .string (strOf b.v.s), .bool b.v.b, .slice sb b.set.length cb] 37)) w.heap.size a sa ca := (CBox.mk (heap_alloc_new _ _) (ha.ext ((Ext.refl w).alloc _))).ext ((Ext.refl _).alloc _)
  have hN : ((w.alloc (.cells #[.string (strOf a.name), .int .i64 a.op, .int .i64 a.v.k, .int .i64 a.v.n, .string (strOf a.v.s), .bool a.v.b, .slice sa a.set.length ca] 37)).alloc (.cells #[.string (strOf b.name), .int .i64 b.op, .int .i64 b.v.k, .int .i64 b.v.n, .string (strOf b.v.s), .bool b.v.b, .slice sb b.set.length cb] 37)).heap[w.heap.size + 1]? = some (.cells #[.string (strOf b.name), .int .i64 b.op, .int .i64 b.v.k, .int .i64 b.v.n, .string (strOf b.v.s), .bool b.v.b, .slice sb b.set.length cb] 37 (0, 0)) := by
    have h := heap_alloc_new (w.alloc (.cells #[.string (strOf a.name), .int .i64 a.op, .int .i64 a.v.k, .int .i64 a.v.n, .string (strOf a.v.s), .bool a.v.b, .slice sa a.set.length ca] 37)) (.cells #[.string (strOf b.name), .int .i64 b.op, .int .i64 b.v.k, .int .i64 b.v.n, .string (strOf b.v.s), .bool b.v.b, .slice sb b.set.length cb] 37)
    rw [World.size_alloc] at h; exact h
  have hB : CBox ((w.alloc (.cells #[.string (strOf a.name), .int .i64 a.op, .int .i64 a.v.k, .int .i64 a.v.n, .string (strOf a.v.s), .bool a.v.b, .slice sa a.set.length ca] 37)).alloc (.cells #[.string (strOf b.name), .int .i64 b.op, .int .i64 b.v.k, .int .i64 b.v.n, .string (strOf b.v.s), .bool b.v.b, .slice sb b.set.length cb] 37)) (w.heap.size + 1) b sb cb := ⟨hN, hb.ext hx0.1⟩
  obtain ⟨a0, a1, a2, a3, a4, a5, a6⟩ := hA.cell
  obtain ⟨b0, b1, b2, b3, b4, b5, b6⟩ := hB.cell
  have has := hA.s
  have hbs := hB.s
  have hres : orderC a b = orL [Lib.compareBytes a.name b.name, Lib.compareInt a.op b.op, wholeV a.v b.v, cmpL wholeV a.set b.set] := by rw [orL4]; rfl
  have hcB : ∀ W, Ext ((w.alloc (.cells #[.string (strOf a.name), .int .i64 a.op, .int .i64 a.v.k, .int .i64 a.v.n, .string (strOf a.v.s), .bool a.v.b, .slice sa a.set.length ca] 37)).alloc (.cells #[.string (strOf b.name), .int .i64 b.op, .int .i64 b.v.k, .int .i64 b.v.n, .string (strOf b.v.s), .bool b.v.b, .slice sb b.set.length cb] 37)) W → Calls Tryz.prog 70 #[.slice sa a.set.length ca, .slice sb b.set.length cb, .func (.func 69) #[] #[]] W fun e w' => e = .returned (.int .i64 (cmpL wholeV a.set b.set)) ∧ Grew W w' :=
    fun W hW => cmpf122_any W _ _ a.set b.set (has.ext hW) (hbs.ext hW) 69 #[] wholeV ent121 (fun W x y => whole_any W x y)
  rw [hres]
  clear hA hN hB hres ha hb has hbs
  generalize cmpL wholeV a.set b.set = r4 at *
  go_enter Tryz.func30, Tryz.ntmps30
  go_upto_region 1 with fail
  generalize (w.alloc (.cells #[.string (strOf a.name), .int .i64 a.op, .int .i64 a.v.k, .int .i64 a.v.n, .string (strOf a.v.s), .bool a.v.b, .slice sa a.set.length ca] 37)).alloc (.cells #[.string (strOf b.name), .int .i64 b.op, .int .i64 b.v.k, .int .i64 b.v.n, .string (strOf b.v.s), .bool b.v.b, .slice sb b.set.length cb] 37) = wa at *
  generalize a.set.length = na at *
  generalize b.set.length = nb at *
  refine Rg.wp_region_facts GrewS [Rg.Fact.eq _ (.pointer (some ⟨w.heap.size, 0, none⟩)),
      Rg.Fact.eq _ (.string (strOf a.name)),
      Rg.Fact.eq _ (.pointer (some ⟨w.heap.size + 1, 0, none⟩)),
      Rg.Fact.eq _ (.string (strOf b.name)),
      Rg.Fact.eq _ (.int .i64 (Lib.compareBytes a.name b.name)),
      Rg.Fact.eq _ (.pointer (some ⟨w.heap.size, 1, none⟩)),
      Rg.Fact.eq _ (.int .i64 a.op),
      Rg.Fact.eq _ (.pointer (some ⟨w.heap.size + 1, 1, none⟩)),
      Rg.Fact.eq _ (.int .i64 b.op),
      Rg.Fact.eq _ (.int .i64 (Lib.compareInt a.op b.op)),
      Rg.Fact.eq _ (.pointer (some ⟨w.heap.size, 2, none⟩)),
      Rg.Fact.eq _ (.agg #[.int .i64 a.v.k, .int .i64 a.v.n, .string (strOf a.v.s), .bool a.v.b]),
      Rg.Fact.eq _ (.pointer (some ⟨w.heap.size + 1, 2, none⟩)),
      Rg.Fact.eq _ (.agg #[.int .i64 b.v.k, .int .i64 b.v.n, .string (strOf b.v.s), .bool b.v.b]),
      Rg.Fact.eq _ (.int .i64 (wholeV a.v b.v)),
      Rg.Fact.eq _ (.pointer (some ⟨w.heap.size, 6, none⟩)),
      Rg.Fact.eq _ (.slice sa na ca),
      Rg.Fact.eq _ (.pointer (some ⟨w.heap.size + 1, 6, none⟩)),
      Rg.Fact.eq _ (.slice sb nb cb),
      Rg.Fact.eq _ (.int .i64 r4),
      Rg.Fact.ints [Lib.compareBytes a.name b.name, Lib.compareInt a.op b.op, wholeV a.v b.v, r4],
      Rg.Fact.eq _ (.int .i64 (orL [Lib.compareBytes a.name b.name, Lib.compareInt a.op b.op, wholeV a.v b.v, r4])),
      Rg.Fact.eq _ (.int .i64 (orL [Lib.compareBytes a.name b.name, Lib.compareInt a.op b.op, wholeV a.v b.v, r4]))]
    [[], [(0, 5)], [], [(2, 7)], [(1, 6), (3, 8)], [], [(5, 10)], [], [(7, 12)], [(6, 11), (8, 13)], [], [(10, 15)], [], [(12, 17)], [(11, 16), (13, 18)], [], [(15, 20)], [], [(17, 22)], [(16, 21), (18, 23)], [(4, 9), (9, 14), (14, 19), (19, 24)], [(20, 25)], [(21, 26)]]
    [(0, 5), (1, 6), (2, 7), (3, 8), (4, 9), (5, 10), (6, 11), (7, 12), (8, 13), (9, 14), (10, 15), (11, 16), (12, 17), (13, 18), (14, 19), (15, 20), (16, 21), (17, 22), (18, 23), (19, 24), (20, 25), (21, 26), (22, 4)] (by kernel_rfl) (by kernel_rfl) ?_ ?_
  · refine ⟨?_, ?_, ?_, ?_, ?_, ?_, ?_, ?_, ?_, ?_, ?_, ?_, ?_, ?_, ?_, ?_, ?_, ?_, ?_, ?_, ?_, ?_, ?_, trivial⟩
    · intro w1 hx1; change wpList _ _ _ _ _ _; go_wp2_with fail; exact ⟨rfl, GrewS.refl _, rfl, rfl⟩
    · intro w1 hx1; rintro _ rfl; change wpList _ _ _ _ _ _; have m := hx1.1.cell a0; go_wp2_with fail; exact ⟨rfl, GrewS.refl _, rfl, rfl⟩
    · intro w1 hx1; change wpList _ _ _ _ _ _; go_wp2_with fail; exact ⟨rfl, GrewS.refl _, rfl, rfl⟩
    · intro w1 hx1; rintro _ rfl; change wpList _ _ _ _ _ _; have m := hx1.1.cell b0; go_wp2_with fail; exact ⟨rfl, GrewS.refl _, rfl, rfl⟩
    · intro w1 hx1; rintro _ rfl; rintro _ rfl; change wpList _ _ _ _ _ _; go_wp2_with fail; refine (cmpstr_any _ _ _).mono ?_; rintro e w2 ⟨rfl, rfl⟩; go_wp2_with fail; exact ⟨rfl, GrewS.refl _, rfl, rfl⟩
    · intro w1 hx1; change wpList _ _ _ _ _ _; go_wp2_with fail; exact ⟨rfl, GrewS.refl _, rfl, rfl⟩
    · intro w1 hx1; rintro _ rfl; change wpList _ _ _ _ _ _; have m := hx1.1.cell a1; go_wp2_with fail; exact ⟨rfl, GrewS.refl _, rfl, rfl⟩
    · intro w1 hx1; change wpList _ _ _ _ _ _; go_wp2_with fail; exact ⟨rfl, GrewS.refl _, rfl, rfl⟩
    · intro w1 hx1; rintro _ rfl; change wpList _ _ _ _ _ _; have m := hx1.1.cell b1; go_wp2_with fail; exact ⟨rfl, GrewS.refl _, rfl, rfl⟩
    · intro w1 hx1; rintro _ rfl; rintro _ rfl; change wpList _ _ _ _ _ _; go_wp2_with fail; refine (cmpint_any _ _ _).mono ?_; rintro e w2 ⟨rfl, rfl⟩; go_wp2_with fail; exact ⟨rfl, GrewS.refl _, rfl, rfl⟩
    · intro w1 hx1; change wpList _ _ _ _ _ _; go_wp2_with fail; exact ⟨rfl, GrewS.refl _, rfl, rfl⟩
    · intro w1 hx1; rintro _ rfl; change wpList _ _ _ _ _ _; have m0 := hx1.1.cell a2; have m1 := hx1.1.cell a3; have m2 := hx1.1.cell a4; have m3 := hx1.1.cell a5; go_wp2_with fail; exact ⟨rfl, GrewS.refl _, rfl, rfl⟩
    · intro w1 hx1; change wpList _ _ _ _ _ _; go_wp2_with fail; exact ⟨rfl, GrewS.refl _, rfl, rfl⟩
    · intro w1 hx1; rintro _ rfl; change wpList _ _ _ _ _ _; have m0 := hx1.1.cell b2; have m1 := hx1.1.cell b3; have m2 := hx1.1.cell b4; have m3 := hx1.1.cell b5; go_wp2_with fail; exact ⟨rfl, GrewS.refl _, rfl, rfl⟩
    · intro w1 hx1; rintro _ rfl; rintro _ rfl; change wpList _ _ _ _ _ _; go_wp2_with fail; refine (whole_any _ a.v b.v).mono ?_; rintro e w2 ⟨rfl, hx2⟩; go_wp2_with fail; exact ⟨rfl, hx2, rfl, rfl⟩
    · intro w1 hx1; change wpList _ _ _ _ _ _; go_wp2_with fail; exact ⟨rfl, GrewS.refl _, rfl, rfl⟩
    · intro w1 hx1; rintro _ rfl; change wpList _ _ _ _ _ _; have m := hx1.1.cell a6; go_wp2_with fail; exact ⟨rfl, GrewS.refl _, rfl, rfl⟩
    · intro w1 hx1; change wpList _ _ _ _ _ _; go_wp2_with fail; exact ⟨rfl, GrewS.refl _, rfl, rfl⟩
    · intro w1 hx1; rintro _ rfl; change wpList _ _ _ _ _ _; have m := hx1.1.cell b6; go_wp2_with fail; exact ⟨rfl, GrewS.refl _, rfl, rfl⟩
    · intro w1 hx1; rintro _ rfl; rintro _ rfl; change wpList _ _ _ _ _ _; go_wp2_with fail; refine (hcB _ hx1.1).mono ?_; rintro e w2 ⟨rfl, hx2⟩; go_wp2_with fail; exact ⟨rfl, hx2, rfl, rfl⟩
    · intro w1 hx1; rintro _ rfl; rintro _ rfl; rintro _ rfl; rintro _ rfl; change wpList _ _ _ _ _ _; have hr := row_four w1 (Lib.compareBytes a.name b.name) (Lib.compareInt a.op b.op) (wholeV a.v b.v) r4; go_wp2_with fail; exact ⟨rfl, (Grew.refl w1).alloc _, rfl, hr⟩
    · intro w1 hx1; intro v25 h25; change wpList _ _ _ _ _ _; go_wp2_with fail; refine (or_any _ _ _ h25).mono ?_; rintro e w2 ⟨rfl, rfl⟩; go_wp2_with fail; exact ⟨rfl, GrewS.refl _, rfl, rfl⟩
    · intro w1 hx1; rintro _ rfl; change wpList _ _ _ _ _ _; exact Rg.ob_assign _ rfl rfl rfl rfl rfl
  · intro w1 hx1; rintro _ rfl; rintro _ rfl; rintro _ rfl; rintro _ rfl; rintro _ rfl; rintro _ rfl; rintro _ rfl; rintro _ rfl; rintro _ rfl; rintro _ rfl; rintro _ rfl; rintro _ rfl; rintro _ rfl; rintro _ rfl; rintro _ rfl; rintro _ rfl; rintro _ rfl; rintro _ rfl; rintro _ rfl; rintro _ rfl; intro v25 h25; rintro _ rfl; rintro _ rfl; refine depsThen_nil ?_; dsimp only; simp only [Act.put, List.setIfInBounds_toArray, List.set_cons_zero, List.set_cons_succ]
    replace h25 : (Rg.Fact.ints [Lib.compareBytes a.name b.name, Lib.compareInt a.op b.op, wholeV a.v b.v, r4]).p v25 w1 := h25
    go_wp2_with fail
    go_ret
    exact ⟨rfl, hx0.trans hx1⟩

set_option maxRecDepth 100000 in
set_option maxHeartbeats 4000000 in
theorem cmpf64_any (w : World) (v1 v2 : Value) (l m : List C) (h1 : PredR w v1 l) (h2 : PredR w v2 m) (g : Nat) (cb : Array Value) (cf : C → C → Int) (eg : ∀ args w, (callFunc g args).run Tryz.prog w = .ok (.enter g args) w)
    (hc : ∀ (W : World) (x y : C) (sx : Option Addr) (cx : Nat) (sy : Option Addr) (cy : Nat), SetR W (.slice sx x.set.length cx) x.set → SetR W (.slice sy y.set.length cy) y.set → Calls Tryz.prog g (#[.agg #[.string (strOf x.name), .int .i64 x.op, .int .i64 x.v.k, .int .i64 x.v.n, .string (strOf x.v.s), .bool x.v.b, .slice sx x.set.length cx], .agg #[.string (strOf y.name), .int .i64 y.op, .int .i64 y.v.k, .int .i64 y.v.n, .string (strOf y.v.s), .bool y.v.b, .slice sy y.set.length cy]] ++ cb) W fun e W' => e = .returned (.int .i64 (cf x y)) ∧ Grew W W') :
    Calls Tryz.prog 29 #[v1, v2, .func (.func g) #[] cb] w fun e w' => e = .returned (.int .i64 (cmpL cf l m)) ∧ Grew w w' := by
  obtain ⟨a1, cap1, rfl, hc1, hm1⟩ := h1.shape
  obtain ⟨a2, cap2, rfl, hc2, hm2⟩ := h2.shape
  unfold maxLen at hm1 hm2
  generalize hn1 : l.length = n1 at *
  generalize hn2 : m.length = n2 at *
  have HN1 := Lib.hid hn1
  have HN2 := Lib.hid hn2
  clear hn1 hn2
  have HC := Lib.hid hc
  clear hc
  go_enter Tryz.func29, Tryz.ntmps29
  go_wp2_with fail
  go_loopw [7, 8, 9, 10, 13] (fun _ _ _ _ i wr => ∃ k : Nat, k ≤ n1 ∧ k ≤ n2 ∧ i = .int .i64 k ∧ Hid (cmpL cf (l.drop k) (m.drop k) = cmpL cf l m) ∧ Grew w wr) (fun _ _ _ _ i _ => n1 - (intOf i).toNat)
  case atStart => exact ⟨0, Nat.zero_le _, Nat.zero_le _, rfl, rfl, Grew.refl w⟩
  case round =>
    obtain ⟨k, hk, hkm, rfl, hcm, hx⟩ := hrel
    by_cases hlt : k < n1
    · have k1 : k < l.length := by rw [HN1.out]; exact hlt
      have hI : decide ((k : Int) < (n1 : Int)) = true := decide_eq_true (by omega)
      obtain ⟨B1, o1, sx, cx, rfl, f0, f1, f2, f3, f4, f5, f6, fs⟩ := (h1.ext hx.1).at k1
      by_cases hlm : k < n2
      · have k2 : k < m.length := by rw [HN2.out]; exact hlm
        have hI2 : decide ((n2 : Int) ≤ (k : Int)) = false := decide_eq_false (by omega)
        obtain ⟨B2, o2, sy, cy, rfl, g0, g1, g2, g3, g4, g5, g6, gs⟩ := (h2.ext hx.1).at k2
        have hcall := fun W (hw : Ext wr W) => HC.out W l[k] m[k] sx cx sy cy (fs.ext hw) (gs.ext hw)
        clear fs gs
        have hst : cf l[k] m[k] = 0 → cmpL cf (l.drop (k + 1)) (m.drop (k + 1)) = cmpL cf l m := fun h => by rw [← cmpL_step k1 k2 h, hcm.out]
        have hsp : cf l[k] m[k] ≠ 0 → cmpL cf l m = cf l[k] m[k] := fun h => by rw [← hcm.out, cmpL_stop k1 k2 h]
        generalize l[k] = x at *
        generalize m[k] = y at *
        have hxb : ∀ o : Obj, Grew w (wr.alloc o) := fun o => hx.alloc o
        have q0 := ((Ext.refl wr).alloc (.cells #[.string (strOf x.name), .int .i64 x.op, .int .i64 x.v.k, .int .i64 x.v.n, .string (strOf x.v.s), .bool x.v.b, .slice sx x.set.length cx] 37)).cell g0
        have q1 := ((Ext.refl wr).alloc (.cells #[.string (strOf x.name), .int .i64 x.op, .int .i64 x.v.k, .int .i64 x.v.n, .string (strOf x.v.s), .bool x.v.b, .slice sx x.set.length cx] 37)).cell g1
        have q2 := ((Ext.refl wr).alloc (.cells #[.string (strOf x.name), .int .i64 x.op, .int .i64 x.v.k, .int .i64 x.v.n, .string (strOf x.v.s), .bool x.v.b, .slice sx x.set.length cx] 37)).cell g2
        have q3 := ((Ext.refl wr).alloc (.cells #[.string (strOf x.name), .int .i64 x.op, .int .i64 x.v.k, .int .i64 x.v.n, .string (strOf x.v.s), .bool x.v.b, .slice sx x.set.length cx] 37)).cell g3
        have q4 := ((Ext.refl wr).alloc (.cells #[.string (strOf x.name), .int .i64 x.op, .int .i64 x.v.k, .int .i64 x.v.n, .string (strOf x.v.s), .bool x.v.b, .slice sx x.set.length cx] 37)).cell g4
        have q5 := ((Ext.refl wr).alloc (.cells #[.string (strOf x.name), .int .i64 x.op, .int .i64 x.v.k, .int .i64 x.v.n, .string (strOf x.v.s), .bool x.v.b, .slice sx x.set.length cx] 37)).cell g5
        have q6 := ((Ext.refl wr).alloc (.cells #[.string (strOf x.name), .int .i64 x.op, .int .i64 x.v.k, .int .i64 x.v.n, .string (strOf x.v.s), .bool x.v.b, .slice sx x.set.length cx] 37)).cell g6
        have hxx : Ext wr ((wr.alloc (.cells #[.string (strOf x.name), .int .i64 x.op, .int .i64 x.v.k, .int .i64 x.v.n, .string (strOf x.v.s), .bool x.v.b, .slice sx x.set.length cx] 37)).alloc (.cells #[.string (strOf y.name), .int .i64 y.op, .int .i64 y.v.k, .int .i64 y.v.n, .string (strOf y.v.s), .bool y.v.b, .slice sy y.set.length cy] 37)) := ((Ext.refl wr).alloc _).alloc _
        by_cases hz : cf x y = 0
        · have hres := Lib.hid (hst hz)
          rw [hz] at hcall
          have HCALL := Lib.hid hcall
          clear hz hst hsp hcall
          go_wp2_with (go_at_fn g; refine (HCALL.out _ hxx).mono ?_; rintro e w3 ⟨rfl, hx3⟩)
          go_roundw
          case rel => exact ⟨k + 1, hlt, hlm, by go_num, hres, (((hx.alloc _).alloc _).trans hx3)⟩
          case measure => simp [intOf]; omega
        · have hres := Lib.hid (hsp hz)
          have hd : (cf x y != 0) = true := by simp [hz]
          have hd1 := beq_int_ne hz
          generalize cf x y = r at *
          have HCALL := Lib.hid hcall
          clear hz hst hsp hcall
          go_wp2_with (go_at_fn g; refine (HCALL.out _ hxx).mono ?_; rintro e w3 ⟨rfl, hx3⟩)
          go_ret
          exact ⟨by rw [hres.out]; rfl, (((hx.alloc _).alloc _).trans hx3)⟩
      · obtain rfl : k = n2 := by omega
        have hI2 : decide ((k : Int) ≤ (k : Int)) = true := decide_eq_true (by omega)
        have hres : Hid (cmpL cf l m = 1) := by show _ = _; rw [← hcm.out, cmpL_more k1 (by rw [HN2.out]; omega)]
        generalize l[k] = x at *
        go_wp2_with fail
        go_ret
        exact ⟨by rw [hres.out]; rfl, hx.alloc _⟩
    · obtain rfl : k = n1 := by omega
      have hI : decide ((k : Int) < (k : Int)) = false := decide_eq_false (by omega)
      by_cases hlm : k < n2
      · have hI2 : decide ((k : Int) < (n2 : Int)) = true := decide_eq_true (by omega)
        have hres : Hid (cmpL cf l m = -1) := by show _ = _; rw [← hcm.out, cmpL_less (by rw [HN1.out]; omega) (by rw [HN2.out]; exact hlm)]
        go_wp2_with fail
        go_ret
        exact ⟨by rw [hres.out]; rfl, hx⟩
      · have hI2 : decide ((k : Int) < (n2 : Int)) = false := decide_eq_false (by omega)
        have hres : Hid (cmpL cf l m = 0) := by show _ = _; rw [← hcm.out, cmpL_same (by rw [HN1.out]; omega) (by rw [HN2.out]; omega)]
        go_wp2_with fail
        go_ret
        exact ⟨by rw [hres.out]; rfl, hx⟩

set_option maxRecDepth 100000 in
set_option maxHeartbeats 2000000 in
theorem pcompare_any (w : World) (v1 v2 : Value) (p q : List C) (h1 : PredR w v1 p) (h2 : PredR w v2 q) : Calls Tryz.prog 11 #[v1, v2] w fun e w' => e = .returned (.int .i64 (cmpP p q)) ∧ Grew w w' := by
  have hcon := cmpf64_any w v1 v2 p q h1 h2 30 #[] orderC ent65 (fun W x y sx cx sy cy hx hy => order_any W x y sx cx sy cy hx hy)
  obtain ⟨a1, c1, rfl, -, -⟩ := h1.shape
  obtain ⟨a2, c2, rfl, -, -⟩ := h2.shape
  show Calls Tryz.prog 11 _ w fun e w' => e = .returned (.int .i64 (cmpL orderC p q)) ∧ Grew w w'
  generalize cmpL orderC p q = r at *
  go_enter Tryz.func11, Tryz.ntmps11
  go_wp2_with (go_at_call 29; refine hcon.mono ?_; rintro e w' ⟨rfl, hx⟩)
  go_ret
  exact ⟨rfl, hx⟩

set_option maxRecDepth 100000 in
set_option maxHeartbeats 2000000 in
theorem psame_any (w : World) (v1 v2 : Value) (p q : List C) (h1 : PredR w v1 p) (h2 : PredR w v2 q) : Calls Tryz.prog 12 #[v1, v2] w fun e w' => e = .returned (.bool (decide (cmpP p q = 0))) ∧ Grew w w' := by
  have hcon := pcompare_any w v1 v2 p q h1 h2
  obtain ⟨a1, c1, rfl, -, -⟩ := h1.shape
  obtain ⟨a2, c2, rfl, -, -⟩ := h2.shape
  generalize cmpP p q = r at *
  rw [← beq_dec]
  go_enter Tryz.func12, Tryz.ntmps12
  go_wp2_with (go_at_call 11; refine hcon.mono ?_; rintro e w' ⟨rfl, hx⟩)
  go_ret
  exact ⟨rfl, hx⟩
end Go.Proofs.YtcgflkfbjnpdiaaGreat

namespace Go.Proofs
open Go.Shelf
def Tryz.sortV_ren : Go.Shelf.Ren := ⟨fun | 6 => 21 | 15 => 56 | 14 => 55 | 28 => 99 | 29 => 100 | 20 => 91 | 21 => 92 | 22 => 93 | 23 => 94 | 24 => 95 | 25 => 96 | 26 => 97 | 27 => 98 | 46 => 119 | 47 => 120 | 48 => 121 | 49 => 122 | 50 => 123 | 57 => 159 | n => n, fun | 22 => 35 | 24 => 34 | 25 => 45 | 3 => 3 | 39 => 84 | 0 => 0 | 53 => 123 | 55 => 107 | 4 => 4 | 46 => 116 | 45 => 115 | 50 => 120 | 5 => 5 | 9 => 9 | 66 => 145 | 70 => 149 | 76 => 167 | 77 => 168 | n => n, fun | n => n⟩
theorem Tryz.sortV : Go.Proofs.SlLaysF0.n6 Tryz.prog Tryz.sortV_ren := {
  mixed := by kernel_rfl
  f6 := ⟨Tryz.f21.name, by decide, Tryz.func21.trans (congrArg some (by kernel_rfl))⟩
  f14 := ⟨Tryz.f55.name, by decide, Tryz.func55.trans (congrArg some (by kernel_rfl))⟩
  f15 := Tryz.func56.trans (congrArg some (by kernel_rfl))
  f20 := ⟨Tryz.f91.name, by decide, Tryz.func91.trans (congrArg some (by kernel_rfl))⟩
  f21 := ⟨Tryz.f92.name, by decide, Tryz.func92.trans (congrArg some (by kernel_rfl))⟩
  f22 := ⟨Tryz.f93.name, by decide, Tryz.func93.trans (congrArg some (by kernel_rfl))⟩
  f23 := ⟨Tryz.f94.name, by decide, Tryz.func94.trans (congrArg some (by kernel_rfl))⟩
  f24 := ⟨Tryz.f95.name, by decide, Tryz.func95.trans (congrArg some (by kernel_rfl))⟩
  f25 := ⟨Tryz.f96.name, by decide, Tryz.func96.trans (congrArg some (by kernel_rfl))⟩
  f26 := ⟨Tryz.f97.name, by decide, Tryz.func97.trans (congrArg some (by kernel_rfl))⟩
  f27 := ⟨Tryz.f98.name, by decide, Tryz.func98.trans (congrArg some (by kernel_rfl))⟩
  f28 := Tryz.func99.trans (congrArg some (by kernel_rfl))
  f29 := Tryz.func100.trans (congrArg some (by kernel_rfl))
  f46 := ⟨Tryz.f119.name, by decide, Tryz.func119.trans (congrArg some (by kernel_rfl))⟩
  f47 := Tryz.func120.trans (congrArg some (by kernel_rfl))
  f48 := Tryz.func121.trans (congrArg some (by kernel_rfl))
  f49 := ⟨Tryz.f122.name, by decide, Tryz.func122.trans (congrArg some (by kernel_rfl))⟩
  f50 := ⟨Tryz.f123.name, by decide, Tryz.func123.trans (congrArg some (by kernel_rfl))⟩
  f57 := ⟨Tryz.f159.name, by decide, Tryz.func159.trans (congrArg some (by kernel_rfl))⟩
  t0 := Tryz.underlying0
  a0 := Tryz.isAgg0
  z0 := Tryz.sizeOf0
  v0 := Tryz.zeroValue0
  t3 := Tryz.underlying3
  a3 := Tryz.isAgg3
  z3 := Tryz.sizeOf3
  v3 := Tryz.zeroValue3
  t4 := Tryz.underlying4
  a4 := Tryz.isAgg4
  z4 := Tryz.sizeOf4
  v4 := Tryz.zeroValue4
  t5 := Tryz.underlying5
  a5 := Tryz.isAgg5
  z5 := Tryz.sizeOf5
  v5 := Tryz.zeroValue5
  t9 := Tryz.underlying9
  a9 := Tryz.isAgg9
  z9 := Tryz.sizeOf9
  v9 := Tryz.zeroValue9
  t22 := Tryz.underlying35
  a22 := Tryz.isAgg35
  z22 := Tryz.sizeOf35
  v22 := Tryz.zeroValue35
  t25 := Tryz.underlying45
  a25 := Tryz.isAgg45
  z25 := Tryz.sizeOf45
  v25 := Tryz.zeroValue45
  t39 := Tryz.underlying84
  a39 := Tryz.isAgg84
  z39 := Tryz.sizeOf84
  v39 := Tryz.zeroValue84
  t45 := Tryz.underlying115
  a45 := Tryz.isAgg115
  z45 := Tryz.sizeOf115
  v45 := Tryz.zeroValue115
  t46 := Tryz.underlying116
  a46 := Tryz.isAgg116
  z46 := Tryz.sizeOf116
  v46 := Tryz.zeroValue116
  t50 := Tryz.underlying120
  a50 := Tryz.isAgg120
  z50 := Tryz.sizeOf120
  v50 := Tryz.zeroValue120
  t53 := Tryz.underlying123
  a53 := Tryz.isAgg123
  z53 := Tryz.sizeOf123
  v53 := Tryz.zeroValue123
  t55 := Tryz.underlying107
  a55 := Tryz.isAgg107
  z55 := Tryz.sizeOf107
  v55 := Tryz.zeroValue107
  t66 := Tryz.underlying145
  a66 := Tryz.isAgg145
  z66 := Tryz.sizeOf145
  v66 := Tryz.zeroValue145
  t70 := Tryz.underlying149
  a70 := Tryz.isAgg149
  z70 := Tryz.sizeOf149
  v70 := Tryz.zeroValue149
  t76 := Tryz.underlying167
  a76 := Tryz.isAgg167
  z76 := Tryz.sizeOf167
  v76 := Tryz.zeroValue167
  t77 := Tryz.underlying168
  a77 := Tryz.isAgg168
  z77 := Tryz.sizeOf168
  v77 := Tryz.zeroValue168 }
def Tryz.sortC_ren : Go.Shelf.Ren := ⟨fun | 14 => 104 | 20 => 125 | 21 => 126 | 22 => 127 | 23 => 128 | 24 => 129 | 25 => 130 | 26 => 131 | 27 => 132 | 46 => 160 | 47 => 120 | 48 => 121 | 49 => 161 | 50 => 162 | 15 => 56 | 57 => 169 | 28 => 99 | 29 => 100 | n => n, fun | 24 => 37 | 22 => 22 | 3 => 3 | 25 => 39 | 4 => 4 | 0 => 0 | 46 => 116 | 45 => 115 | 50 => 120 | 66 => 145 | 39 => 84 | 55 => 107 | 70 => 149 | 76 => 167 | 77 => 168 | 53 => 123 | 5 => 5 | 9 => 9 | n => n, fun | n => n⟩
theorem Tryz.sortC : Go.Proofs.SlLaysF0.n14 Tryz.prog Tryz.sortC_ren := {
  mixed := by kernel_rfl
  f14 := ⟨Tryz.f104.name, by decide, Tryz.func104.trans (congrArg some (by kernel_rfl))⟩
  f15 := Tryz.func56.trans (congrArg some (by kernel_rfl))
  f20 := ⟨Tryz.f125.name, by decide, Tryz.func125.trans (congrArg some (by kernel_rfl))⟩
  f21 := ⟨Tryz.f126.name, by decide, Tryz.func126.trans (congrArg some (by kernel_rfl))⟩
  f22 := ⟨Tryz.f127.name, by decide, Tryz.func127.trans (congrArg some (by kernel_rfl))⟩
  f23 := ⟨Tryz.f128.name, by decide, Tryz.func128.trans (congrArg some (by kernel_rfl))⟩
  f24 := ⟨Tryz.f129.name, by decide, Tryz.func129.trans (congrArg some (by kernel_rfl))⟩
  f25 := ⟨Tryz.f130.name, by decide, Tryz.func130.trans (congrArg some (by kernel_rfl))⟩
  f26 := ⟨Tryz.f131.name, by decide, Tryz.func131.trans (congrArg some (by kernel_rfl))⟩
  f27 := ⟨Tryz.f132.name, by decide, Tryz.func132.trans (congrArg some (by kernel_rfl))⟩
  f28 := Tryz.func99.trans (congrArg some (by kernel_rfl))
  f29 := Tryz.func100.trans (congrArg some (by kernel_rfl))
  f46 := ⟨Tryz.f160.name, by decide, Tryz.func160.trans (congrArg some (by kernel_rfl))⟩
  f47 := Tryz.func120.trans (congrArg some (by kernel_rfl))
  f48 := Tryz.func121.trans (congrArg some (by kernel_rfl))
  f49 := ⟨Tryz.f161.name, by decide, Tryz.func161.trans (congrArg some (by kernel_rfl))⟩
  f50 := ⟨Tryz.f162.name, by decide, Tryz.func162.trans (congrArg some (by kernel_rfl))⟩
  f57 := ⟨Tryz.f169.name, by decide, Tryz.func169.trans (congrArg some (by kernel_rfl))⟩
  t0 := Tryz.underlying0
  a0 := Tryz.isAgg0
  z0 := Tryz.sizeOf0
  v0 := Tryz.zeroValue0
  t3 := Tryz.underlying3
  a3 := Tryz.isAgg3
  z3 := Tryz.sizeOf3
  v3 := Tryz.zeroValue3
  t4 := Tryz.underlying4
  a4 := Tryz.isAgg4
  z4 := Tryz.sizeOf4
  v4 := Tryz.zeroValue4
  t5 := Tryz.underlying5
  a5 := Tryz.isAgg5
  z5 := Tryz.sizeOf5
  v5 := Tryz.zeroValue5
  t9 := Tryz.underlying9
  a9 := Tryz.isAgg9
  z9 := Tryz.sizeOf9
  v9 := Tryz.zeroValue9
  t22 := Tryz.underlying22
  a22 := Tryz.isAgg22
  z22 := Tryz.sizeOf22
  v22 := Tryz.zeroValue22
  t25 := Tryz.underlying39
  a25 := Tryz.isAgg39
  z25 := Tryz.sizeOf39
  v25 := Tryz.zeroValue39
  t39 := Tryz.underlying84
  a39 := Tryz.isAgg84
  z39 := Tryz.sizeOf84
  v39 := Tryz.zeroValue84
  t45 := Tryz.underlying115
  a45 := Tryz.isAgg115
  z45 := Tryz.sizeOf115
  v45 := Tryz.zeroValue115
  t46 := Tryz.underlying116
  a46 := Tryz.isAgg116
  z46 := Tryz.sizeOf116
  v46 := Tryz.zeroValue116
  t50 := Tryz.underlying120
  a50 := Tryz.isAgg120
  z50 := Tryz.sizeOf120
  v50 := Tryz.zeroValue120
  t53 := Tryz.underlying123
  a53 := Tryz.isAgg123
  z53 := Tryz.sizeOf123
  v53 := Tryz.zeroValue123
  t55 := Tryz.underlying107
  a55 := Tryz.isAgg107
  z55 := Tryz.sizeOf107
  v55 := Tryz.zeroValue107
  t66 := Tryz.underlying145
  a66 := Tryz.isAgg145
  z66 := Tryz.sizeOf145
  v66 := Tryz.zeroValue145
  t70 := Tryz.underlying149
  a70 := Tryz.isAgg149
  z70 := Tryz.sizeOf149
  v70 := Tryz.zeroValue149
  t76 := Tryz.underlying167
  a76 := Tryz.isAgg167
  z76 := Tryz.sizeOf167
  v76 := Tryz.zeroValue167
  t77 := Tryz.underlying168
  a77 := Tryz.isAgg168
  z77 := Tryz.sizeOf168
  v77 := Tryz.zeroValue168 }
def Tryz.cloneV_ren : Go.Shelf.Ren := ⟨fun | 41 => 20 | n => n, fun | 22 => 35 | 23 => 34 | 4 => 4 | n => n, fun | n => n⟩
theorem Tryz.cloneV : Go.Proofs.SlLaysE0.n41 Tryz.prog Tryz.cloneV_ren := {
  mixed := by kernel_rfl
  f41 := ⟨Tryz.f20.name, by decide, Tryz.func20.trans (congrArg some (by kernel_rfl))⟩
  t4 := Tryz.underlying4
  a4 := Tryz.isAgg4
  z4 := Tryz.sizeOf4
  v4 := Tryz.zeroValue4
  t22 := Tryz.underlying35
  a22 := Tryz.isAgg35
  z22 := Tryz.sizeOf35
  v22 := Tryz.zeroValue35 }
def Tryz.cloneC_ren : Go.Shelf.Ren := ⟨fun | 41 => 62 | n => n, fun | 22 => 42 | 23 => 37 | 4 => 4 | n => n, fun | n => n⟩
theorem Tryz.cloneC : Go.Proofs.SlLaysE0.n41 Tryz.prog Tryz.cloneC_ren := {
  mixed := by kernel_rfl
  f41 := ⟨Tryz.f62.name, by decide, Tryz.func62.trans (congrArg some (by kernel_rfl))⟩
  t4 := Tryz.underlying4
  a4 := Tryz.isAgg4
  z4 := Tryz.sizeOf4
  v4 := Tryz.zeroValue4
  t22 := Tryz.underlying42
  a22 := Tryz.isAgg42
  z22 := Tryz.sizeOf42
  v22 := Tryz.zeroValue42 }
def Tryz.bitsLen_ren : Go.Shelf.Ren := ⟨fun | 125 => 56 | 128 => 99 | 129 => 100 | n => n, fun | 46 => 84 | 3 => 3 | 51 => 123 | 53 => 107 | 4 => 4 | 5 => 5 | 9 => 9 | n => n, fun | n => n⟩
theorem Tryz.bitsLen : Go.Proofs.Lays.n125 Tryz.prog Tryz.bitsLen_ren := {
  mixed := by kernel_rfl
  f125 := Tryz.func56.trans (congrArg some (by kernel_rfl))
  f128 := Tryz.func99.trans (congrArg some (by kernel_rfl))
  f129 := Tryz.func100.trans (congrArg some (by kernel_rfl))
  t3 := Tryz.underlying3
  a3 := Tryz.isAgg3
  z3 := Tryz.sizeOf3
  v3 := Tryz.zeroValue3
  t4 := Tryz.underlying4
  a4 := Tryz.isAgg4
  z4 := Tryz.sizeOf4
  v4 := Tryz.zeroValue4
  t5 := Tryz.underlying5
  a5 := Tryz.isAgg5
  z5 := Tryz.sizeOf5
  v5 := Tryz.zeroValue5
  t9 := Tryz.underlying9
  a9 := Tryz.isAgg9
  z9 := Tryz.sizeOf9
  v9 := Tryz.zeroValue9
  t46 := Tryz.underlying84
  a46 := Tryz.isAgg84
  z46 := Tryz.sizeOf84
  v46 := Tryz.zeroValue84
  t51 := Tryz.underlying123
  a51 := Tryz.isAgg123
  z51 := Tryz.sizeOf123
  v51 := Tryz.zeroValue123
  t53 := Tryz.underlying107
  a53 := Tryz.isAgg107
  z53 := Tryz.sizeOf107
  v53 := Tryz.zeroValue107 }
end Go.Proofs

namespace Go.Proofs.YtcgflkfbjnpdiaaGreat
open Go.RowKit

set_option maxRecDepth 100000 in
set_option maxHeartbeats 2000000 in
theorem cloneV_any (w : World) (v : Value) (l : List V) (h : SetR w v l) (hl : l.length ≤ 1000000) :
    Calls Tryz.prog 20 #[v] w fun e w' => ∃ v', e = .returned v' ∧ w'.ownsRow w.heap.size 34 4 v' l.length (l.flatMap vC) ∧ Ext w w' := by
  obtain ⟨a, cap, rfl, hc, hm⟩ := Row.shape h
  have hq : ∀ (w : World) (a : Option Addr) (n c n' c' : Nat), (binOp .eql 35 (.slice a n c) (.slice none n' c')).run Tryz.prog w = .ok (.bool a.isNone) w := fun w a n c n' c' => Lib.run_eql_slice_nil w _ _ a n c n' c' Tryz.underlying35
  cases a with
  | none =>
    have hz : l = [] := by
      obtain ⟨_, a', cap', e1, _, _, hnil, _⟩ := h
      simp only [Value.slice.injEq] at e1
      have := hnil e1.1.symm
      exact List.length_eq_zero_iff.1 (by omega)
    subst hz
    go_enter Tryz.func20, Tryz.ntmps20
    go_wp2
    go_ret
    exact ⟨_, rfl, ⟨rfl, .inl ⟨rfl, rfl⟩⟩, Ext.refl w⟩
  | some p =>
    have hr := h.ext ((Ext.refl w).alloc (.cells #[] 34))
    have hone := vC_one l
    unfold maxLen at hm
    go_enter Tryz.func20, Tryz.ntmps20
    go_wp2_with (at_builtin; refine wpList_append_row 35 34 (.tmp 5) (.tmp 6) rfl w.heap.size _ 4 40 Tryz.underlying35 info28t rfl (by decide) rfl _ 0 [] rfl (World.ownsRow_made w #[] 0 (Nat.le_refl _) (Nat.zero_le _) (by simp)) l.length (l.flatMap vC) hr hone (by omega) (by unfold maxLen; omega) (by simp) ?_; intro v' w1 hown hgrow)
    go_ret
    refine ⟨v', rfl, by simpa using hown, Ext.grown_none ((Ext.refl w).alloc _) hgrow (by intro k hk; cases hk; exact Nat.le_refl _)⟩
set_option maxRecDepth 100000 in
set_option maxHeartbeats 2000000 in
theorem cloneC_any (w : World) (v : Value) (l : List CS) (h : Row w 7 v l.length (l.flatMap csC)) (hsl : ∀ x ∈ l, x.h.oneCell' = true) (hl : l.length ≤ 1000000) :
    Calls Tryz.prog 62 #[v] w fun e w' => ∃ v', e = .returned v' ∧ w'.ownsRow w.heap.size 37 7 v' l.length (l.flatMap csC) ∧ Ext w w' ∧ (v = .slice none 0 0 → v' = .slice none 0 0) := by
  obtain ⟨a, cap, rfl, hc, hm⟩ := Row.shape h
  have hq : ∀ (w : World) (a : Option Addr) (n c n' c' : Nat), (binOp .eql 42 (.slice a n c) (.slice none n' c')).run Tryz.prog w = .ok (.bool a.isNone) w := fun w a n c n' c' => Lib.run_eql_slice_nil w _ _ a n c n' c' Tryz.underlying42
  cases a with
  | none =>
    have hz : l = [] := by
      obtain ⟨_, a', cap', e1, _, _, hnil, _⟩ := h
      simp only [Value.slice.injEq] at e1
      have := hnil e1.1.symm
      exact List.length_eq_zero_iff.1 (by omega)
    subst hz
    go_enter Tryz.func62, Tryz.ntmps62
    go_wp2
    go_ret
    exact ⟨_, rfl, ⟨rfl, .inl ⟨rfl, rfl⟩⟩, Ext.refl w, fun _ => rfl⟩
  | some p =>
    have hr := h.ext ((Ext.refl w).alloc (.cells #[] 37))
    have hone := csC_one l hsl
    unfold maxLen at hm
    go_enter Tryz.func62, Tryz.ntmps62
    go_wp2_with (at_builtin; refine wpList_append_row 42 37 (.tmp 5) (.tmp 6) rfl w.heap.size _ 7 88 Tryz.underlying42 info31t rfl (by decide) rfl _ 0 [] rfl (World.ownsRow_made w #[] 0 (Nat.le_refl _) (Nat.zero_le _) (by simp)) l.length (l.flatMap csC) hr hone (by omega) (by unfold maxLen; omega) (by simp) ?_; intro v' w1 hown hgrow)
    go_ret
    refine ⟨v', rfl, by simpa using hown, Ext.grown_none ((Ext.refl w).alloc _) hgrow (by intro k hk; cases hk; exact Nat.le_refl _), fun h => by cases h⟩
end Go.Proofs.YtcgflkfbjnpdiaaGreat

namespace Go.Proofs.YtcgflkfbjnpdiaaGreat
open Go.RowKit Go.Sort

instance : Inhabited V := ⟨⟨0, 0, [], false⟩⟩
theorem wo_swo {α : Type} {cf : α → α → Int} (h : WO cf) : SWO (ltOf cf) := by
  have hr : ∀ x, cf x x = 0 := h.refl
  refine ⟨fun x => ?_, fun x y z h1 h2 => ?_, fun x y z h1 h2 => ?_⟩
  · unfold ltOf; rw [hr]; rfl
  · unfold ltOf at *
    have a1 := of_decide_eq_true h1
    have a2 := of_decide_eq_true h2
    refine decide_eq_true ?_
    have b1 := h.trans x y z (by omega) (by omega)
    rcases Int.lt_or_eq_of_le b1 with b | b
    · exact b
    · have c1 := h.anti x z
      have c2 := h.trans z x y (by omega) (by omega)
      have c3 := h.anti y z
      omega
  · unfold ltOf at *
    have a1 := of_decide_eq_false h1
    have a2 := of_decide_eq_false h2
    refine decide_eq_false ?_
    have e1 := h.anti x y
    have e2 := h.anti y z
    have e3 := h.anti x z
    have b1 := h.trans z y x (by omega) (by omega)
    omega

theorem ent23 : ∀ args w, (callFunc 22 args).run Tryz.prog w = .ok (.enter 22 args) w := enters_of Tryz.func22 (by kernel_rfl) rfl

theorem sortV_any (w : World) (base : Nat) (v : Value) (l : List V) (ho : w.ownsRow base 34 4 v l.length (l.flatMap vC)) (hl : l.length ≤ 1000000) :
    Calls Tryz.prog 21 #[v, .func (.func 22) #[] #[]] w fun e w' => e = .returned (.tuple #[]) ∧ ∃ l' : List V, l'.Perm l ∧ (l'.Pairwise fun a b => cmpV a b ≤ 0) ∧ w'.ownsRow base 34 4 v l.length (l'.flatMap vC) ∧ w.grownBy w' v.ownBlock := by
  have ho' := ho
  rcases ho.2 with ⟨rfl, h0⟩ | ⟨g, cap, cur, rfl, hb, hg, hn, hm, hs, ht⟩
  · have hz : l = [] := List.length_eq_zero_iff.1 h0
    subst hz
    refine (AnyF.slices_SortFunc_none { Tryz.sortV with } none 0 (.func (.func 22) #[] #[]) w).mono ?_
    rintro e w' ⟨rfl, rfl⟩
    exact ⟨rfl, [], List.Perm.refl _, List.Pairwise.nil, ho, ⟨rfl, rfl, rfl, Nat.le_refl _, fun _ _ _ => rfl⟩⟩
  · have hlt : g < w.heap.size := (Array.getElem?_eq_some_iff.1 hg).1
    have hH := own_holdsK vC (by decide) vC_len ho
    have hone : ∀ x, ∀ u ∈ vC x, u.oneCell' = true := fun x u hu => vC_one [x] u (by simpa using hu)
    have hc := AnyQ.slices_SortFunc Tryz.sortV 4 (fun w => Tryz.isAgg34 w) (fun w => Tryz.sizeOf34 w) vC vC_len hone cmpV (wo_swo wo_V) 22 #[] g 0 cap l.toArray w ent23
      (fun m os dk _ x y => (cmpV_any _ x y).mono fun _ _ ⟨he, hx⟩ => ⟨he, hx.grown⟩) hH hlt (by simp; omega)
    have e1 : l.toArray.size = l.length := by simp
    rw [e1] at hc
    refine hc.mono ?_
    rintro e w' ⟨rfl, d', n, os, hp, hs', rfl⟩
    obtain ⟨p1, p2⟩ := sorted_list (by rw [e1]; exact hp) (by rw [e1]; exact hs') (wo_V.anti)
    have hll : d'.toList.length = l.length := p1.length_eq
    have hfin := own_sorted (m := n) (os := os) vC (by decide) vC_len ho hll
    exact ⟨rfl, d'.toList, p1, p2, hfin.1, hfin.2⟩
end Go.Proofs.YtcgflkfbjnpdiaaGreat

namespace Go.Proofs.YtcgflkfbjnpdiaaGreat
open Go.RowKit Go.Sort

theorem Row.keep {w w' : World} {size n : Nat} {v : Value} {xs : List Value} {row : Option Nat} (h : Row w size v n xs) (hg : w.grownBy w' row) (hne : v.ownBlock ≠ row ∨ row = none) : Row w' size v n xs := by
  obtain ⟨h1, a, cap, rfl, h3, h4, h5, h6, h7⟩ := h
  refine ⟨h1, a, cap, rfl, h3, h4, h5, h6, fun j u hj => ?_⟩
  obtain ⟨p, rfl, hc⟩ := h7 j u hj
  refine ⟨p, rfl, ?_⟩
  have hlt : p.block < w.heap.size := by
    rcases Nat.lt_or_ge p.block w.heap.size with h | h
    · exact h
    · have : w.cell? ⟨p.block, p.off + j, none⟩ = none := by simp [World.cell?, Array.getElem?_eq_none h]
      rw [this] at hc; cases hc
  rw [World.cell?_of_block (a := ⟨p.block, p.off + j, none⟩) (hg.block p.block hlt ?_)]
  · exact hc
  · rcases hne with hne | hne
    · exact hne
    · rw [hne]; simp

/-- A constraint with its set, where it may be sorted: its set lies, and not in the row's own block. -/
def SC (w : World) (g : Nat) : Type := { x : CS // SetR w x.h x.c.set ∧ x.h.ownBlock ≠ some g }
def scC {w : World} {g : Nat} (x : SC w g) : List Value := csC x.1
def scO {w : World} {g : Nat} (x y : SC w g) : Int := orderC x.1.c y.1.c
theorem set_one {w : World} {h : Value} {l : List V} (k : SetR w h l) : h.oneCell' = true := by
  obtain ⟨a, cap, rfl, _, _⟩ := Row.shape k; rfl
theorem swo_SC {w : World} {g : Nat} : WO (scO (w := w) (g := g)) := ⟨fun _ _ => wo_C.anti _ _, fun _ _ _ => wo_C.trans _ _ _⟩

theorem SC.lift {w : World} {g : Nat} : ∀ (us : List CS), (∀ x ∈ us, SetR w x.h x.c.set ∧ x.h.ownBlock ≠ some g) → ∃ ss : List (SC w g), ss.map (·.1) = us
  | [], _ => ⟨[], rfl⟩
  | x :: r, h => by
    obtain ⟨ss, e⟩ := SC.lift r fun y hy => h y (List.mem_cons_of_mem _ hy)
    exact ⟨⟨x, h x List.mem_cons_self⟩ :: ss, congrArg (x :: ·) e⟩

theorem bits115_any (n : Nat) (hn : n ≤ 1000000) (w : World) : Calls Tryz.prog 56 #[.int .u64 n] w fun e w' => e = .returned (.int .i64 (Lib.bitLen n)) ∧ w' = w := by
  have h := Any.bits_Len Tryz.bitsLen (n : Int) w (by omega) (by omega)
  rw [Int.toNat_natCast] at h
  exact h

theorem pdqC_any (w : World) (base g cap : Nat) (us : List CS) (ho : w.ownsRow base 37 7 (.slice (some ⟨g, 0, none⟩) us.length cap) us.length (us.flatMap csC)) (hl : us.length ≤ 12) (h0 : us ≠ [])
    (hs : ∀ x ∈ us, SetR w x.h x.c.set ∧ x.h.ownBlock ≠ some g) (lim : Int) :
    Calls Tryz.prog 104 #[.slice (some ⟨g, 0, none⟩) us.length cap, .int .i64 0, .int .i64 us.length, .int .i64 lim, .func (.func 30) #[] #[]] w
      fun e w' => e = .returned (.tuple #[]) ∧ ∃ us' : List CS, us'.Perm us ∧ (us'.Pairwise fun a b => orderC a.c b.c ≤ 0) ∧ w'.ownsRow base 37 7 (.slice (some ⟨g, 0, none⟩) us.length cap) us.length (us'.flatMap csC) ∧ w.grownBy w' (some g) := by
  obtain ⟨cur, hg, hb, hn, hm, hsz, hlt, hH⟩ := own_holds ho
  obtain ⟨ss, hss⟩ := SC.lift us hs
  have hsl : ss.length = us.length := by rw [← hss, List.length_map]
  have hfl : ss.flatMap scC = us.flatMap csC := by rw [← hss, List.flatMap_map]; rfl
  haveI : Inhabited (SC w g) := ⟨ss.head (by intro h; rw [h] at hsl; exact h0 (List.length_eq_zero_iff.1 hsl.symm))⟩
  have hk : ∀ x : SC w g, (scC x).length = 7 := fun _ => rfl
  have ho2 : w.ownsRow base 37 7 (.slice (some ⟨g, 0, none⟩) us.length cap) us.length (ss.flatMap scC) := by rw [hfl]; exact ho
  have hHK := own_holdsK scC (by decide) hk ho2
  have hone : ∀ x : SC w g, ∀ u ∈ scC x, u.oneCell' = true := fun x u hu => csC_one [x.1] (fun y hy => by rw [List.mem_singleton.1 hy]; exact set_one x.2.1) u (by simpa [scC] using hu)
  have hcmp : CmpLays (α := SC w g) Tryz.prog 30 #[] scC 7 scO g 0 ss.toArray.size w := fun m os dk hdk x y => by
    have hgw : w.grownBy (sortWorldK scC 7 w g 0 m dk os) (some g) := by unfold sortWorldK putRowK; exact grownBy_row _
    obtain ⟨a1, c1, e1, _, _⟩ := Row.shape x.2.1
    obtain ⟨a2, c2, e2, _, _⟩ := Row.shape y.2.1
    have hx := Row.keep x.2.1 hgw (.inl x.2.2)
    have hy := Row.keep y.2.1 hgw (.inl y.2.2)
    have := order_any (sortWorldK scC 7 w g 0 m dk os) x.1.c y.1.c a1 c1 a2 c2 (by rw [← e1]; exact hx) (by rw [← e2]; exact hy)
    rw [← e1, ← e2] at this
    exact this.mono fun _ _ ⟨he, hx⟩ => ⟨he, hx.grown⟩
  have h12 : ss.toArray.size ≤ 12 := by simp; omega
  have hc := AnyQ.pdqsortCmpFunc_small Tryz.sortC 7 (fun w => Tryz.isAgg37 w) (fun w => Tryz.sizeOf37 w) scC hk hone scO 30 #[] g 0 cap 0 ss.toArray.size lim ss.toArray w ent65 hcmp hHK hlt (Nat.zero_le _) (Nat.le_refl _) (by omega) (by omega)
  have e1 : ss.toArray.size = us.length := by simp [hsl]
  have hsort := insertionSort_holds (lt := ltOf (scO (w := w) (g := g))) (wo_swo swo_SC) ss.toArray 0 ss.toArray.size (Nat.zero_le _) (Nat.le_refl _)
  rw [e1] at hc
  refine hc.mono ?_
  rintro e w' ⟨rfl, n, os, rfl⟩
  rw [← e1]
  generalize insertionSort (ltOf scO) ss.toArray 0 ss.toArray.size = d' at *
  obtain ⟨p1, p2⟩ := sorted_list (cf := scO) hsort.1 hsort.2 swo_SC.anti
  have hll : d'.toList.length = ss.length := p1.length_eq
  have hfin := own_sorted (m := n) (os := os) scC (by decide) hk ho2 hll
  refine ⟨rfl, d'.toList.map (·.1), ?_, ?_, ?_, hfin.2⟩
  · rw [← hss]; exact p1.map _
  · rw [List.pairwise_map]; exact p2
  · have : (d'.toList.map (·.1)).flatMap csC = d'.toList.flatMap scC := by rw [List.flatMap_map]; rfl
    rw [this, e1]
    exact hfin.1
end Go.Proofs.YtcgflkfbjnpdiaaGreat

namespace Go.Proofs.YtcgflkfbjnpdiaaGreat
open Go.RowKit Go.Sort

set_option maxRecDepth 100000 in
set_option maxHeartbeats 2000000 in
theorem sortC_any (w : World) (base g cap : Nat) (us : List CS) (ho : w.ownsRow base 37 7 (.slice (some ⟨g, 0, none⟩) us.length cap) us.length (us.flatMap csC)) (hl : us.length ≤ 12) (h0 : us ≠ [])
    (hs : ∀ x ∈ us, SetR w x.h x.c.set ∧ x.h.ownBlock ≠ some g) :
    Calls Tryz.prog 63 #[.slice (some ⟨g, 0, none⟩) us.length cap, .func (.func 30) #[] #[]] w
      fun e w' => e = .returned (.tuple #[]) ∧ ∃ us' : List CS, us'.Perm us ∧ (us'.Pairwise fun a b => orderC a.c b.c ≤ 0) ∧ w'.ownsRow base 37 7 (.slice (some ⟨g, 0, none⟩) us.length cap) us.length (us'.flatMap csC) ∧ w.grownBy w' (some g) := by
  have hc := fun lim => pdqC_any w base g cap us ho hl h0 hs lim
  have hbl := bits115_any us.length (by omega) w
  have wr : IntKind.u64.wrap (us.length : Int) = us.length := by simp [IntKind.wrap, IntKind.bits, IntKind.signed]; omega
  have HC := Lib.hid hc
  clear hc ho hs h0
  generalize us.length = n at *
  go_enter Tryz.func63, Tryz.ntmps63
  go_wp2_with (first | (go_at_call 56; refine hbl.mono ?_; rintro e w' ⟨rfl, rfl⟩) | (go_at_call 104; refine (HC.out _).mono ?_; rintro e w' ⟨rfl, us', q1, q2, q3, q4⟩))
  go_end0
  exact ⟨rfl, us', q1, q2, q3, q4⟩
end Go.Proofs.YtcgflkfbjnpdiaaGreat

namespace Go.Proofs.YtcgflkfbjnpdiaaGreat

section
variable {α β : Type} [DecidableEq β] (f : α → β)
/-- Equal neighbours, one kept. -/
def compF (l : List α) : List α := compL (fun a b => decide (f a = f b)) l
variable {f}
theorem compF_nil : compF f ([] : List α) = [] := compL_nil _
theorem compF_one (x : α) : compF f [x] = [x] := compL_one _ x
theorem compF_cons2 (x y : α) (r : List α) : compF f (x :: y :: r) = if f x = f y then compF f (x :: r) else x :: compF f (y :: r) := by
  unfold compF
  rw [compL_cons2]
  by_cases h : f x = f y
  · rw [if_pos h, if_pos (decide_eq_true h)]
  · rw [if_neg h, if_neg (by simpa using h)]
theorem compF_snoc : ∀ (n : Nat) (m : List α), m.length = n → ∀ x y : α, compF f (m ++ [x, y]) = if f x = f y then compF f (m ++ [x]) else compF f (m ++ [x]) ++ [y]
  | _, [], _, x, y => by
    rw [List.nil_append, List.nil_append, compF_cons2, compF_one, compF_one]
    by_cases h : f x = f y
    · rw [if_pos h, if_pos h]
    · rw [if_neg h, if_neg h]; rfl
  | _, [a], _, x, y => by
    show compF f (a :: x :: [y]) = if f x = f y then compF f (a :: x :: []) else compF f (a :: x :: []) ++ [y]
    rw [compF_cons2, compF_cons2 a x []]
    by_cases hax : f a = f x
    · rw [if_pos hax, if_pos hax, compF_cons2, compF_one, compF_one, hax]
      by_cases h : f x = f y
      · rw [if_pos h, if_pos h]
      · rw [if_neg h, if_neg h]; rfl
    · rw [if_neg hax, if_neg hax, compF_cons2, compF_one, compF_one]
      by_cases h : f x = f y
      · rw [if_pos h, if_pos h]
      · rw [if_neg h, if_neg h]; rfl
  | n + 1, a :: b :: m, h, x, y => by
    show compF f (a :: b :: (m ++ [x, y])) = if f x = f y then compF f (a :: b :: (m ++ [x])) else compF f (a :: b :: (m ++ [x])) ++ [y]
    rw [compF_cons2, compF_cons2]
    have hlen : (a :: m).length = n := by simp at h ⊢; omega
    have hlen2 : (b :: m).length = n := by simp at h ⊢; omega
    by_cases hab : f a = f b
    · rw [if_pos hab, if_pos hab]
      exact compF_snoc n (a :: m) hlen x y
    · rw [if_neg hab, if_neg hab]
      have := compF_snoc n (b :: m) hlen2 x y
      rw [List.cons_append, List.cons_append] at this
      rw [this]
      by_cases h : f x = f y
      · rw [if_pos h, if_pos h]
      · rw [if_neg h, if_neg h]; rfl
/-- One more element read. -/
theorem compF_take {l : List α} {n : Nat} (h : n + 1 < l.length) : compF f (l.take (n + 2)) = if f l[n + 1] = f l[n] then compF f (l.take (n + 1)) else compF f (l.take (n + 1)) ++ [l[n + 1]] := by
  have e1 : l.take (n + 1) = l.take n ++ [l[n]] := by rw [List.take_succ_eq_append_getElem (by omega)]
  have e2 : l.take (n + 2) = l.take n ++ [l[n], l[n + 1]] := by
    rw [List.take_succ_eq_append_getElem h, e1, List.append_assoc]; rfl
  rw [e2, e1, compF_snoc _ _ rfl]
  by_cases hh : f l[n] = f l[n + 1]
  · rw [if_pos hh, if_pos hh.symm]
  · rw [if_neg hh, if_neg (fun e => hh e.symm)]
theorem compF_len : ∀ (n : Nat) (l : List α), l.length ≤ n → (compF f l).length ≤ l.length
  | _, [], _ => by rw [compF_nil]; exact Nat.le_refl _
  | _, [x], _ => by rw [compF_one]; exact Nat.le_refl _
  | n + 1, x :: y :: r, h => by
    rw [compF_cons2]
    split
    · have := compF_len n (x :: r) (by simp at h ⊢; omega)
      simp only [List.length_cons] at this ⊢; omega
    · have := compF_len n (y :: r) (by simp at h ⊢; omega)
      simp only [List.length_cons] at this ⊢; omega
variable (f) in
/-- i elements have been read, k are kept at the row's head; what has not been read stands. -/
structure CompInvF (l r : List α) (k i : Nat) : Prop where
  len : r.length = l.length
  pos : 1 ≤ k
  le : k + 1 ≤ i
  hi : i ≤ l.length
  tk : r.take k = compF f (l.take i)
  dr : r.drop (i - 1) = l.drop (i - 1)
theorem CompInvF.start {l : List α} {m : Nat} (h : m + 1 < l.length) (hc : compF f (l.take (m + 1)) = l.take (m + 1)) (e : f l[m + 1] = f l[m]) : CompInvF f l l (m + 1) (m + 2) := by
  refine ⟨rfl, by omega, by omega, by omega, ?_, rfl⟩
  rw [compF_take h, if_pos e, hc]
theorem CompInvF.at {l r : List α} {k i : Nat} (h : CompInvF f l r k i) (hi : i < l.length) : ∃ (h1 : i < r.length) (h2 : i - 1 < r.length), r[i] = l[i] ∧ r[i - 1] = l[i - 1]'(by omega) := by
  have hp := h.pos
  have hl := h.le
  have hn := h.len
  refine ⟨by omega, by omega, ?_, ?_⟩
  · have := congrArg (fun x => x[1]?) h.dr
    simp only [List.getElem?_drop] at this
    have e : i - 1 + 1 = i := by omega
    rw [e, List.getElem?_eq_getElem (by omega), List.getElem?_eq_getElem hi] at this
    exact Option.some.inj this
  · have := congrArg (fun x => x[0]?) h.dr
    simp only [List.getElem?_drop, Nat.add_zero] at this
    rw [List.getElem?_eq_getElem (by omega), List.getElem?_eq_getElem (by omega)] at this
    exact Option.some.inj this
theorem CompInvF.drop {l r : List α} {k i : Nat} (h : CompInvF f l r k i) : r.drop i = l.drop i := by
  have := congrArg (fun x => x.drop 1) h.dr
  have hl := h.le
  have hp := h.pos
  simp only [List.drop_drop] at this
  have e : i - 1 + 1 = i := by omega
  rw [e] at this
  exact this
theorem compF_read {l : List α} {i : Nat} (h1 : 1 ≤ i) (hi : i < l.length) : compF f (l.take (i + 1)) = if f l[i] = f l[i - 1] then compF f (l.take i) else compF f (l.take i) ++ [l[i]] := by
  obtain ⟨m, rfl⟩ : ∃ m, i = m + 1 := ⟨i - 1, by omega⟩
  exact compF_take hi
theorem CompInvF.same {l r : List α} {k i : Nat} (h : CompInvF f l r k i) (hi : i < l.length) (e : f l[i] = f l[i - 1]) : CompInvF f l r k (i + 1) := by
  have hp := h.pos
  have hl := h.le
  refine ⟨h.len, hp, by omega, hi, ?_, ?_⟩
  · rw [compF_read (by omega) hi, if_pos e]; exact h.tk
  · exact h.drop
theorem CompInvF.next {l r : List α} {k i : Nat} (h : CompInvF f l r k i) (hi : i < l.length) (e : f l[i] ≠ f l[i - 1]) : CompInvF f l (r.set k l[i]) (k + 1) (i + 1) := by
  have hp := h.pos
  have hl := h.le
  have hn := h.len
  refine ⟨by rw [List.length_set]; exact hn, by omega, by omega, hi, ?_, ?_⟩
  · rw [compF_read (by omega) hi, if_neg e, ← h.tk]
    have hk : k < r.length := by omega
    rw [List.take_succ_eq_append_getElem (by rw [List.length_set]; exact hk), List.getElem_set_self, List.take_set_of_le (Nat.le_refl k)]
  · show (r.set k l[i]).drop i = l.drop i
    rw [List.drop_set_of_lt (by omega)]
    exact h.drop
theorem CompInvF.done {l r : List α} {k : Nat} (h : CompInvF f l r k l.length) : r.take k = compF f l ∧ (compF f l).length = k := by
  have := h.tk
  rw [List.take_length] at this
  refine ⟨this, ?_⟩
  rw [← this, List.length_take]
  have := h.le; have := h.len
  omega
end
end Go.Proofs.YtcgflkfbjnpdiaaGreat
