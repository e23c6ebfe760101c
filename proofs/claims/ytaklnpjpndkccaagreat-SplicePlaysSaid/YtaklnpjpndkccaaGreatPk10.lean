/- The order of constraints; CompareFunc at constraints; Compare, Same.
slices.SortFunc, pdqsortCmpFunc, Clone, bits.Len at this dump, laid by the kit's lay-plain.
slices.Clone at values and at constraints.
slices.SortFunc at values.
slices.SortFunc at constraints.
slices.SortFunc at constraints, walked.
Compaction, element by element: what slices.Compact does in its loop.
clear at the end of a row of the call's own.
What slices.Compact's inner loop keeps; cells of a row of the call's own that may be written; cells of zero. (Of any program.)
Compaction by what a function says of the elements: as slices.CompactFunc does it. No program is in sight.
slices.CompactFunc at constraints, with pred's own closure: what once does.
A constraint's set in memory of the call's own. (Of any seat that holds api.Constraint.) -/
import Derived.Shelf.SlSortCmp.NoneTotal
import Derived.Shelf.SlSortCmp.SmallK
import Derived.Shelf.SlicesE.Clone
import Derived.Shelf.Small.Bits
import Derived.Test.YtaklnpjpndkccaaGreatProg
import Derived.Lib.SliceRun
import Derived.Deep.MidRow
import Derived.Deep.CutBlock
import Derived.Test.YtaklnpjpndkccaaGreatPk9
import Derived.Test.YtaklnpjpndkccaaGreatPk3
import Derived.Test.YtaklnpjpndkccaaGreatPk6
import Derived.Test.YtaklnpjpndkccaaGreatPk1
namespace Go.Proofs.YtaklnpjpndkccaaGreat
open Go.RowKit

theorem ent121 : ∀ args w, (callFunc 130 args).run Tryz.prog w = .ok (.enter 130 args) w := enters_of Tryz.func130 (by kernel_rfl) rfl
theorem ent65 : ∀ args w, (callFunc 88 args).run Tryz.prog w = .ok (.enter 88 args) w := enters_of Tryz.func88 (by kernel_rfl) rfl

set_option maxRecDepth 100000 in
set_option maxHeartbeats 4000000 in
theorem order_any (w : World) (a b : C) (sa : Option Addr) (ca : Nat) (sb : Option Addr) (cb : Nat) (ha : SetR w (.slice sa a.set.length ca) a.set) (hb : SetR w (.slice sb b.set.length cb) b.set) :
    Calls Tryz.prog 88 #[.agg #[.string (strOf a.name), .int .i64 a.op, .int .i64 a.v.k, .int .i64 a.v.n, .string (strOf a.v.s), .bool a.v.b, .slice sa a.set.length ca], .agg #[.string (strOf b.name), .int .i64 b.op, .int .i64 b.v.k, .int .i64 b.v.n, .string (strOf b.v.s), .bool b.v.b, .slice sb b.set.length cb]] w fun e w' => e = .returned (.int .i64 (orderC a b)) ∧ Grew w w' := by
  have hx0 : Grew w ((w.alloc (.cells #[.string (strOf a.name), .int .i64 a.op, .int .i64 a.v.k, .int .i64 a.v.n, .string (strOf a.v.s), .bool a.v.b, .slice sa a.set.length ca] 94)).alloc (.cells #[.string (strOf b.name), .int .i64 b.op, .int .i64 b.v.k, .int .i64 b.v.n, .string (strOf b.v.s), .bool b.v.b, .slice sb b.set.length cb] 94)) := ((Grew.refl w).alloc _).alloc _
  have hA : CBox ((w.alloc (.cells #[.string (strOf a.name), .int .i64 a.op, .int .i64 a.v.k, .int .i64 a.v.n, .string (strOf a.v.s), .bool a.v.b, .slice sa a.set.length ca] 94)).alloc (.cells #[.string (strOf b.name), .int .i64 b.op, .int .i64 b.v.k, .int .i64 b.v.n, .string (strOf b.v.s), .bool b.v.b, .slice sb b.set.length cb] 94)) w.heap.size a sa ca := (CBox.mk (heap_alloc_new _ _) (ha.ext ((Ext.refl w).alloc _))).ext ((Ext.refl _).alloc _)
  have hN : ((w.alloc (.cells #[.string (strOf a.name), .int .i64 a.op, .int .i64 a.v.k, .int .i64 a.v.n, .string (strOf a.v.s), .bool a.v.b, .slice sa a.set.length ca] 94)).alloc (.cells #[.string (strOf b.name), .int .i64 b.op, .int .i64 b.v.k, .int .i64 b.v.n, .string (strOf b.v.s), .bool b.v.b, .slice sb b.set.length cb] 94)).heap[w.heap.size + 1]? = some (.cells #[.string (strOf b.name), .int .i64 b.op, .int .i64 b.v.k, .int .i64 b.v.n, .string (strOf b.v.s), .bool b.v.b, .slice sb b.set.length cb] 94 (0, 0)) := by
    have h := heap_alloc_new (w.alloc (.cells #[.string (strOf a.name), .int .i64 a.op, .int .i64 a.v.k, .int .i64 a.v.n, .string (strOf a.v.s), .bool a.v.b, .slice sa a.set.length ca] 94)) (.cells #[.string (strOf b.name), .int .i64 b.op, .int .i64 b.v.k, .int .i64 b.v.n, .string (strOf b.v.s), .bool b.v.b, .slice sb b.set.length cb] 94)
    rw [World.size_alloc] at h; exact h
  have hB : CBox ((w.alloc (.cells #[.string (strOf a.name), .int .i64 a.op, .int .i64 a.v.k, .int .i64 a.v.n, .string (strOf a.v.s), .bool a.v.b, .slice sa a.set.length ca] 94)).alloc (.cells #[.string (strOf b.name), .int .i64 b.op, .int .i64 b.v.k, .int .i64 b.v.n, .string (strOf b.v.s), .bool b.v.b, .slice sb b.set.length cb] 94)) (w.heap.size + 1) b sb cb := ⟨hN, hb.ext hx0.1⟩
  obtain ⟨a0, a1, a2, a3, a4, a5, a6⟩ := hA.cell
  obtain ⟨b0, b1, b2, b3, b4, b5, b6⟩ := hB.cell
  have has := hA.s
  have hbs := hB.s
  have hres : orderC a b = orL [Lib.compareBytes a.name b.name, Lib.compareInt a.op b.op, wholeV a.v b.v, cmpL wholeV a.set b.set] := by rw [orL4]; rfl
  have hcB : ∀ W, Ext ((w.alloc (.cells #[.string (strOf a.name), .int .i64 a.op, .int .i64 a.v.k, .int .i64 a.v.n, .string (strOf a.v.s), .bool a.v.b, .slice sa a.set.length ca] 94)).alloc (.cells #[.string (strOf b.name), .int .i64 b.op, .int .i64 b.v.k, .int .i64 b.v.n, .string (strOf b.v.s), .bool b.v.b, .slice sb b.set.length cb] 94)) W → Calls Tryz.prog 131 #[.slice sa a.set.length ca, .slice sb b.set.length cb, .func (.func 130) #[] #[]] W fun e w' => e = .returned (.int .i64 (cmpL wholeV a.set b.set)) ∧ Grew W w' :=
    fun W hW => cmpf122_any W _ _ a.set b.set (has.ext hW) (hbs.ext hW) 130 #[] wholeV ent121 (fun W x y => whole_any W x y)
  rw [hres]
  clear hA hN hB hres ha hb has hbs
  generalize cmpL wholeV a.set b.set = r4 at *
  go_enter Tryz.func88, Tryz.ntmps88
  go_upto_region 1 with fail
  generalize (w.alloc (.cells #[.string (strOf a.name), .int .i64 a.op, .int .i64 a.v.k, .int .i64 a.v.n, .string (strOf a.v.s), .bool a.v.b, .slice sa a.set.length ca] 94)).alloc (.cells #[.string (strOf b.name), .int .i64 b.op, .int .i64 b.v.k, .int .i64 b.v.n, .string (strOf b.v.s), .bool b.v.b, .slice sb b.set.length cb] 94) = wa at *
  generalize a.set.length = na at *
  generalize b.set.length = nb at *
  refine Rg.wp_region_facts GrewS [Rg.Fact.eq _ (.pointer (some ⟨w.heap.size, 0, none⟩)),
      Rg.Fact.eq _ (.string (strOf a.name)),
      Rg.Fact.eq _ (.pointer (some ⟨w.heap.size + 1, 0, none⟩)),
      Rg.Fact.eq _ (.string (strOf b.name)),
      Rg.Fact.eq _ (.int .i64 (Lib.compareBytes a.name b.name)),
      Rg.Fact.eq _ (.pointer (some ⟨w.heap.size, 1, none⟩)),
      Rg.Fact.eq _ (.int .i64 a.op),
      Rg.Fact.eq _ (.pointer (some ⟨w.heap.size + 1, 1, none⟩)),
      Rg.Fact.eq _ (.int .i64 b.op),
      Rg.Fact.eq _ (.int .i64 (Lib.compareInt a.op b.op)),
      Rg.Fact.eq _ (.pointer (some ⟨w.heap.size, 2, none⟩)),
      Rg.Fact.eq _ (.agg #[.int .i64 a.v.k, .int .i64 a.v.n, .string (strOf a.v.s), .bool a.v.b]),
      Rg.Fact.eq _ (.pointer (some ⟨w.heap.size + 1, 2, none⟩)),
      Rg.Fact.eq _ (.agg #[.int .i64 b.v.k, .int .i64 b.v.n, .string (strOf b.v.s), .bool b.v.b]),
      Rg.Fact.eq _ (.int .i64 (wholeV a.v b.v)),
      Rg.Fact.eq _ (.pointer (some ⟨w.heap.size, 6, none⟩)),
      Rg.Fact.eq _ (.slice sa na ca),
      Rg.Fact.eq _ (.pointer (some ⟨w.heap.size + 1, 6, none⟩)),
      Rg.Fact.eq _ (.slice sb nb cb),
      Rg.Fact.eq _ (.int .i64 r4),
      Rg.Fact.ints [Lib.compareBytes a.name b.name, Lib.compareInt a.op b.op, wholeV a.v b.v, r4],
      Rg.Fact.eq _ (.int .i64 (orL [Lib.compareBytes a.name b.name, Lib.compareInt a.op b.op, wholeV a.v b.v, r4])),
      Rg.Fact.eq _ (.int .i64 (orL [Lib.compareBytes a.name b.name, Lib.compareInt a.op b.op, wholeV a.v b.v, r4]))]
    [[], [(0, 5)], [], [(2, 7)], [(1, 6), (3, 8)], [], [(5, 10)], [], [(7, 12)], [(6, 11), (8, 13)], [], [(10, 15)], [], [(12, 17)], [(11, 16), (13, 18)], [], [(15, 20)], [], [(17, 22)], [(16, 21), (18, 23)], [(4, 9), (9, 14), (14, 19), (19, 24)], [(20, 25)], [(21, 26)]]
    [(0, 5), (1, 6), (2, 7), (3, 8), (4, 9), (5, 10), (6, 11), (7, 12), (8, 13), (9, 14), (10, 15), (11, 16), (12, 17), (13, 18), (14, 19), (15, 20), (16, 21), (17, 22), (18, 23), (19, 24), (20, 25), (21, 26), (22, 4)] (by kernel_rfl) (by kernel_rfl) ?_ ?_
  · refine ⟨?_, ?_, ?_, ?_, ?_, ?_, ?_, ?_, ?_, ?_, ?_, ?_, ?_, ?_, ?_, ?_, ?_, ?_, ?_, ?_, ?_, ?_, ?_, trivial⟩
    · intro w1 hx1; change wpList _ _ _ _ _ _; go_wp2_with fail; exact ⟨rfl, GrewS.refl _, rfl, rfl⟩
    · intro w1 hx1; rintro _ rfl; change wpList _ _ _ _ _ _; have m := hx1.1.cell a0; go_wp2_with fail; exact ⟨rfl, GrewS.refl _, rfl, rfl⟩
    · intro w1 hx1; change wpList _ _ _ _ _ _; go_wp2_with fail; exact ⟨rfl, GrewS.refl _, rfl, rfl⟩
    · intro w1 hx1; rintro _ rfl; change wpList _ _ _ _ _ _; have m := hx1.1.cell b0; go_wp2_with fail; exact ⟨rfl, GrewS.refl _, rfl, rfl⟩
    · intro w1 hx1; rintro _ rfl; rintro _ rfl; change wpList _ _ _ _ _ _; go_wp2_with fail; refine (cmpstr_any _ _ _).mono ?_; rintro e w2 ⟨rfl, rfl⟩; go_wp2_with fail; exact ⟨rfl, GrewS.refl _, rfl, rfl⟩
    · intro w1 hx1; change wpList _ _ _ _ _ _; go_wp2_with fail; exact ⟨rfl, GrewS.refl _, rfl, rfl⟩
    · intro w1 hx1; rintro _ rfl; change wpList _ _ _ _ _ _; have m := hx1.1.cell a1; go_wp2_with fail; exact ⟨rfl, GrewS.refl _, rfl, rfl⟩
    · intro w1 hx1; change wpList _ _ _ _ _ _; go_wp2_with fail; exact ⟨rfl, GrewS.refl _, rfl, rfl⟩
    · intro w1 hx1; rintro _ rfl; change wpList _ _ _ _ _ _; have m := hx1.1.cell b1; go_wp2_with fail; exact ⟨rfl, GrewS.refl _, rfl, rfl⟩
    · intro w1 hx1; rintro _ rfl; rintro _ rfl; change wpList _ _ _ _ _ _; go_wp2_with fail; refine (cmpint_any _ _ _).mono ?_; rintro e w2 ⟨rfl, rfl⟩; go_wp2_with fail; exact ⟨rfl, GrewS.refl _, rfl, rfl⟩
    · intro w1 hx1; change wpList _ _ _ _ _ _; go_wp2_with fail; exact ⟨rfl, GrewS.refl _, rfl, rfl⟩
    · intro w1 hx1; rintro _ rfl; change wpList _ _ _ _ _ _; have m0 := hx1.1.cell a2; have m1 := hx1.1.cell a3; have m2 := hx1.1.cell a4; have m3 := hx1.1.cell a5; go_wp2_with fail; exact ⟨rfl, GrewS.refl _, rfl, rfl⟩
    · intro w1 hx1; change wpList _ _ _ _ _ _; go_wp2_with fail; exact ⟨rfl, GrewS.refl _, rfl, rfl⟩
    · intro w1 hx1; rintro _ rfl; change wpList _ _ _ _ _ _; have m0 := hx1.1.cell b2; have m1 := hx1.1.cell b3; have m2 := hx1.1.cell b4; have m3 := hx1.1.cell b5; go_wp2_with fail; exact ⟨rfl, GrewS.refl _, rfl, rfl⟩
    · intro w1 hx1; rintro _ rfl; rintro _ rfl; change wpList _ _ _ _ _ _; go_wp2_with fail; refine (whole_any _ a.v b.v).mono ?_; rintro e w2 ⟨rfl, hx2⟩; go_wp2_with fail; exact ⟨rfl, hx2, rfl, rfl⟩
    · intro w1 hx1; change wpList _ _ _ _ _ _; go_wp2_with fail; exact ⟨rfl, GrewS.refl _, rfl, rfl⟩
    · intro w1 hx1; rintro _ rfl; change wpList _ _ _ _ _ _; have m := hx1.1.cell a6; go_wp2_with fail; exact ⟨rfl, GrewS.refl _, rfl, rfl⟩
    · intro w1 hx1; change wpList _ _ _ _ _ _; go_wp2_with fail; exact ⟨rfl, GrewS.refl _, rfl, rfl⟩
    · intro w1 hx1; rintro _ rfl; change wpList _ _ _ _ _ _; have m := hx1.1.cell b6; go_wp2_with fail; exact ⟨rfl, GrewS.refl _, rfl, rfl⟩
    · intro w1 hx1; rintro _ rfl; rintro _ rfl; change wpList _ _ _ _ _ _; go_wp2_with fail; refine (hcB _ hx1.1).mono ?_; rintro e w2 ⟨rfl, hx2⟩; go_wp2_with fail; exact ⟨rfl, hx2, rfl, rfl⟩
    · intro w1 hx1; rintro _ rfl; rintro _ rfl; rintro _ rfl; rintro _ rfl; change wpList _ _ _ _ _ _; have hr := row_four w1 (Lib.compareBytes a.name b.name) (Lib.compareInt a.op b.op) (wholeV a.v b.v) r4; go_wp2_with fail; exact ⟨rfl, (Grew.refl w1).alloc _, rfl, hr⟩
    · intro w1 hx1; intro v25 h25; change wpList _ _ _ _ _ _; go_wp2_with fail; refine (or_any _ _ _ h25).mono ?_; rintro e w2 ⟨rfl, rfl⟩; go_wp2_with fail; exact ⟨rfl, GrewS.refl _, rfl, rfl⟩
    · intro w1 hx1; rintro _ rfl; change wpList _ _ _ _ _ _; exact Rg.ob_assign _ rfl rfl rfl rfl rfl
  · intro w1 hx1; rintro _ rfl; rintro _ rfl; rintro _ rfl; rintro _ rfl; rintro _ rfl; rintro _ rfl; rintro _ rfl; rintro _ rfl; rintro _ rfl; rintro _ rfl; rintro _ rfl; rintro _ rfl; rintro _ rfl; rintro _ rfl; rintro _ rfl; rintro _ rfl; rintro _ rfl; rintro _ rfl; rintro _ rfl; rintro _ rfl; intro v25 h25; rintro _ rfl; rintro _ rfl; refine depsThen_nil ?_; dsimp only; simp only [Act.put, List.setIfInBounds_toArray, List.set_cons_zero, List.set_cons_succ]
    replace h25 : (Rg.Fact.ints [Lib.compareBytes a.name b.name, Lib.compareInt a.op b.op, wholeV a.v b.v, r4]).p v25 w1 := h25
    go_wp2_with fail
    go_ret
    exact ⟨rfl, hx0.trans hx1⟩

end Go.Proofs.YtaklnpjpndkccaaGreat

namespace Go.Proofs
open Go.Shelf
def Tryz.sortV_ren : Go.Shelf.Ren := ⟨fun | 6 => 60 | 15 => 80 | 14 => 79 | 28 => 123 | 29 => 124 | 20 => 115 | 21 => 116 | 22 => 117 | 23 => 118 | 24 => 119 | 25 => 120 | 26 => 121 | 27 => 122 | 46 => 141 | 47 => 142 | 48 => 143 | 49 => 144 | 50 => 145 | 57 => 157 | n => n, fun | 22 => 92 | 24 => 80 | 25 => 119 | 3 => 3 | 39 => 60 | 0 => 0 | 53 => 160 | 55 => 24 | 4 => 4 | 46 => 153 | 45 => 152 | 50 => 157 | 5 => 5 | 9 => 9 | 66 => 169 | 70 => 172 | 76 => 180 | 77 => 181 | n => n, fun | n => n⟩
theorem Tryz.sortV : Go.Proofs.SlLaysF0.n6 Tryz.prog Tryz.sortV_ren := {
  mixed := by kernel_rfl
  f6 := ⟨Tryz.f60.name, by decide, Tryz.func60.trans (congrArg some (by kernel_rfl))⟩
  f14 := ⟨Tryz.f79.name, by decide, Tryz.func79.trans (congrArg some (by kernel_rfl))⟩
  f15 := Tryz.func80.trans (congrArg some (by kernel_rfl))
  f20 := ⟨Tryz.f115.name, by decide, Tryz.func115.trans (congrArg some (by kernel_rfl))⟩
  f21 := ⟨Tryz.f116.name, by decide, Tryz.func116.trans (congrArg some (by kernel_rfl))⟩
  f22 := ⟨Tryz.f117.name, by decide, Tryz.func117.trans (congrArg some (by kernel_rfl))⟩
  f23 := ⟨Tryz.f118.name, by decide, Tryz.func118.trans (congrArg some (by kernel_rfl))⟩
  f24 := ⟨Tryz.f119.name, by decide, Tryz.func119.trans (congrArg some (by kernel_rfl))⟩
  f25 := ⟨Tryz.f120.name, by decide, Tryz.func120.trans (congrArg some (by kernel_rfl))⟩
  f26 := ⟨Tryz.f121.name, by decide, Tryz.func121.trans (congrArg some (by kernel_rfl))⟩
  f27 := ⟨Tryz.f122.name, by decide, Tryz.func122.trans (congrArg some (by kernel_rfl))⟩
  f28 := Tryz.func123.trans (congrArg some (by kernel_rfl))
  f29 := Tryz.func124.trans (congrArg some (by kernel_rfl))
  f46 := ⟨Tryz.f141.name, by decide, Tryz.func141.trans (congrArg some (by kernel_rfl))⟩
  f47 := Tryz.func142.trans (congrArg some (by kernel_rfl))
  f48 := Tryz.func143.trans (congrArg some (by kernel_rfl))
  f49 := ⟨Tryz.f144.name, by decide, Tryz.func144.trans (congrArg some (by kernel_rfl))⟩
  f50 := ⟨Tryz.f145.name, by decide, Tryz.func145.trans (congrArg some (by kernel_rfl))⟩
  f57 := ⟨Tryz.f157.name, by decide, Tryz.func157.trans (congrArg some (by kernel_rfl))⟩
  t0 := Tryz.underlying0
  a0 := Tryz.isAgg0
  z0 := Tryz.sizeOf0
  v0 := Tryz.zeroValue0
  t3 := Tryz.underlying3
  a3 := Tryz.isAgg3
  z3 := Tryz.sizeOf3
  v3 := Tryz.zeroValue3
  t4 := Tryz.underlying4
  a4 := Tryz.isAgg4
  z4 := Tryz.sizeOf4
  v4 := Tryz.zeroValue4
  t5 := Tryz.underlying5
  a5 := Tryz.isAgg5
  z5 := Tryz.sizeOf5
  v5 := Tryz.zeroValue5
  t9 := Tryz.underlying9
  a9 := Tryz.isAgg9
  z9 := Tryz.sizeOf9
  v9 := Tryz.zeroValue9
  t22 := Tryz.underlying92
  a22 := Tryz.isAgg92
  z22 := Tryz.sizeOf92
  v22 := Tryz.zeroValue92
  t25 := Tryz.underlying119
  a25 := Tryz.isAgg119
  z25 := Tryz.sizeOf119
  v25 := Tryz.zeroValue119
  t39 := Tryz.underlying60
  a39 := Tryz.isAgg60
  z39 := Tryz.sizeOf60
  v39 := Tryz.zeroValue60
  t45 := Tryz.underlying152
  a45 := Tryz.isAgg152
  z45 := Tryz.sizeOf152
  v45 := Tryz.zeroValue152
  t46 := Tryz.underlying153
  a46 := Tryz.isAgg153
  z46 := Tryz.sizeOf153
  v46 := Tryz.zeroValue153
  t50 := Tryz.underlying157
  a50 := Tryz.isAgg157
  z50 := Tryz.sizeOf157
  v50 := Tryz.zeroValue157
  t53 := Tryz.underlying160
  a53 := Tryz.isAgg160
  z53 := Tryz.sizeOf160
  v53 := Tryz.zeroValue160
  t55 := Tryz.underlying24
  a55 := Tryz.isAgg24
  z55 := Tryz.sizeOf24
  v55 := Tryz.zeroValue24
  t66 := Tryz.underlying169
  a66 := Tryz.isAgg169
  z66 := Tryz.sizeOf169
  v66 := Tryz.zeroValue169
  t70 := Tryz.underlying172
  a70 := Tryz.isAgg172
  z70 := Tryz.sizeOf172
  v70 := Tryz.zeroValue172
  t76 := Tryz.underlying180
  a76 := Tryz.isAgg180
  z76 := Tryz.sizeOf180
  v76 := Tryz.zeroValue180
  t77 := Tryz.underlying181
  a77 := Tryz.isAgg181
  z77 := Tryz.sizeOf181
  v77 := Tryz.zeroValue181 }
def Tryz.sortC_ren : Go.Shelf.Ren := ⟨fun | 14 => 128 | 20 => 147 | 21 => 148 | 22 => 149 | 23 => 150 | 24 => 151 | 25 => 152 | 26 => 153 | 27 => 154 | 46 => 158 | 47 => 142 | 48 => 143 | 49 => 159 | 50 => 160 | 15 => 80 | 57 => 161 | 28 => 123 | 29 => 124 | n => n, fun | 24 => 94 | 22 => 22 | 3 => 3 | 25 => 129 | 4 => 4 | 0 => 0 | 46 => 153 | 45 => 152 | 50 => 157 | 66 => 169 | 39 => 60 | 55 => 24 | 70 => 172 | 76 => 180 | 77 => 181 | 53 => 160 | 5 => 5 | 9 => 9 | n => n, fun | n => n⟩
theorem Tryz.sortC : Go.Proofs.SlLaysF0.n14 Tryz.prog Tryz.sortC_ren := {
  mixed := by kernel_rfl
  f14 := ⟨Tryz.f128.name, by decide, Tryz.func128.trans (congrArg some (by kernel_rfl))⟩
  f15 := Tryz.func80.trans (congrArg some (by kernel_rfl))
  f20 := ⟨Tryz.f147.name, by decide, Tryz.func147.trans (congrArg some (by kernel_rfl))⟩
  f21 := ⟨Tryz.f148.name, by decide, Tryz.func148.trans (congrArg some (by kernel_rfl))⟩
  f22 := ⟨Tryz.f149.name, by decide, Tryz.func149.trans (congrArg some (by kernel_rfl))⟩
  f23 := ⟨Tryz.f150.name, by decide, Tryz.func150.trans (congrArg some (by kernel_rfl))⟩
  f24 := ⟨Tryz.f151.name, by decide, Tryz.func151.trans (congrArg some (by kernel_rfl))⟩
  f25 := ⟨Tryz.f152.name, by decide, Tryz.func152.trans (congrArg some (by kernel_rfl))⟩
  f26 := ⟨Tryz.f153.name, by decide, Tryz.func153.trans (congrArg some (by kernel_rfl))⟩
  f27 := ⟨Tryz.f154.name, by decide, Tryz.func154.trans (congrArg some (by kernel_rfl))⟩
  f28 := Tryz.func123.trans (congrArg some (by kernel_rfl))
  f29 := Tryz.func124.trans (congrArg some (by kernel_rfl))
  f46 := ⟨Tryz.f158.name, by decide, Tryz.func158.trans (congrArg some (by kernel_rfl))⟩
  f47 := Tryz.func142.trans (congrArg some (by kernel_rfl))
  f48 := Tryz.func143.trans (congrArg some (by kernel_rfl))
  f49 := ⟨Tryz.f159.name, by decide, Tryz.func159.trans (congrArg some (by kernel_rfl))⟩
  f50 := ⟨Tryz.f160.name, by decide, Tryz.func160.trans (congrArg some (by kernel_rfl))⟩
  f57 := ⟨Tryz.f161.name, by decide, Tryz.func161.trans (congrArg some (by kernel_rfl))⟩
  t0 := Tryz.underlying0
  a0 := Tryz.isAgg0
  z0 := Tryz.sizeOf0
  v0 := Tryz.zeroValue0
  t3 := Tryz.underlying3
  a3 := Tryz.isAgg3
  z3 := Tryz.sizeOf3
  v3 := Tryz.zeroValue3
  t4 := Tryz.underlying4
  a4 := Tryz.isAgg4
  z4 := Tryz.sizeOf4
  v4 := Tryz.zeroValue4
  t5 := Tryz.underlying5
  a5 := Tryz.isAgg5
  z5 := Tryz.sizeOf5
  v5 := Tryz.zeroValue5
  t9 := Tryz.underlying9
  a9 := Tryz.isAgg9
  z9 := Tryz.sizeOf9
  v9 := Tryz.zeroValue9
  t22 := Tryz.underlying22
  a22 := Tryz.isAgg22
  z22 := Tryz.sizeOf22
  v22 := Tryz.zeroValue22
  t25 := Tryz.underlying129
  a25 := Tryz.isAgg129
  z25 := Tryz.sizeOf129
  v25 := Tryz.zeroValue129
  t39 := Tryz.underlying60
  a39 := Tryz.isAgg60
  z39 := Tryz.sizeOf60
  v39 := Tryz.zeroValue60
  t45 := Tryz.underlying152
  a45 := Tryz.isAgg152
  z45 := Tryz.sizeOf152
  v45 := Tryz.zeroValue152
  t46 := Tryz.underlying153
  a46 := Tryz.isAgg153
  z46 := Tryz.sizeOf153
  v46 := Tryz.zeroValue153
  t50 := Tryz.underlying157
  a50 := Tryz.isAgg157
  z50 := Tryz.sizeOf157
  v50 := Tryz.zeroValue157
  t53 := Tryz.underlying160
  a53 := Tryz.isAgg160
  z53 := Tryz.sizeOf160
  v53 := Tryz.zeroValue160
  t55 := Tryz.underlying24
  a55 := Tryz.isAgg24
  z55 := Tryz.sizeOf24
  v55 := Tryz.zeroValue24
  t66 := Tryz.underlying169
  a66 := Tryz.isAgg169
  z66 := Tryz.sizeOf169
  v66 := Tryz.zeroValue169
  t70 := Tryz.underlying172
  a70 := Tryz.isAgg172
  z70 := Tryz.sizeOf172
  v70 := Tryz.zeroValue172
  t76 := Tryz.underlying180
  a76 := Tryz.isAgg180
  z76 := Tryz.sizeOf180
  v76 := Tryz.zeroValue180
  t77 := Tryz.underlying181
  a77 := Tryz.isAgg181
  z77 := Tryz.sizeOf181
  v77 := Tryz.zeroValue181 }
def Tryz.cloneV_ren : Go.Shelf.Ren := ⟨fun | 41 => 59 | n => n, fun | 22 => 92 | 23 => 80 | 4 => 4 | n => n, fun | n => n⟩
theorem Tryz.cloneV : Go.Proofs.SlLaysE0.n41 Tryz.prog Tryz.cloneV_ren := {
  mixed := by kernel_rfl
  f41 := ⟨Tryz.f59.name, by decide, Tryz.func59.trans (congrArg some (by kernel_rfl))⟩
  t4 := Tryz.underlying4
  a4 := Tryz.isAgg4
  z4 := Tryz.sizeOf4
  v4 := Tryz.zeroValue4
  t22 := Tryz.underlying92
  a22 := Tryz.isAgg92
  z22 := Tryz.sizeOf92
  v22 := Tryz.zeroValue92 }
def Tryz.cloneC_ren : Go.Shelf.Ren := ⟨fun | 41 => 86 | n => n, fun | 22 => 116 | 23 => 94 | 4 => 4 | n => n, fun | n => n⟩
theorem Tryz.cloneC : Go.Proofs.SlLaysE0.n41 Tryz.prog Tryz.cloneC_ren := {
  mixed := by kernel_rfl
  f41 := ⟨Tryz.f86.name, by decide, Tryz.func86.trans (congrArg some (by kernel_rfl))⟩
  t4 := Tryz.underlying4
  a4 := Tryz.isAgg4
  z4 := Tryz.sizeOf4
  v4 := Tryz.zeroValue4
  t22 := Tryz.underlying116
  a22 := Tryz.isAgg116
  z22 := Tryz.sizeOf116
  v22 := Tryz.zeroValue116 }
def Tryz.bitsLen_ren : Go.Shelf.Ren := ⟨fun | 125 => 80 | 128 => 123 | 129 => 124 | n => n, fun | 46 => 60 | 3 => 3 | 51 => 160 | 53 => 24 | 4 => 4 | 5 => 5 | 9 => 9 | n => n, fun | n => n⟩
theorem Tryz.bitsLen : Go.Proofs.Lays.n125 Tryz.prog Tryz.bitsLen_ren := {
  mixed := by kernel_rfl
  f125 := Tryz.func80.trans (congrArg some (by kernel_rfl))
  f128 := Tryz.func123.trans (congrArg some (by kernel_rfl))
  f129 := Tryz.func124.trans (congrArg some (by kernel_rfl))
  t3 := Tryz.underlying3
  a3 := Tryz.isAgg3
  z3 := Tryz.sizeOf3
  v3 := Tryz.zeroValue3
  t4 := Tryz.underlying4
  a4 := Tryz.isAgg4
  z4 := Tryz.sizeOf4
  v4 := Tryz.zeroValue4
  t5 := Tryz.underlying5
  a5 := Tryz.isAgg5
  z5 := Tryz.sizeOf5
  v5 := Tryz.zeroValue5
  t9 := Tryz.underlying9
  a9 := Tryz.isAgg9
  z9 := Tryz.sizeOf9
  v9 := Tryz.zeroValue9
  t46 := Tryz.underlying60
  a46 := Tryz.isAgg60
  z46 := Tryz.sizeOf60
  v46 := Tryz.zeroValue60
  t51 := Tryz.underlying160
  a51 := Tryz.isAgg160
  z51 := Tryz.sizeOf160
  v51 := Tryz.zeroValue160
  t53 := Tryz.underlying24
  a53 := Tryz.isAgg24
  z53 := Tryz.sizeOf24
  v53 := Tryz.zeroValue24 }
end Go.Proofs

namespace Go.Proofs.YtaklnpjpndkccaaGreat
open Go.RowKit

set_option maxRecDepth 100000 in
set_option maxHeartbeats 2000000 in
theorem cloneV_any (w : World) (v : Value) (l : List V) (h : SetR w v l) (hl : l.length ≤ 1000000) :
    Calls Tryz.prog 59 #[v] w fun e w' => ∃ v', e = .returned v' ∧ w'.ownsRow w.heap.size 80 4 v' l.length (l.flatMap vC) ∧ Ext w w' := by
  obtain ⟨a, cap, rfl, hc, hm⟩ := Row.shape h
  have hq : ∀ (w : World) (a : Option Addr) (n c n' c' : Nat), (binOp .eql 92 (.slice a n c) (.slice none n' c')).run Tryz.prog w = .ok (.bool a.isNone) w := fun w a n c n' c' => Lib.run_eql_slice_nil w _ _ a n c n' c' Tryz.underlying92
  cases a with
  | none =>
    have hz : l = [] := by
      obtain ⟨_, a', cap', e1, _, _, hnil, _⟩ := h
      simp only [Value.slice.injEq] at e1
      have := hnil e1.1.symm
      exact List.length_eq_zero_iff.1 (by omega)
    subst hz
    go_enter Tryz.func59, Tryz.ntmps59
    go_wp2
    go_ret
    exact ⟨_, rfl, ⟨rfl, .inl ⟨rfl, rfl⟩⟩, Ext.refl w⟩
  | some p =>
    have hr := h.ext ((Ext.refl w).alloc (.cells #[] 80))
    have hone := vC_one l
    unfold maxLen at hm
    go_enter Tryz.func59, Tryz.ntmps59
    go_wp2_with (at_builtin; refine wpList_append_row 92 80 (.tmp 5) (.tmp 6) rfl w.heap.size _ 4 40 Tryz.underlying92 info28t rfl (by decide) rfl _ 0 [] rfl (World.ownsRow_made w #[] 0 (Nat.le_refl _) (Nat.zero_le _) (by simp)) l.length (l.flatMap vC) hr hone (by omega) (by unfold maxLen; omega) (by simp) ?_; intro v' w1 hown hgrow)
    go_ret
    refine ⟨v', rfl, by simpa using hown, Ext.grown_none ((Ext.refl w).alloc _) hgrow (by intro k hk; cases hk; exact Nat.le_refl _)⟩
set_option maxRecDepth 100000 in
set_option maxHeartbeats 2000000 in
theorem cloneC_any (w : World) (v : Value) (l : List CS) (h : Row w 7 v l.length (l.flatMap csC)) (hsl : ∀ x ∈ l, x.h.oneCell' = true) (hl : l.length ≤ 1000000) :
    Calls Tryz.prog 86 #[v] w fun e w' => ∃ v', e = .returned v' ∧ w'.ownsRow w.heap.size 94 7 v' l.length (l.flatMap csC) ∧ Ext w w' ∧ (v = .slice none 0 0 → v' = .slice none 0 0) := by
  obtain ⟨a, cap, rfl, hc, hm⟩ := Row.shape h
  have hq : ∀ (w : World) (a : Option Addr) (n c n' c' : Nat), (binOp .eql 116 (.slice a n c) (.slice none n' c')).run Tryz.prog w = .ok (.bool a.isNone) w := fun w a n c n' c' => Lib.run_eql_slice_nil w _ _ a n c n' c' Tryz.underlying116
  cases a with
  | none =>
    have hz : l = [] := by
      obtain ⟨_, a', cap', e1, _, _, hnil, _⟩ := h
      simp only [Value.slice.injEq] at e1
      have := hnil e1.1.symm
      exact List.length_eq_zero_iff.1 (by omega)
    subst hz
    go_enter Tryz.func86, Tryz.ntmps86
    go_wp2
    go_ret
    exact ⟨_, rfl, ⟨rfl, .inl ⟨rfl, rfl⟩⟩, Ext.refl w, fun _ => rfl⟩
  | some p =>
    have hr := h.ext ((Ext.refl w).alloc (.cells #[] 94))
    have hone := csC_one l hsl
    unfold maxLen at hm
    go_enter Tryz.func86, Tryz.ntmps86
    go_wp2_with (at_builtin; refine wpList_append_row 116 94 (.tmp 5) (.tmp 6) rfl w.heap.size _ 7 88 Tryz.underlying116 info31t rfl (by decide) rfl _ 0 [] rfl (World.ownsRow_made w #[] 0 (Nat.le_refl _) (Nat.zero_le _) (by simp)) l.length (l.flatMap csC) hr hone (by omega) (by unfold maxLen; omega) (by simp) ?_; intro v' w1 hown hgrow)
    go_ret
    refine ⟨v', rfl, by simpa using hown, Ext.grown_none ((Ext.refl w).alloc _) hgrow (by intro k hk; cases hk; exact Nat.le_refl _), fun h => by cases h⟩
end Go.Proofs.YtaklnpjpndkccaaGreat

namespace Go.Proofs.YtaklnpjpndkccaaGreat
open Go.RowKit Go.Sort

instance : Inhabited V := ⟨⟨0, 0, [], false⟩⟩
theorem wo_swo {α : Type} {cf : α → α → Int} (h : WO cf) : SWO (ltOf cf) := by
  have hr : ∀ x, cf x x = 0 := h.refl
  refine ⟨fun x => ?_, fun x y z h1 h2 => ?_, fun x y z h1 h2 => ?_⟩
  · unfold ltOf; rw [hr]; rfl
  · unfold ltOf at *
    have a1 := of_decide_eq_true h1
    have a2 := of_decide_eq_true h2
    refine decide_eq_true ?_
    have b1 := h.trans x y z (by omega) (by omega)
    rcases Int.lt_or_eq_of_le b1 with b | b
    · exact b
    · have c1 := h.anti x z
      have c2 := h.trans z x y (by omega) (by omega)
      have c3 := h.anti y z
      omega
  · unfold ltOf at *
    have a1 := of_decide_eq_false h1
    have a2 := of_decide_eq_false h2
    refine decide_eq_false ?_
    have e1 := h.anti x y
    have e2 := h.anti y z
    have e3 := h.anti x z
    have b1 := h.trans z y x (by omega) (by omega)
    omega

theorem ent23 : ∀ args w, (callFunc 61 args).run Tryz.prog w = .ok (.enter 61 args) w := enters_of Tryz.func61 (by kernel_rfl) rfl

theorem sortV_any (w : World) (base : Nat) (v : Value) (l : List V) (ho : w.ownsRow base 80 4 v l.length (l.flatMap vC)) (hl : l.length ≤ 1000000) :
    Calls Tryz.prog 60 #[v, .func (.func 61) #[] #[]] w fun e w' => e = .returned (.tuple #[]) ∧ ∃ l' : List V, l'.Perm l ∧ (l'.Pairwise fun a b => cmpV a b ≤ 0) ∧ w'.ownsRow base 80 4 v l.length (l'.flatMap vC) ∧ w.grownBy w' v.ownBlock := by
  have ho' := ho
  rcases ho.2 with ⟨rfl, h0⟩ | ⟨g, cap, cur, rfl, hb, hg, hn, hm, hs, ht⟩
  · have hz : l = [] := List.length_eq_zero_iff.1 h0
    subst hz
    refine (AnyF.slices_SortFunc_none { Tryz.sortV with } none 0 (.func (.func 61) #[] #[]) w).mono ?_
    rintro e w' ⟨rfl, rfl⟩
    exact ⟨rfl, [], List.Perm.refl _, List.Pairwise.nil, ho, ⟨rfl, rfl, rfl, Nat.le_refl _, fun _ _ _ => rfl⟩⟩
  · have hlt : g < w.heap.size := (Array.getElem?_eq_some_iff.1 hg).1
    have hH := own_holdsK vC (by decide) vC_len ho
    have hone : ∀ x, ∀ u ∈ vC x, u.oneCell' = true := fun x u hu => vC_one [x] u (by simpa using hu)
    have hc := AnyQ.slices_SortFunc Tryz.sortV 4 (fun w => Tryz.isAgg80 w) (fun w => Tryz.sizeOf80 w) vC vC_len hone cmpV (wo_swo wo_V) 61 #[] g 0 cap l.toArray w ent23
      (fun m os dk _ x y => (cmpV_any _ x y).mono fun _ _ ⟨he, hx⟩ => ⟨he, hx.grown⟩) hH hlt (by simp; omega)
    have e1 : l.toArray.size = l.length := by simp
    rw [e1] at hc
    refine hc.mono ?_
    rintro e w' ⟨rfl, d', n, os, hp, hs', rfl⟩
    obtain ⟨p1, p2⟩ := sorted_list (by rw [e1]; exact hp) (by rw [e1]; exact hs') (wo_V.anti)
    have hll : d'.toList.length = l.length := p1.length_eq
    have hfin := own_sorted (m := n) (os := os) vC (by decide) vC_len ho hll
    exact ⟨rfl, d'.toList, p1, p2, hfin.1, hfin.2⟩
end Go.Proofs.YtaklnpjpndkccaaGreat

namespace Go.Proofs.YtaklnpjpndkccaaGreat
open Go.RowKit Go.Sort

theorem Row.keep {w w' : World} {size n : Nat} {v : Value} {xs : List Value} {row : Option Nat} (h : Row w size v n xs) (hg : w.grownBy w' row) (hne : v.ownBlock ≠ row ∨ row = none) : Row w' size v n xs := by
  obtain ⟨h1, a, cap, rfl, h3, h4, h5, h6, h7⟩ := h
  refine ⟨h1, a, cap, rfl, h3, h4, h5, h6, fun j u hj => ?_⟩
  obtain ⟨p, rfl, hc⟩ := h7 j u hj
  refine ⟨p, rfl, ?_⟩
  have hlt : p.block < w.heap.size := by
    rcases Nat.lt_or_ge p.block w.heap.size with h | h
    · exact h
    · have : w.cell? ⟨p.block, p.off + j, none⟩ = none := by simp [World.cell?, Array.getElem?_eq_none h]
      rw [this] at hc; cases hc
  rw [World.cell?_of_block (a := ⟨p.block, p.off + j, none⟩) (hg.block p.block hlt ?_)]
  · exact hc
  · rcases hne with hne | hne
    · exact hne
    · rw [hne]; simp

/-- A constraint with its set, where it may be sorted: its set lies, and not in the row's own block. -/
def SC (w : World) (g : Nat) : Type := { x : CS // SetR w x.h x.c.set ∧ x.h.ownBlock ≠ some g }
def scC {w : World} {g : Nat} (x : SC w g) : List Value := csC x.1
def scO {w : World} {g : Nat} (x y : SC w g) : Int := orderC x.1.c y.1.c
theorem set_one {w : World} {h : Value} {l : List V} (k : SetR w h l) : h.oneCell' = true := by
  obtain ⟨a, cap, rfl, _, _⟩ := Row.shape k; rfl
theorem swo_SC {w : World} {g : Nat} : WO (scO (w := w) (g := g)) := ⟨fun _ _ => wo_C.anti _ _, fun _ _ _ => wo_C.trans _ _ _⟩

theorem SC.lift {w : World} {g : Nat} : ∀ (us : List CS), (∀ x ∈ us, SetR w x.h x.c.set ∧ x.h.ownBlock ≠ some g) → ∃ ss : List (SC w g), ss.map (·.1) = us
  | [], _ => ⟨[], rfl⟩
  | x :: r, h => by
    obtain ⟨ss, e⟩ := SC.lift r fun y hy => h y (List.mem_cons_of_mem _ hy)
    exact ⟨⟨x, h x List.mem_cons_self⟩ :: ss, congrArg (x :: ·) e⟩

theorem bits115_any (n : Nat) (hn : n ≤ 1000000) (w : World) : Calls Tryz.prog 80 #[.int .u64 n] w fun e w' => e = .returned (.int .i64 (Lib.bitLen n)) ∧ w' = w := by
  have h := Any.bits_Len Tryz.bitsLen (n : Int) w (by omega) (by omega)
  rw [Int.toNat_natCast] at h
  exact h

theorem pdqC_any (w : World) (base g cap : Nat) (us : List CS) (ho : w.ownsRow base 94 7 (.slice (some ⟨g, 0, none⟩) us.length cap) us.length (us.flatMap csC)) (hl : us.length ≤ 12) (h0 : us ≠ [])
    (hs : ∀ x ∈ us, SetR w x.h x.c.set ∧ x.h.ownBlock ≠ some g) (lim : Int) :
    Calls Tryz.prog 128 #[.slice (some ⟨g, 0, none⟩) us.length cap, .int .i64 0, .int .i64 us.length, .int .i64 lim, .func (.func 88) #[] #[]] w
      fun e w' => e = .returned (.tuple #[]) ∧ ∃ us' : List CS, us'.Perm us ∧ (us'.Pairwise fun a b => orderC a.c b.c ≤ 0) ∧ w'.ownsRow base 94 7 (.slice (some ⟨g, 0, none⟩) us.length cap) us.length (us'.flatMap csC) ∧ w.grownBy w' (some g) := by
  obtain ⟨cur, hg, hb, hn, hm, hsz, hlt, hH⟩ := own_holds ho
  obtain ⟨ss, hss⟩ := SC.lift us hs
  have hsl : ss.length = us.length := by rw [← hss, List.length_map]
  have hfl : ss.flatMap scC = us.flatMap csC := by rw [← hss, List.flatMap_map]; rfl
  haveI : Inhabited (SC w g) := ⟨ss.head (by intro h; rw [h] at hsl; exact h0 (List.length_eq_zero_iff.1 hsl.symm))⟩
  have hk : ∀ x : SC w g, (scC x).length = 7 := fun _ => rfl
  have ho2 : w.ownsRow base 94 7 (.slice (some ⟨g, 0, none⟩) us.length cap) us.length (ss.flatMap scC) := by rw [hfl]; exact ho
  have hHK := own_holdsK scC (by decide) hk ho2
  have hone : ∀ x : SC w g, ∀ u ∈ scC x, u.oneCell' = true := fun x u hu => csC_one [x.1] (fun y hy => by rw [List.mem_singleton.1 hy]; exact set_one x.2.1) u (by simpa [scC] using hu)
  have hcmp : CmpLays (α := SC w g) Tryz.prog 88 #[] scC 7 scO g 0 ss.toArray.size w := fun m os dk hdk x y => by
    have hgw : w.grownBy (sortWorldK scC 7 w g 0 m dk os) (some g) := by unfold sortWorldK putRowK; exact grownBy_row _
    obtain ⟨a1, c1, e1, _, _⟩ := Row.shape x.2.1
    obtain ⟨a2, c2, e2, _, _⟩ := Row.shape y.2.1
    have hx := Row.keep x.2.1 hgw (.inl x.2.2)
    have hy := Row.keep y.2.1 hgw (.inl y.2.2)
    have := order_any (sortWorldK scC 7 w g 0 m dk os) x.1.c y.1.c a1 c1 a2 c2 (by rw [← e1]; exact hx) (by rw [← e2]; exact hy)
    rw [← e1, ← e2] at this
    exact this.mono fun _ _ ⟨he, hx⟩ => ⟨he, hx.grown⟩
  have h12 : ss.toArray.size ≤ 12 := by simp; omega
  have hc := AnyQ.pdqsortCmpFunc_small Tryz.sortC 7 (fun w => Tryz.isAgg94 w) (fun w => Tryz.sizeOf94 w) scC hk hone scO 88 #[] g 0 cap 0 ss.toArray.size lim ss.toArray w ent65 hcmp hHK hlt (Nat.zero_le _) (Nat.le_refl _) (by omega) (by omega)
  have e1 : ss.toArray.size = us.length := by simp [hsl]
  have hsort := insertionSort_holds (lt := ltOf (scO (w := w) (g := g))) (wo_swo swo_SC) ss.toArray 0 ss.toArray.size (Nat.zero_le _) (Nat.le_refl _)
  rw [e1] at hc
  refine hc.mono ?_
  rintro e w' ⟨rfl, n, os, rfl⟩
  rw [← e1]
  generalize insertionSort (ltOf scO) ss.toArray 0 ss.toArray.size = d' at *
  obtain ⟨p1, p2⟩ := sorted_list (cf := scO) hsort.1 hsort.2 swo_SC.anti
  have hll : d'.toList.length = ss.length := p1.length_eq
  have hfin := own_sorted (m := n) (os := os) scC (by decide) hk ho2 hll
  refine ⟨rfl, d'.toList.map (·.1), ?_, ?_, ?_, hfin.2⟩
  · rw [← hss]; exact p1.map _
  · rw [List.pairwise_map]; exact p2
  · have : (d'.toList.map (·.1)).flatMap csC = d'.toList.flatMap scC := by rw [List.flatMap_map]; rfl
    rw [this, e1]
    exact hfin.1
end Go.Proofs.YtaklnpjpndkccaaGreat

namespace Go.Proofs.YtaklnpjpndkccaaGreat
open Go.RowKit Go.Sort

set_option maxRecDepth 100000 in
set_option maxHeartbeats 2000000 in
theorem sortC_any (w : World) (base g cap : Nat) (us : List CS) (ho : w.ownsRow base 94 7 (.slice (some ⟨g, 0, none⟩) us.length cap) us.length (us.flatMap csC)) (hl : us.length ≤ 12) (h0 : us ≠ [])
    (hs : ∀ x ∈ us, SetR w x.h x.c.set ∧ x.h.ownBlock ≠ some g) :
    Calls Tryz.prog 87 #[.slice (some ⟨g, 0, none⟩) us.length cap, .func (.func 88) #[] #[]] w
      fun e w' => e = .returned (.tuple #[]) ∧ ∃ us' : List CS, us'.Perm us ∧ (us'.Pairwise fun a b => orderC a.c b.c ≤ 0) ∧ w'.ownsRow base 94 7 (.slice (some ⟨g, 0, none⟩) us.length cap) us.length (us'.flatMap csC) ∧ w.grownBy w' (some g) := by
  have hc := fun lim => pdqC_any w base g cap us ho hl h0 hs lim
  have hbl := bits115_any us.length (by omega) w
  have wr : IntKind.u64.wrap (us.length : Int) = us.length := by simp [IntKind.wrap, IntKind.bits, IntKind.signed]; omega
  have HC := Lib.hid hc
  clear hc ho hs h0
  generalize us.length = n at *
  go_enter Tryz.func87, Tryz.ntmps87
  go_wp2_with (first | (go_at_call 80; refine hbl.mono ?_; rintro e w' ⟨rfl, rfl⟩) | (go_at_call 128; refine (HC.out _).mono ?_; rintro e w' ⟨rfl, us', q1, q2, q3, q4⟩))
  go_end0
  exact ⟨rfl, us', q1, q2, q3, q4⟩
end Go.Proofs.YtaklnpjpndkccaaGreat

namespace Go.Proofs.YtaklnpjpndkccaaGreat

section
variable {α : Type} [DecidableEq α]
/-- Equal neighbours, one kept. -/
def compE (l : List α) : List α := compL (fun a b => decide (a = b)) l
theorem compE_nil : compE ([] : List α) = [] := compL_nil _
theorem compE_one (x : α) : compE [x] = [x] := compL_one _ x
theorem compE_cons2 (x y : α) (r : List α) : compE (x :: y :: r) = if x = y then compE (x :: r) else x :: compE (y :: r) := by
  unfold compE
  rw [compL_cons2]
  by_cases h : x = y
  · rw [if_pos h, if_pos (decide_eq_true h)]
  · rw [if_neg h, if_neg (by simpa using h)]
theorem compE_snoc : ∀ (n : Nat) (m : List α), m.length = n → ∀ x y : α, compE (m ++ [x, y]) = if x = y then compE (m ++ [x]) else compE (m ++ [x]) ++ [y]
  | _, [], _, x, y => by
    rw [List.nil_append, List.nil_append, compE_cons2, compE_one, compE_one]
    by_cases h : x = y
    · rw [if_pos h, if_pos h]
    · rw [if_neg h, if_neg h]; rfl
  | _, [a], _, x, y => by
    show compE (a :: x :: [y]) = if x = y then compE (a :: x :: []) else compE (a :: x :: []) ++ [y]
    rw [compE_cons2, compE_cons2 a x []]
    by_cases hax : a = x
    · subst hax
      rw [if_pos rfl, if_pos rfl, compE_cons2, compE_one, compE_one]
      by_cases h : a = y
      · rw [if_pos h, if_pos h]
      · rw [if_neg h, if_neg h]; rfl
    · rw [if_neg hax, if_neg hax, compE_cons2, compE_one, compE_one]
      by_cases h : x = y
      · rw [if_pos h, if_pos h]
      · rw [if_neg h, if_neg h]; rfl
  | n + 1, a :: b :: m, h, x, y => by
    show compE (a :: b :: (m ++ [x, y])) = if x = y then compE (a :: b :: (m ++ [x])) else compE (a :: b :: (m ++ [x])) ++ [y]
    rw [compE_cons2, compE_cons2]
    have hlen : (a :: m).length = n := by simp at h ⊢; omega
    have hlen2 : (b :: m).length = n := by simp at h ⊢; omega
    by_cases hab : a = b
    · rw [if_pos hab, if_pos hab]
      exact compE_snoc n (a :: m) hlen x y
    · rw [if_neg hab, if_neg hab]
      have := compE_snoc n (b :: m) hlen2 x y
      rw [List.cons_append, List.cons_append] at this
      rw [this]
      by_cases h : x = y
      · rw [if_pos h, if_pos h]
      · rw [if_neg h, if_neg h]; rfl
/-- One more element read. -/
theorem compE_take {l : List α} {n : Nat} (h : n + 1 < l.length) : compE (l.take (n + 2)) = if l[n + 1] = l[n] then compE (l.take (n + 1)) else compE (l.take (n + 1)) ++ [l[n + 1]] := by
  have e1 : l.take (n + 1) = l.take n ++ [l[n]] := by rw [List.take_succ_eq_append_getElem (by omega)]
  have e2 : l.take (n + 2) = l.take n ++ [l[n], l[n + 1]] := by
    rw [List.take_succ_eq_append_getElem h, e1, List.append_assoc]; rfl
  rw [e2, e1, compE_snoc _ _ rfl]
  by_cases hh : l[n] = l[n + 1]
  · rw [if_pos hh, if_pos hh.symm]
  · rw [if_neg hh, if_neg (fun e => hh e.symm)]
theorem compE_len : ∀ (n : Nat) (l : List α), l.length ≤ n → (compE l).length ≤ l.length
  | _, [], _ => by rw [compE_nil]; exact Nat.le_refl _
  | _, [x], _ => by rw [compE_one]; exact Nat.le_refl _
  | n + 1, x :: y :: r, h => by
    rw [compE_cons2]
    split
    · have := compE_len n (x :: r) (by simp at h ⊢; omega)
      simp only [List.length_cons] at this ⊢; omega
    · have := compE_len n (y :: r) (by simp at h ⊢; omega)
      simp only [List.length_cons] at this ⊢; omega
end
end Go.Proofs.YtaklnpjpndkccaaGreat

namespace Go.Proofs.YtaklnpjpndkccaaGreat
open Go.RowKit Go.Sort

theorem own_cut_set {w : World} {base g n cap k i : Nat} {e : TypeId} {xs : List Value} (h : w.ownsRow base e k (.slice (some ⟨g, 0, none⟩) n cap) n xs) (hi : i ≤ n) (vs : List Value) (hv : i * k + vs.length ≤ n * k) :
    (w.setCells g (i * k) vs).ownsRow base e k (.slice (some ⟨g, 0, none⟩) i cap) i (xs.take (i * k)) ∧ w.grownBy (w.setCells g (i * k) vs) (some g) := by
  obtain ⟨cur, hg, hb, hn, hm, hs, hlt, hH⟩ := own_holds h
  have hl := h.1
  have h1 := setCells_putRow w g 0 vs (i * k) xs.toArray (by simpa [hl] using hv)
  rw [putRow_self id w g 0 _ hH, Nat.zero_add] at h1
  have hik : i * k ≤ n * k := Nat.mul_le_mul_right _ hi
  have hys : (setMany xs.toArray (i * k) vs).toList.length = xs.length := by rw [Array.length_toList, size_setMany, List.size_toArray]
  have e2 : putRow id w g 0 (setMany xs.toArray (i * k) vs) = grow (putRow id (Sort.ahead w 0) g 0 (setMany xs.toArray (i * k) vs).toList.toArray) #[] := by rw [grow_empty, Sort.ahead_zero, Array.toArray_toList]
  have hp := own_put (m := 0) (os := #[]) h hys
  rw [h1, e2]
  refine ⟨?_, grownBy_row _⟩
  obtain ⟨cur', hg', hb', hn', hm', hs', _, _⟩ := own_holds hp
  refine ⟨by rw [List.length_take]; omega, .inr ⟨g, cap, cur', rfl, hb', hg', by omega, hm', hs', ?_⟩⟩
  rcases hp.2 with ⟨h0, _⟩ | ⟨g2, cap2, cur2, e0, _, hg2, _, _, _, ht2⟩
  · cases h0
  · injection e0 with e1 _ e3
    injection e1 with e1
    injection e1 with e1
    subst e1; subst e3
    have ec : cur' = cur2 := by rw [hg'] at hg2; cases hg2; rfl
    subst ec
    have e5 : cur'.toList.take (i * k) = (cur'.toList.take (n * k)).take (i * k) := by rw [List.take_take, Nat.min_eq_left hik]
    rw [e5, ht2]
    apply List.ext_getElem?
    intro t
    by_cases ht : t < i * k
    · rw [List.getElem?_take_of_lt ht, List.getElem?_take_of_lt ht, Array.getElem?_toList]
      have htx : t < xs.length := by omega
      have hg3 := get_setMany vs (i * k) xs.toArray t (by simpa using htx)
      rw [if_neg (by omega)] at hg3
      rw [getElem!_pos _ t (by simpa using htx), getElem!_pos _ t (by simpa using htx)] at hg3
      rw [Array.getElem?_eq_getElem (by simpa using htx), List.getElem?_eq_getElem htx, hg3]
      simp
    · rw [List.getElem?_take_eq_none (by omega), List.getElem?_take_eq_none (by omega)]

variable {P : Program}
theorem run_clear_many (w : World) (t e ty : TypeId) (z : Value) (vs : List Value) (ht : P.underlying t = some (.slice e)) (hv : ∀ w, (zeroValue e).run P w = .ok z w) (b o n c : Nat) (hn : 0 < n)
    (hz : (Builtin.zeroCells z.cells n).toList = vs) (h1 : ∀ v ∈ vs, v.oneCell' = true)
    (hc : ∀ j, j < vs.length → (w.cell? ⟨b, o + j, none⟩).isSome = true) (hf : ∀ j, j < vs.length → w.frozen? ⟨b, o + j, none⟩ = false) :
    (Builtin.clear_ #[t] ty #[.slice (some ⟨b, o, none⟩) n c]).run P w = .ok (.tuple #[]) (w.setCells b o vs) := by
  have hst := run_storeCells_cells (P := P) b o vs 0 w (by simpa using hc) (by simpa using hf) h1
  simp only [Nat.add_zero] at hst
  obtain ⟨m, rfl⟩ : ∃ m, n = m + 1 := ⟨n - 1, by omega⟩
  simp [Builtin.clear_, run_underlying ht, hv, hz, hst]
end Go.Proofs.YtaklnpjpndkccaaGreat

namespace Go.Proofs.YtaklnpjpndkccaaGreat
open Go.RowKit Go.Sort

section
variable {α : Type} [DecidableEq α]
/-- i elements have been read, k are kept at the row's head; what has not been read stands. -/
structure CompInv (l r : List α) (k i : Nat) : Prop where
  len : r.length = l.length
  pos : 1 ≤ k
  le : k + 1 ≤ i
  hi : i ≤ l.length
  tk : r.take k = compE (l.take i)
  dr : r.drop (i - 1) = l.drop (i - 1)
theorem CompInv.start {l : List α} {m : Nat} (h : m + 1 < l.length) (hc : compE (l.take (m + 1)) = l.take (m + 1)) (e : l[m + 1] = l[m]) : CompInv l l (m + 1) (m + 2) := by
  refine ⟨rfl, by omega, by omega, by omega, ?_, rfl⟩
  rw [compE_take h, if_pos e, hc]
theorem CompInv.at {l r : List α} {k i : Nat} (h : CompInv l r k i) (hi : i < l.length) : ∃ (h1 : i < r.length) (h2 : i - 1 < r.length), r[i] = l[i] ∧ r[i - 1] = l[i - 1]'(by omega) := by
  have hp := h.pos
  have hl := h.le
  have hn := h.len
  refine ⟨by omega, by omega, ?_, ?_⟩
  · have := congrArg (fun x => x[1]?) h.dr
    simp only [List.getElem?_drop] at this
    have e : i - 1 + 1 = i := by omega
    rw [e, List.getElem?_eq_getElem (by omega), List.getElem?_eq_getElem hi] at this
    exact Option.some.inj this
  · have := congrArg (fun x => x[0]?) h.dr
    simp only [List.getElem?_drop, Nat.add_zero] at this
    rw [List.getElem?_eq_getElem (by omega), List.getElem?_eq_getElem (by omega)] at this
    exact Option.some.inj this
theorem CompInv.drop {l r : List α} {k i : Nat} (h : CompInv l r k i) : r.drop i = l.drop i := by
  have := congrArg (fun x => x.drop 1) h.dr
  have hl := h.le
  have hp := h.pos
  simp only [List.drop_drop] at this
  have e : i - 1 + 1 = i := by omega
  rw [e] at this
  exact this
theorem comp_read {l : List α} {i : Nat} (h1 : 1 ≤ i) (hi : i < l.length) : compE (l.take (i + 1)) = if l[i] = l[i - 1] then compE (l.take i) else compE (l.take i) ++ [l[i]] := by
  obtain ⟨m, rfl⟩ : ∃ m, i = m + 1 := ⟨i - 1, by omega⟩
  exact compE_take hi
theorem CompInv.same {l r : List α} {k i : Nat} (h : CompInv l r k i) (hi : i < l.length) (e : l[i] = l[i - 1]) : CompInv l r k (i + 1) := by
  have hp := h.pos
  have hl := h.le
  refine ⟨h.len, hp, by omega, hi, ?_, ?_⟩
  · rw [comp_read (by omega) hi, if_pos e]; exact h.tk
  · exact h.drop
theorem CompInv.next {l r : List α} {k i : Nat} (h : CompInv l r k i) (hi : i < l.length) (e : l[i] ≠ l[i - 1]) : CompInv l (r.set k l[i]) (k + 1) (i + 1) := by
  have hp := h.pos
  have hl := h.le
  have hn := h.len
  refine ⟨by rw [List.length_set]; exact hn, by omega, by omega, hi, ?_, ?_⟩
  · rw [comp_read (by omega) hi, if_neg e, ← h.tk]
    have hk : k < r.length := by omega
    rw [List.take_succ_eq_append_getElem (by rw [List.length_set]; exact hk), List.getElem_set_self, List.take_set_of_le (Nat.le_refl k)]
  · show (r.set k l[i]).drop i = l.drop i
    rw [List.drop_set_of_lt (by omega)]
    exact h.drop
theorem CompInv.done {l r : List α} {k : Nat} (h : CompInv l r k l.length) : r.take k = compE l ∧ (compE l).length = k := by
  have := h.tk
  rw [List.take_length] at this
  refine ⟨this, ?_⟩
  rw [← this, List.length_take]
  have := h.le; have := h.len
  omega
end
theorem own_there {w : World} {base g n cap k : Nat} {e : TypeId} {xs : List Value} (h : w.ownsRow base e k (.slice (some ⟨g, 0, none⟩) n cap) n xs) (i m : Nat) (hi : i * k + m ≤ n * k) : w.there g (i * k) m := by
  obtain ⟨cur, hg, hb, hn, hm, hs, hlt, hH⟩ := own_holds h
  have hl := h.1
  intro j hj
  have := hH (i * k + j) (by simp [hl]; omega)
  rw [Nat.zero_add] at this
  exact ⟨by rw [this.1]; rfl, this.2⟩
theorem zero_one {z : Array Value} {n : Nat} (h : ∀ v ∈ z.toList, v.oneCell' = true) : ∀ v ∈ (Builtin.zeroCells z n).toList, v.oneCell' = true := by
  intro v hv
  unfold Builtin.zeroCells at hv
  rw [Array.toList_map, List.mem_map] at hv
  obtain ⟨i, hi, rfl⟩ := hv
  rcases Nat.eq_zero_or_pos z.size with h0 | h0
  · simp [h0] at hi
  · have hm : i % z.size < z.size := Nat.mod_lt _ h0
    rw [getElem!_pos z _ hm]
    exact h _ (by simp)
theorem zero_len (z : Array Value) (n : Nat) : (Builtin.zeroCells z n).toList.length = n * z.size := by rw [Array.length_toList, size_zeroCells]
variable {P : Program}
/-- 'clear(s[i:])' over a row of the call's own. -/
theorem run_clear_tail {w : World} {base g n cap k : Nat} {e : TypeId} {xs : List Value} (h : w.ownsRow base e k (.slice (some ⟨g, 0, none⟩) n cap) n xs) (t : TypeId) (z : Value) (hz : z.cells.size = k) (hz1 : ∀ v ∈ z.cells.toList, v.oneCell' = true)
    (ht : P.underlying t = some (.slice e)) (hv : ∀ w, (zeroValue e).run P w = .ok z w) (i c : Nat) (hi : i < n) (ty : TypeId) :
    (Builtin.clear_ #[t] ty #[.slice (some ⟨g, i * k, none⟩) (n - i) c]).run P w = .ok (.tuple #[]) (w.setCells g (i * k) (Builtin.zeroCells z.cells (n - i)).toList) := by
  have hlen : (Builtin.zeroCells z.cells (n - i)).toList.length = (n - i) * k := by rw [zero_len, hz]
  have hth := own_there h i ((n - i) * k) (by rw [← Nat.add_mul]; exact Nat.mul_le_mul_right _ (by omega))
  exact run_clear_many w t e ty z _ ht hv g (i * k) (n - i) c (by omega) rfl (zero_one hz1) (fun j hj => (hth j (by rw [← hlen]; exact hj)).1) (fun j hj => (hth j (by rw [← hlen]; exact hj)).2)
theorem own_clear_tail {w : World} {base g n cap k i : Nat} {e : TypeId} {xs : List Value} (h : w.ownsRow base e k (.slice (some ⟨g, 0, none⟩) n cap) n xs) (hi : i ≤ n) (z : Value) (hz : z.cells.size = k) :
    (w.setCells g (i * k) (Builtin.zeroCells z.cells (n - i)).toList).ownsRow base e k (.slice (some ⟨g, 0, none⟩) i cap) i (xs.take (i * k)) ∧ w.grownBy (w.setCells g (i * k) (Builtin.zeroCells z.cells (n - i)).toList) (some g) := by
  refine own_cut_set h hi _ ?_
  rw [zero_len, hz, ← Nat.add_mul]
  exact Nat.mul_le_mul_right _ (by omega)
end Go.Proofs.YtaklnpjpndkccaaGreat

namespace Go.Proofs.YtaklnpjpndkccaaGreat

section
variable {α β : Type} [DecidableEq β] (f : α → β)
/-- Equal neighbours, one kept. -/
def compF (l : List α) : List α := compL (fun a b => decide (f a = f b)) l
variable {f}
theorem compF_nil : compF f ([] : List α) = [] := compL_nil _
theorem compF_one (x : α) : compF f [x] = [x] := compL_one _ x
theorem compF_cons2 (x y : α) (r : List α) : compF f (x :: y :: r) = if f x = f y then compF f (x :: r) else x :: compF f (y :: r) := by
  unfold compF
  rw [compL_cons2]
  by_cases h : f x = f y
  · rw [if_pos h, if_pos (decide_eq_true h)]
  · rw [if_neg h, if_neg (by simpa using h)]
theorem compF_snoc : ∀ (n : Nat) (m : List α), m.length = n → ∀ x y : α, compF f (m ++ [x, y]) = if f x = f y then compF f (m ++ [x]) else compF f (m ++ [x]) ++ [y]
  | _, [], _, x, y => by
    rw [List.nil_append, List.nil_append, compF_cons2, compF_one, compF_one]
    by_cases h : f x = f y
    · rw [if_pos h, if_pos h]
    · rw [if_neg h, if_neg h]; rfl
  | _, [a], _, x, y => by
    show compF f (a :: x :: [y]) = if f x = f y then compF f (a :: x :: []) else compF f (a :: x :: []) ++ [y]
    rw [compF_cons2, compF_cons2 a x []]
    by_cases hax : f a = f x
    · rw [if_pos hax, if_pos hax, compF_cons2, compF_one, compF_one, hax]
      by_cases h : f x = f y
      · rw [if_pos h, if_pos h]
      · rw [if_neg h, if_neg h]; rfl
    · rw [if_neg hax, if_neg hax, compF_cons2, compF_one, compF_one]
      by_cases h : f x = f y
      · rw [if_pos h, if_pos h]
      · rw [if_neg h, if_neg h]; rfl
  | n + 1, a :: b :: m, h, x, y => by
    show compF f (a :: b :: (m ++ [x, y])) = if f x = f y then compF f (a :: b :: (m ++ [x])) else compF f (a :: b :: (m ++ [x])) ++ [y]
    rw [compF_cons2, compF_cons2]
    have hlen : (a :: m).length = n := by simp at h ⊢; omega
    have hlen2 : (b :: m).length = n := by simp at h ⊢; omega
    by_cases hab : f a = f b
    · rw [if_pos hab, if_pos hab]
      exact compF_snoc n (a :: m) hlen x y
    · rw [if_neg hab, if_neg hab]
      have := compF_snoc n (b :: m) hlen2 x y
      rw [List.cons_append, List.cons_append] at this
      rw [this]
      by_cases h : f x = f y
      · rw [if_pos h, if_pos h]
      · rw [if_neg h, if_neg h]; rfl
/-- One more element read. -/
theorem compF_take {l : List α} {n : Nat} (h : n + 1 < l.length) : compF f (l.take (n + 2)) = if f l[n + 1] = f l[n] then compF f (l.take (n + 1)) else compF f (l.take (n + 1)) ++ [l[n + 1]] := by
  have e1 : l.take (n + 1) = l.take n ++ [l[n]] := by rw [List.take_succ_eq_append_getElem (by omega)]
  have e2 : l.take (n + 2) = l.take n ++ [l[n], l[n + 1]] := by
    rw [List.take_succ_eq_append_getElem h, e1, List.append_assoc]; rfl
  rw [e2, e1, compF_snoc _ _ rfl]
  by_cases hh : f l[n] = f l[n + 1]
  · rw [if_pos hh, if_pos hh.symm]
  · rw [if_neg hh, if_neg (fun e => hh e.symm)]
theorem compF_len : ∀ (n : Nat) (l : List α), l.length ≤ n → (compF f l).length ≤ l.length
  | _, [], _ => by rw [compF_nil]; exact Nat.le_refl _
  | _, [x], _ => by rw [compF_one]; exact Nat.le_refl _
  | n + 1, x :: y :: r, h => by
    rw [compF_cons2]
    split
    · have := compF_len n (x :: r) (by simp at h ⊢; omega)
      simp only [List.length_cons] at this ⊢; omega
    · have := compF_len n (y :: r) (by simp at h ⊢; omega)
      simp only [List.length_cons] at this ⊢; omega
variable (f) in
/-- i elements have been read, k are kept at the row's head; what has not been read stands. -/
structure CompInvF (l r : List α) (k i : Nat) : Prop where
  len : r.length = l.length
  pos : 1 ≤ k
  le : k + 1 ≤ i
  hi : i ≤ l.length
  tk : r.take k = compF f (l.take i)
  dr : r.drop (i - 1) = l.drop (i - 1)
theorem CompInvF.start {l : List α} {m : Nat} (h : m + 1 < l.length) (hc : compF f (l.take (m + 1)) = l.take (m + 1)) (e : f l[m + 1] = f l[m]) : CompInvF f l l (m + 1) (m + 2) := by
  refine ⟨rfl, by omega, by omega, by omega, ?_, rfl⟩
  rw [compF_take h, if_pos e, hc]
theorem CompInvF.at {l r : List α} {k i : Nat} (h : CompInvF f l r k i) (hi : i < l.length) : ∃ (h1 : i < r.length) (h2 : i - 1 < r.length), r[i] = l[i] ∧ r[i - 1] = l[i - 1]'(by omega) := by
  have hp := h.pos
  have hl := h.le
  have hn := h.len
  refine ⟨by omega, by omega, ?_, ?_⟩
  · have := congrArg (fun x => x[1]?) h.dr
    simp only [List.getElem?_drop] at this
    have e : i - 1 + 1 = i := by omega
    rw [e, List.getElem?_eq_getElem (by omega), List.getElem?_eq_getElem hi] at this
    exact Option.some.inj this
  · have := congrArg (fun x => x[0]?) h.dr
    simp only [List.getElem?_drop, Nat.add_zero] at this
    rw [List.getElem?_eq_getElem (by omega), List.getElem?_eq_getElem (by omega)] at this
    exact Option.some.inj this
theorem CompInvF.drop {l r : List α} {k i : Nat} (h : CompInvF f l r k i) : r.drop i = l.drop i := by
  have := congrArg (fun x => x.drop 1) h.dr
  have hl := h.le
  have hp := h.pos
  simp only [List.drop_drop] at this
  have e : i - 1 + 1 = i := by omega
  rw [e] at this
  exact this
theorem compF_read {l : List α} {i : Nat} (h1 : 1 ≤ i) (hi : i < l.length) : compF f (l.take (i + 1)) = if f l[i] = f l[i - 1] then compF f (l.take i) else compF f (l.take i) ++ [l[i]] := by
  obtain ⟨m, rfl⟩ : ∃ m, i = m + 1 := ⟨i - 1, by omega⟩
  exact compF_take hi
theorem CompInvF.same {l r : List α} {k i : Nat} (h : CompInvF f l r k i) (hi : i < l.length) (e : f l[i] = f l[i - 1]) : CompInvF f l r k (i + 1) := by
  have hp := h.pos
  have hl := h.le
  refine ⟨h.len, hp, by omega, hi, ?_, ?_⟩
  · rw [compF_read (by omega) hi, if_pos e]; exact h.tk
  · exact h.drop
theorem CompInvF.next {l r : List α} {k i : Nat} (h : CompInvF f l r k i) (hi : i < l.length) (e : f l[i] ≠ f l[i - 1]) : CompInvF f l (r.set k l[i]) (k + 1) (i + 1) := by
  have hp := h.pos
  have hl := h.le
  have hn := h.len
  refine ⟨by rw [List.length_set]; exact hn, by omega, by omega, hi, ?_, ?_⟩
  · rw [compF_read (by omega) hi, if_neg e, ← h.tk]
    have hk : k < r.length := by omega
    rw [List.take_succ_eq_append_getElem (by rw [List.length_set]; exact hk), List.getElem_set_self, List.take_set_of_le (Nat.le_refl k)]
  · show (r.set k l[i]).drop i = l.drop i
    rw [List.drop_set_of_lt (by omega)]
    exact h.drop
theorem CompInvF.done {l r : List α} {k : Nat} (h : CompInvF f l r k l.length) : r.take k = compF f l ∧ (compF f l).length = k := by
  have := h.tk
  rw [List.take_length] at this
  refine ⟨this, ?_⟩
  rw [← this, List.length_take]
  have := h.le; have := h.len
  omega
end
end Go.Proofs.YtaklnpjpndkccaaGreat

namespace Go.Proofs.YtaklnpjpndkccaaGreat
open Go.RowKit Go.Sort

theorem order_dec (a b : C) : decide (orderC a b = 0) = decide (a = b) := by
  rw [Bool.eq_iff_iff, decide_eq_true_iff, decide_eq_true_iff]
  exact ⟨order_zero, fun h => by rw [h]; exact wo_C.refl b⟩

set_option maxRecDepth 100000 in
set_option maxHeartbeats 2000000 in
theorem eq119_any (w : World) (a b : C) (sa : Option Addr) (ca : Nat) (sb : Option Addr) (cb : Nat) (ha : SetR w (.slice sa a.set.length ca) a.set) (hb : SetR w (.slice sb b.set.length cb) b.set) :
    Calls Tryz.prog 90 #[.agg #[.string (strOf a.name), .int .i64 a.op, .int .i64 a.v.k, .int .i64 a.v.n, .string (strOf a.v.s), .bool a.v.b, .slice sa a.set.length ca], .agg #[.string (strOf b.name), .int .i64 b.op, .int .i64 b.v.k, .int .i64 b.v.n, .string (strOf b.v.s), .bool b.v.b, .slice sb b.set.length cb]] w fun e w' => e = .returned (.bool (decide (a = b))) ∧ Grew w w' := by
  have hx0 : Grew w ((w.alloc (.cells #[.string (strOf a.name), .int .i64 a.op, .int .i64 a.v.k, .int .i64 a.v.n, .string (strOf a.v.s), .bool a.v.b, .slice sa a.set.length ca] 94)).alloc (.cells #[.string (strOf b.name), .int .i64 b.op, .int .i64 b.v.k, .int .i64 b.v.n, .string (strOf b.v.s), .bool b.v.b, .slice sb b.set.length cb] 94)) := ((Grew.refl w).alloc _).alloc _
  have hcall := order_any _ a b sa ca sb cb (ha.ext hx0.1) (hb.ext hx0.1)
  rw [← order_dec, ← beq_dec]
  have HC := Lib.hid hcall
  clear hcall ha hb
  generalize orderC a b = r at *
  go_enter Tryz.func90, Tryz.ntmps90
  go_wp2_with (go_at_call 88; refine HC.out.mono ?_; rintro e w' ⟨rfl, hx⟩)
  go_ret
  exact ⟨rfl, hx0.trans hx⟩
theorem ent119 : ∀ args w, (callFunc 90 args).run Tryz.prog w = .ok (.enter 90 args) w := enters_of Tryz.func90 (by kernel_rfl) rfl
theorem eq119_cs (w : World) (x y : CS) (hx : SetR w x.h x.c.set) (hy : SetR w y.h y.c.set) :
    Calls Tryz.prog 90 #[.agg #[.string (strOf x.c.name), .int .i64 x.c.op, .int .i64 x.c.v.k, .int .i64 x.c.v.n, .string (strOf x.c.v.s), .bool x.c.v.b, x.h], .agg #[.string (strOf y.c.name), .int .i64 y.c.op, .int .i64 y.c.v.k, .int .i64 y.c.v.n, .string (strOf y.c.v.s), .bool y.c.v.b, y.h]] w fun e w' => e = .returned (.bool (decide (x.c = y.c))) ∧ Grew w w' := by
  obtain ⟨a1, c1, e1, _, _⟩ := Row.shape hx
  obtain ⟨a2, c2, e2, _, _⟩ := Row.shape hy
  rw [e1] at hx
  rw [e2] at hy
  rw [e1, e2]
  exact eq119_any w x.c y.c a1 c1 a2 c2 hx hy

theorem cs_at {W : World} {g n cap : Nat} {us : List CS} (h : Row W 7 (.slice (some ⟨g, 0, none⟩) n cap) n (us.flatMap csC)) {k : Nat} (hk : k < us.length) (hn : k < n) :
    W.cell? ⟨g, k * 7, none⟩ = some (.string (strOf us[k].c.name)) ∧ W.cell? ⟨g, k * 7 + 1, none⟩ = some (.int .i64 us[k].c.op) ∧ W.cell? ⟨g, k * 7 + 2, none⟩ = some (.int .i64 us[k].c.v.k) ∧ W.cell? ⟨g, k * 7 + 3, none⟩ = some (.int .i64 us[k].c.v.n) ∧
      W.cell? ⟨g, k * 7 + 4, none⟩ = some (.string (strOf us[k].c.v.s)) ∧ W.cell? ⟨g, k * 7 + 5, none⟩ = some (.bool us[k].c.v.b) ∧ W.cell? ⟨g, k * 7 + 6, none⟩ = some us[k].h := by
  have gg := fun j hj => flat_get csC 7 csC_len us k hk j hj
  have q := fun j u hj (e : (csC us[k])[j]? = some u) => Row.cellAt h ((gg j hj).trans e) (by omega)
  simp only [Nat.zero_add] at q
  exact ⟨q 0 _ (by decide) rfl, q 1 _ (by decide) rfl, q 2 _ (by decide) rfl, q 3 _ (by decide) rfl, q 4 _ (by decide) rfl, q 5 _ (by decide) rfl, q 6 _ (by decide) rfl⟩

theorem cs_one (x : CS) (h : x.h.oneCell' = true) : (#[.string (strOf x.c.name), .int .i64 x.c.op, .int .i64 x.c.v.k, .int .i64 x.c.v.n, .string (strOf x.c.v.s), .bool x.c.v.b, x.h] : Array Value).all (·.oneCell') = true :=
  all_oneCell_toArray (cs := csC x) fun u hu => csC_one [x] (fun y hy => by rw [List.mem_singleton.1 hy]; exact h) u (by simpa using hu)

set_option maxRecDepth 100000 in
set_option maxHeartbeats 8000000 in
theorem compactC_any (w : World) (base : Nat) (v : Value) (us : List CS) (ho : w.ownsRow base 94 7 v us.length (us.flatMap csC)) (hl : us.length ≤ 1000000) (hs : ∀ x ∈ us, SetR w x.h x.c.set ∧ x.h.ownBlock ≠ v.ownBlock) :
    Calls Tryz.prog 89 #[v, .func (.func 90) #[] #[]] w fun e w' => ∃ v', e = .returned v' ∧ w'.ownsRow base 94 7 v' (compF CS.c us).length ((compF CS.c us).flatMap csC) ∧ w.grownBy w' v.ownBlock ∧ v'.ownBlock = v.ownBlock := by
  by_cases h2 : us.length < 2
  · have hce : compF CS.c us = us := by
      match us, h2 with
      | [], _ => exact compF_nil
      | [x], _ => exact compF_one x
    rw [hce]
    obtain ⟨a, cap, rfl, hc, hm⟩ := Row.shape (Row.of_own ho)
    have hd : decide ((us.length : Int) < 2) = true := decide_eq_true (by omega)
    have HO := Lib.hid ho
    clear ho hce hs
    generalize us.length = n at *
    go_enter Tryz.func89, Tryz.ntmps89
    go_wp2
    go_ret
    exact ⟨_, rfl, HO.out, ⟨rfl, rfl, rfl, Nat.le_refl _, fun _ _ _ => rfl⟩, rfl⟩
  · have hne : v ≠ .slice none 0 0 := by
      rintro rfl
      obtain ⟨_, _, e1, _, _⟩ := Row.shape (Row.of_own ho)
      simp only [Value.slice.injEq] at e1
      omega
    rcases ho.2 with ⟨e0, _⟩ | ⟨g, cap, cur, rfl, hb, hg, hn, hm, hs', ht⟩
    · exact absurd e0 hne
    clear hne cur hg hs' ht
    have hd : decide ((us.length : Int) < 2) = false := decide_eq_false (by omega)
    have hS : ∀ (wr : World) (x : CS), w.grownBy wr (some g) → x ∈ us → SetR wr x.h x.c.set := fun wr x hg hx => Row.keep (hs x hx).1 hg (.inl (hs x hx).2)
    have HO := Lib.hid ho
    clear ho hs
    have HSET := Lib.hid hS
    clear hS
    generalize hN : us.length = n at *
    have HN := Lib.hid hN
    clear hN
    go_enter Tryz.func89, Tryz.ntmps89
    go_wp2_with fail
    go_loopw [5] (fun i wr => ∃ k : Nat, 1 ≤ k ∧ k ≤ n ∧ i = .int .i64 k ∧ Hid (compF CS.c (us.take k) = us.take k) ∧ Hid (wr.ownsRow base 94 7 (.slice (some ⟨g, 0, none⟩) n cap) n (us.flatMap csC)) ∧ Hid (w.grownBy wr (some g))) (fun i _ => n - (intOf i).toNat)
    case atStart =>
      refine ⟨1, Nat.le_refl _, by omega, rfl, ?_, HO, ⟨rfl, rfl, rfl, Nat.le_refl _, fun _ _ _ => rfl⟩⟩
      show compF CS.c (us.take 1) = us.take 1
      match us, HN.out with
      | [], _ => exact compF_nil
      | x :: r, _ => exact compF_one x
    case round =>
      obtain ⟨k, hk1, hk, rfl, hc, hown, hgr⟩ := hrel
      by_cases hlt : k < n
      · have hI : decide ((k : Int) < (n : Int)) = true := decide_eq_true (by omega)
        have k1 : k < us.length := by rw [HN.out]; exact hlt
        have k0 : k - 1 < us.length := by omega
        have hrow := Row.of_own hown.out
        obtain ⟨f0, f1, f2, f3, f4, f5, f6⟩ := cs_at hrow k1 hlt
        obtain ⟨g0, g1, g2, g3, g4, g5, g6⟩ := cs_at hrow k0 (by omega)
        have hsx := HSET.out wr us[k] hgr.out (List.getElem_mem k1)
        have hsy := HSET.out wr us[k - 1] hgr.out (List.getElem_mem k0)
        have hi0 : (0 : Int) ≤ (k : Int) - 1 := by omega
        have hi1 : (k : Int) - 1 < (n : Int) := by omega
        have hi2 : ((k : Int) - 1).toNat = k - 1 := by omega
        obtain ⟨E, hE⟩ : ∃ E : Bool, E = decide (us[k].c = us[k - 1].c) := ⟨_, rfl⟩
        have HE := Lib.hid hE
        clear hE hrow
        have hcall : ∀ W, Grew wr W → Calls Tryz.prog 90 #[.agg #[.string (strOf us[k].c.name), .int .i64 us[k].c.op, .int .i64 us[k].c.v.k, .int .i64 us[k].c.v.n, .string (strOf us[k].c.v.s), .bool us[k].c.v.b, us[k].h], .agg #[.string (strOf us[k - 1].c.name), .int .i64 us[k - 1].c.op, .int .i64 us[k - 1].c.v.k, .int .i64 us[k - 1].c.v.n, .string (strOf us[k - 1].c.v.s), .bool us[k - 1].c.v.b, us[k - 1].h]] W fun e w' => e = .returned (.bool E) ∧ Grew W w' := fun W hW => by
          rw [HE.out]
          exact eq119_cs W us[k] us[k - 1] (hsx.ext hW.1) (hsy.ext hW.1)
        clear hsx hsy
        have HE2 : Hid (E = decide (us[k].c = us[k - 1].c)) := HE.out
        clear HE
        generalize hx : us[k] = x at *
        generalize hy : us[k - 1] = y at *
        have HX := Lib.hid hx
        have HY := Lib.hid hy
        clear hx hy
        go_upto_region 6 with fail
        go_cut [28] from 18 to 28 (fun v28 wx => v28 = .bool E ∧ ∃ w1, w1 = wx ∧ Grew wr w1)
        case first =>
          clear HO HSET HN HX HY HE2 hc hown hgr
          refine Rg.wp_region_facts GrewS [Rg.Fact.eq _ (.func (.func 90) #[] #[]),
              Rg.Fact.eq _ (.slice (some ⟨g, 0, none⟩) n cap),
              Rg.Fact.eq _ (.int .i64 k),
              Rg.Fact.eq _ (.pointer (some ⟨g, k * 7, none⟩)),
              Rg.Fact.eq _ (.agg #[.string (strOf x.c.name), .int .i64 x.c.op, .int .i64 x.c.v.k, .int .i64 x.c.v.n, .string (strOf x.c.v.s), .bool x.c.v.b, x.h]),
              Rg.Fact.eq _ (.slice (some ⟨g, 0, none⟩) n cap),
              Rg.Fact.eq _ (.int .i64 k),
              Rg.Fact.eq _ (.int .i64 ((k : Int) - 1)),
              Rg.Fact.eq _ (.pointer (some ⟨g, (k - 1) * 7, none⟩)),
              Rg.Fact.eq _ (.agg #[.string (strOf y.c.name), .int .i64 y.c.op, .int .i64 y.c.v.k, .int .i64 y.c.v.n, .string (strOf y.c.v.s), .bool y.c.v.b, y.h]),
              Rg.Fact.eq _ (.bool E)]
            [[], [], [], [(1, 19), (2, 20)], [(3, 21)], [], [], [(6, 24)], [(5, 23), (7, 25)], [(8, 26)], [(0, 18), (4, 22), (9, 27)]]
            [(0, 18), (1, 19), (2, 20), (3, 21), (4, 22), (5, 23), (6, 24), (7, 25), (8, 26), (9, 27), (10, 28)] (by kernel_rfl) (by kernel_rfl) ?_ ?_
          · refine ⟨?_, ?_, ?_, ?_, ?_, ?_, ?_, ?_, ?_, ?_, ?_, trivial⟩
            · intro w1 hx1; change wpList _ _ _ _ _ _; exact Rg.ob_move _ rfl rfl rfl rfl rfl
            · intro w1 hx1; change wpList _ _ _ _ _ _; exact Rg.ob_move _ rfl rfl rfl rfl rfl
            · intro w1 hx1; change wpList _ _ _ _ _ _; exact Rg.ob_move _ rfl rfl rfl rfl rfl
            · intro w1 hx1; rintro _ rfl; rintro _ rfl; change wpList _ _ _ _ _ _; go_wp2_with fail; exact ⟨rfl, GrewS.refl _, rfl, rfl⟩
            · intro w1 hx1; rintro _ rfl; change wpList _ _ _ _ _ _; have m0 := hx1.1.cell f0; have m1 := hx1.1.cell f1; have m2 := hx1.1.cell f2; have m3 := hx1.1.cell f3; have m4 := hx1.1.cell f4; have m5 := hx1.1.cell f5; have m6 := hx1.1.cell f6; go_wp2_with fail; exact ⟨rfl, GrewS.refl _, rfl, rfl⟩
            · intro w1 hx1; change wpList _ _ _ _ _ _; exact Rg.ob_move _ rfl rfl rfl rfl rfl
            · intro w1 hx1; change wpList _ _ _ _ _ _; exact Rg.ob_move _ rfl rfl rfl rfl rfl
            · intro w1 hx1; rintro _ rfl; change wpList _ _ _ _ _ _; go_wp2_with fail; exact ⟨rfl, GrewS.refl _, rfl, rfl⟩
            · intro w1 hx1; rintro _ rfl; rintro _ rfl; change wpList _ _ _ _ _ _; go_wp2_with fail; exact ⟨rfl, GrewS.refl _, rfl, rfl⟩
            · intro w1 hx1; rintro _ rfl; change wpList _ _ _ _ _ _; have m0 := hx1.1.cell g0; have m1 := hx1.1.cell g1; have m2 := hx1.1.cell g2; have m3 := hx1.1.cell g3; have m4 := hx1.1.cell g4; have m5 := hx1.1.cell g5; have m6 := hx1.1.cell g6; go_wp2_with fail; exact ⟨rfl, GrewS.refl _, rfl, rfl⟩
            · intro w1 hx1; rintro _ rfl; rintro _ rfl; rintro _ rfl; change wpList _ _ _ _ _ _; go_wp2_with fail; refine (hcall w1 hx1).mono ?_; rintro e w2 ⟨rfl, hx2⟩; go_wp2_with fail; exact ⟨rfl, hx2, rfl, rfl⟩
          · intro w1 hx1; rintro _ rfl; rintro _ rfl; rintro _ rfl; rintro _ rfl; rintro _ rfl; rintro _ rfl; rintro _ rfl; rintro _ rfl; rintro _ rfl; rintro _ rfl; rintro _ rfl; refine depsThen_nil ?_; dsimp only; simp only [Act.put, List.setIfInBounds_toArray, List.set_cons_zero, List.set_cons_succ]
            go_wp2_with fail
            go_meet
            exact ⟨rfl, _, rfl, hx1⟩
        case rest =>
          obtain ⟨rfl, w1, rfl, hx1⟩ := hcut
          clear f0 f1 f2 f3 f4 f5 f6 g0 g1 g2 g3 g4 g5 g6 hcall hi0 hi1 hi2
          obtain ⟨m, rfl⟩ : ∃ m, k = m + 1 := ⟨k - 1, by omega⟩
          have hct := compF_take (f := CS.c) (l := us) (n := m) k1
          have hxe : us[m + 1] = x := HX.out
          have hye : us[m] = y := HY.out
          have hown1 := Lib.hid (own_ext hown.out hx1.1)
          have hgr1 := Lib.hid (grown_ext hgr.out hx1.1)
          clear hown hgr
          cases E
          · have hne : us[m + 1].c ≠ us[m].c := by rw [hxe, hye]; exact of_decide_eq_false HE2.out.symm
            have hc2 : Hid (compF CS.c (us.take (m + 1 + 1)) = us.take (m + 1 + 1)) := by
              show _ = _
              rw [hct, if_neg hne, hc.out, ← List.take_succ_eq_append_getElem k1]
            clear hct hne HE2 hxe hye
            go_wp2_with fail
            go_roundw
            case rel => exact ⟨m + 2, by omega, by omega, by go_num, hc2, hown1.out, hgr1.out⟩
            case measure => simp [intOf]; omega
          · have heq : us[m + 1].c = us[m].c := by rw [hxe, hye]; exact of_decide_eq_true HE2.out.symm
            have hstart : Hid (CompInvF CS.c us us (m + 1) (m + 1 + 1)) := CompInvF.start k1 hc.out heq
            clear hct heq HE2 hxe hye HX HY
            have hcapn : m + 1 < cap := by omega
            have hne : ¬ cap = m + 1 := by omega
            go_wp2_with fail
            obtain ⟨d, hd⟩ : ∃ d, d = n - (m + 1) := ⟨_, rfl⟩
            obtain ⟨ce, hce⟩ : ∃ ce, ce = cap - (m + 1) := ⟨_, rfl⟩
            rw [← hd, ← hce]
            have hd1 : m + 1 + d = n := by omega
            have HD1 := Lib.hid hd1
            have hmn : m + 1 + d ≤ n := by omega
            have hd2 : d ≤ 1000000 := by omega
            have hd3 : d ≤ ce := by omega
            have hq0 : m + 1 ≤ n := by omega
            clear hd hce hd1 hx1
            go_loopw [5, 7] (fun kk jj wr => ∃ (q j : Nat) (r : List CS), 1 ≤ j ∧ j ≤ d ∧ q + 1 ≤ m + 1 + j ∧ kk = .int .i64 q ∧ jj = .int .i64 j ∧ Hid (CompInvF CS.c us r q (m + 1 + j)) ∧ Hid (wr.ownsRow base 94 7 (.slice (some ⟨g, 0, none⟩) n cap) n (r.flatMap csC)) ∧ Hid (w.grownBy wr (some g))) (fun _ jj _ => d - (intOf jj).toNat)
            case atStart => exact ⟨m + 1, 1, us, Nat.le_refl _, by have := HD1.out; omega, by omega, rfl, rfl, hstart, hown1.out, hgr1.out⟩
            case round =>
              clear hstart hown1 hgr1 hc hk1 hk
              obtain ⟨q, j, r, hj1, hj, hq, rfl, rfl, hinv, hown, hgr⟩ := hrel
              by_cases hlt2 : j < d
              · have hI2 : decide ((j : Int) < (d : Int)) = true := decide_eq_true (by omega)
                have hil : m + 1 + j < us.length := by rw [HN.out]; have := HD1.out; omega
                have k0 : m + 1 + j - 1 < us.length := by omega
                obtain ⟨r1, r2, er1, er2⟩ := hinv.out.at hil
                have hlr2 : n ≤ r.length := by have := hinv.out.len; have := HN.out; omega
                have hrow := Row.of_own hown.out
                obtain ⟨f0, f1, f2, f3, f4, f5, f6⟩ := cs_at hrow r1 (by omega)
                obtain ⟨g0, g1, g2, g3, g4, g5, g6⟩ := cs_at hrow r2 (by omega)
                rw [er1] at f0 f1 f2 f3 f4 f5 f6
                rw [er2] at g0 g1 g2 g3 g4 g5 g6
                have hsx := HSET.out wr us[m + 1 + j] hgr.out (List.getElem_mem hil)
                have hsy := HSET.out wr (us[m + 1 + j - 1]'k0) hgr.out (List.getElem_mem k0)
                have ea : (m + 1 + j) * 7 = (m + 1) * 7 + j * 7 := by omega
                have eb : (m + 1 + j - 1) * 7 = (m + 1) * 7 + (j - 1) * 7 := by omega
                simp only [ea] at f0 f1 f2 f3 f4 f5 f6
                simp only [eb] at g0 g1 g2 g3 g4 g5 g6
                obtain ⟨E, hE⟩ : ∃ E : Bool, E = decide (us[m + 1 + j].c = (us[m + 1 + j - 1]'k0).c) := ⟨_, rfl⟩
                have HE := Lib.hid hE
                have hsame := fun h => hinv.out.same hil h
                have hnext := fun h => hinv.out.next hil h
                have HS := Lib.hid hsame
                have HX := Lib.hid hnext
                have hcall : ∀ W, Grew wr W → Calls Tryz.prog 90 #[.agg #[.string (strOf us[m + 1 + j].c.name), .int .i64 us[m + 1 + j].c.op, .int .i64 us[m + 1 + j].c.v.k, .int .i64 us[m + 1 + j].c.v.n, .string (strOf us[m + 1 + j].c.v.s), .bool us[m + 1 + j].c.v.b, us[m + 1 + j].h], .agg #[.string (strOf (us[m + 1 + j - 1]'k0).c.name), .int .i64 (us[m + 1 + j - 1]'k0).c.op, .int .i64 (us[m + 1 + j - 1]'k0).c.v.k, .int .i64 (us[m + 1 + j - 1]'k0).c.v.n, .string (strOf (us[m + 1 + j - 1]'k0).c.v.s), .bool (us[m + 1 + j - 1]'k0).c.v.b, (us[m + 1 + j - 1]'k0).h]] W fun e w' => e = .returned (.bool E) ∧ Grew W w' := fun W hW => by
                  rw [HE.out]
                  exact eq119_cs W _ _ (hsx.ext hW.1) (hsy.ext hW.1)
                have HXO := Lib.hid (set_one hsx)
                clear hE ea eb er1 er2 r1 r2 hrow hsx hsy hsame hnext hinv
                generalize us[m + 1 + j] = x at *
                generalize us[m + 1 + j - 1]'k0 = y at *
                have hi0 : (0 : Int) ≤ (j : Int) - 1 := by omega
                have hi1 : (j : Int) - 1 < (d : Int) := by omega
                have hi2 : ((j : Int) - 1).toNat = j - 1 := by omega
                go_upto_region 11 with fail
                go_cut [49] from 38 to 49 (fun v49 wx => v49 = .bool (!E) ∧ ∃ w1, w1 = wx ∧ Grew wr w1)
                case first =>
                  clear HO HSET HN HX HS HE HD1 HXO hown hgr
                  refine Rg.wp_region_facts GrewS [Rg.Fact.eq _ (.func (.func 90) #[] #[]),
                      Rg.Fact.eq _ (.slice (some ⟨g, (m + 1) * 7, none⟩) d ce),
                      Rg.Fact.eq _ (.int .i64 j),
                      Rg.Fact.eq _ (.pointer (some ⟨g, (m + 1) * 7 + j * 7, none⟩)),
                      Rg.Fact.eq _ (.agg #[.string (strOf x.c.name), .int .i64 x.c.op, .int .i64 x.c.v.k, .int .i64 x.c.v.n, .string (strOf x.c.v.s), .bool x.c.v.b, x.h]),
                      Rg.Fact.eq _ (.slice (some ⟨g, (m + 1) * 7, none⟩) d ce),
                      Rg.Fact.eq _ (.int .i64 j),
                      Rg.Fact.eq _ (.int .i64 ((j : Int) - 1)),
                      Rg.Fact.eq _ (.pointer (some ⟨g, (m + 1) * 7 + (j - 1) * 7, none⟩)),
                      Rg.Fact.eq _ (.agg #[.string (strOf y.c.name), .int .i64 y.c.op, .int .i64 y.c.v.k, .int .i64 y.c.v.n, .string (strOf y.c.v.s), .bool y.c.v.b, y.h]),
                      Rg.Fact.eq _ (.bool E),
                      Rg.Fact.eq _ (.bool (!E))]
                    [[], [], [], [(1, 39), (2, 40)], [(3, 41)], [], [], [(6, 44)], [(5, 43), (7, 45)], [(8, 46)], [(0, 38), (4, 42), (9, 47)], [(10, 48)]]
                    [(0, 38), (1, 39), (2, 40), (3, 41), (4, 42), (5, 43), (6, 44), (7, 45), (8, 46), (9, 47), (10, 48), (11, 49)] (by kernel_rfl) (by kernel_rfl) ?_ ?_
                  · refine ⟨?_, ?_, ?_, ?_, ?_, ?_, ?_, ?_, ?_, ?_, ?_, ?_, trivial⟩
                    · intro w1 hx1; change wpList _ _ _ _ _ _; exact Rg.ob_move _ rfl rfl rfl rfl rfl
                    · intro w1 hx1; change wpList _ _ _ _ _ _; exact Rg.ob_move _ rfl rfl rfl rfl rfl
                    · intro w1 hx1; change wpList _ _ _ _ _ _; exact Rg.ob_move _ rfl rfl rfl rfl rfl
                    · intro w1 hx1; rintro _ rfl; rintro _ rfl; change wpList _ _ _ _ _ _; go_wp2_with fail; exact ⟨rfl, GrewS.refl _, rfl, rfl⟩
                    · intro w1 hx1; rintro _ rfl; change wpList _ _ _ _ _ _; have m0 := hx1.1.cell f0; have m1 := hx1.1.cell f1; have m2 := hx1.1.cell f2; have m3 := hx1.1.cell f3; have m4 := hx1.1.cell f4; have m5 := hx1.1.cell f5; have m6 := hx1.1.cell f6; go_wp2_with fail; exact ⟨rfl, GrewS.refl _, rfl, rfl⟩
                    · intro w1 hx1; change wpList _ _ _ _ _ _; exact Rg.ob_move _ rfl rfl rfl rfl rfl
                    · intro w1 hx1; change wpList _ _ _ _ _ _; exact Rg.ob_move _ rfl rfl rfl rfl rfl
                    · intro w1 hx1; rintro _ rfl; change wpList _ _ _ _ _ _; go_wp2_with fail; exact ⟨rfl, GrewS.refl _, rfl, rfl⟩
                    · intro w1 hx1; rintro _ rfl; rintro _ rfl; change wpList _ _ _ _ _ _; go_wp2_with fail; exact ⟨rfl, GrewS.refl _, rfl, rfl⟩
                    · intro w1 hx1; rintro _ rfl; change wpList _ _ _ _ _ _; have m0 := hx1.1.cell g0; have m1 := hx1.1.cell g1; have m2 := hx1.1.cell g2; have m3 := hx1.1.cell g3; have m4 := hx1.1.cell g4; have m5 := hx1.1.cell g5; have m6 := hx1.1.cell g6; go_wp2_with fail; exact ⟨rfl, GrewS.refl _, rfl, rfl⟩
                    · intro w1 hx1; rintro _ rfl; rintro _ rfl; rintro _ rfl; change wpList _ _ _ _ _ _; go_wp2_with fail; refine (hcall w1 hx1).mono ?_; rintro e w2 ⟨rfl, hx2⟩; go_wp2_with fail; exact ⟨rfl, hx2, rfl, rfl⟩
                    · intro w1 hx1; rintro _ rfl; change wpList _ _ _ _ _ _; go_wp2_with fail; exact ⟨rfl, GrewS.refl _, rfl, rfl⟩
                  · intro w1 hx1; rintro _ rfl; rintro _ rfl; rintro _ rfl; rintro _ rfl; rintro _ rfl; rintro _ rfl; rintro _ rfl; rintro _ rfl; rintro _ rfl; rintro _ rfl; rintro _ rfl; rintro _ rfl; refine depsThen_nil ?_; dsimp only; simp only [Act.put, List.setIfInBounds_toArray, List.set_cons_zero, List.set_cons_succ]
                    go_wp2_with fail
                    go_meet
                    exact ⟨rfl, _, rfl, hx1⟩
                case rest =>
                  obtain ⟨rfl, w1, rfl, hx1⟩ := hcut
                  have hown1 := Lib.hid (own_ext hown.out hx1.1)
                  have hgr1 := Lib.hid (grown_ext hgr.out hx1.1)
                  clear hown hgr hcall g0 g1 g2 g3 g4 g5 g6 hi0 hi1 hi2
                  cases E
                  · have hxy := of_decide_eq_false HE.out.symm
                    have hinv2 := Lib.hid (HX.out hxy)
                    clear hxy HS HX HE
                    have hql : q < r.length := by omega
                    have hth := own_there hown1.out q 7 (by omega)
                    have hset3 := own_set csC csC_len hown1.out q hql x
                    obtain ⟨wz, hwz⟩ : ∃ wz, w1.setCells g (q * 7) (csC x) = wz := ⟨_, rfl⟩
                    rw [hwz] at hset3
                    have HWZ := Lib.hid hwz
                    clear hwz
                    have HS3 := Lib.hid hset3.1
                    have HG3 := Lib.hid hset3.2
                    clear hset3
                    have f0 := hx1.1.cell f0; have f1 := hx1.1.cell f1; have f2 := hx1.1.cell f2; have f3 := hx1.1.cell f3; have f4 := hx1.1.cell f4; have f5 := hx1.1.cell f5; have f6 := hx1.1.cell f6
                    have hqn : q < n := by omega
                    clear hx1
                    have hone := cs_one x HXO.out
                    go_wp2_with (refine wpList_store_mid rfl 94 (.tmp 56) (.tmp 55) rfl g (q * 7) #[.string (strOf x.c.name), .int .i64 x.c.op, .int .i64 x.c.v.k, .int .i64 x.c.v.n, .string (strOf x.c.v.s), .bool x.c.v.b, x.h] rfl rfl hth size31 hone ?_; rw [show w1.setCells g (q * 7) (#[.string (strOf x.c.name), .int .i64 x.c.op, .int .i64 x.c.v.k, .int .i64 x.c.v.n, .string (strOf x.c.v.s), .bool x.c.v.b, x.h] : Array Value).toList = wz from HWZ.out])
                    go_roundw
                    case rel => (repeat apply Exists.intro); refine ⟨?_, rfl⟩; exact ⟨q + 1, j + 1, r.set q x, by omega, hlt2, by omega, by go_num, by go_num, hinv2, HS3.out, hgr1.out.trans HG3.out⟩
                    case measure => simp [intOf]; omega
                  · have hxy := of_decide_eq_true HE.out.symm
                    have hinv2 := Lib.hid (HS.out hxy)
                    clear hxy HS HX HE f0 f1 f2 f3 f4 f5 f6
                    clear hx1
                    go_wp2_with fail
                    go_roundw
                    case rel => exact ⟨q, j + 1, r, by omega, hlt2, by omega, rfl, by go_num, hinv2, hown1.out, hgr1.out⟩
                    case measure => simp [intOf]; omega
              · obtain rfl : j = d := by omega
                have hI2 : decide ((j : Int) < (j : Int)) = false := decide_eq_false (by omega)
                have hdone := hinv.out
                rw [HD1.out, ← HN.out] at hdone
                obtain ⟨ht, hlen⟩ := hdone.done
                have hqn : q < n := by omega
                have hqc : ¬ cap = q := by omega
                have hqc2 : q ≤ cap := by omega
                have hcl := run_clear_tail hown.out 116 (.agg #[.string ⟨#[]⟩, .int .i64 0, .int .i64 0, .int .i64 0, .string ⟨#[]⟩, .bool false, .slice none 0 0]) rfl (by simp [Value.cells, Value.oneCell']) Tryz.underlying116 zero31 q (cap - q) hqn
                have hfin := own_clear_tail hown.out (Nat.le_of_lt hqn) (.agg #[.string ⟨#[]⟩, .int .i64 0, .int .i64 0, .int .i64 0, .string ⟨#[]⟩, .bool false, .slice none 0 0]) rfl
                have hres : Hid ((r.flatMap csC).take (q * 7) = (compF CS.c us).flatMap csC) := by show _ = _; rw [flat_take csC 7 csC_len, ht]
                have HL := Lib.hid hlen
                have HF := Lib.hid hfin
                generalize wr.setCells g (q * 7) (Builtin.zeroCells (Value.agg #[.string ⟨#[]⟩, .int .i64 0, .int .i64 0, .int .i64 0, .string ⟨#[]⟩, .bool false, .slice none 0 0]).cells (n - q)).toList = wz at *
                clear ht hlen hfin hinv hdone
                go_wp2_with fail
                go_ret
                refine ⟨_, rfl, ?_, hgr.out.trans HF.out.2, rfl⟩
                rw [HL.out, ← hres.out]
                exact HF.out.1
      · obtain rfl : k = n := by omega
        have hI : decide ((k : Int) < (k : Int)) = false := decide_eq_false (by omega)
        have hce : Hid (compF CS.c us = us) := by
          have h := hc.out
          rw [List.take_of_length_le (by rw [HN.out]; exact Nat.le_refl _)] at h
          exact h
        go_wp2_with fail
        go_ret
        refine ⟨_, rfl, ?_, hgr.out, rfl⟩
        rw [hce.out, HN.out]
        exact hown.out
end Go.Proofs.YtaklnpjpndkccaaGreat

namespace Go.Proofs.YtaklnpjpndkccaaGreat
open Go.RowKit

/-- A constraint's set, made by the call from block b on. -/
def SetO (b : Nat) (w : World) (x : CS) : Prop := w.ownsRow b 80 4 x.h x.c.set.length (x.c.set.flatMap vC)
theorem SetO.set {b : Nat} {w : World} {x : CS} (h : SetO b w x) : SetR w x.h x.c.set := Row.of_own h
theorem SetO.ext {b : Nat} {w w' : World} {x : CS} (h : SetO b w x) (hx : Ext w w') : SetO b w' x := own_ext h hx
theorem SetO.keep {b base n : Nat} {w w' : World} {x : CS} {v : Value} {xs : List Value} (h : SetO b w x) (hv : w.ownsRow base 94 7 v n xs) (hg : w.grownBy w' v.ownBlock) : SetO b w' x := own_keep h hg (own_apart hv h (by decide))
theorem SetO.one {b : Nat} {w : World} {x : CS} (h : SetO b w x) : x.h.oneCell' = true := by obtain ⟨a, c, e, _⟩ := Row.shape h.set; rw [e]; rfl
theorem SetO.ne {b base n : Nat} {w : World} {x : CS} {v : Value} {xs : List Value} (h : SetO b w x) (hv : w.ownsRow base 94 7 v n xs) (hs : v.ownBlock ≠ none) : x.h.ownBlock ≠ v.ownBlock := by
  cases hq : x.h.ownBlock with
  | none => exact fun e => hs e.symm
  | some q => exact fun e => own_apart hv h (by decide) q hq e.symm
end Go.Proofs.YtaklnpjpndkccaaGreat
