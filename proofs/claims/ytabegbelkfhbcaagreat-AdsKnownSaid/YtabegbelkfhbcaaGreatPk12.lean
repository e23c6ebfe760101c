/- Regions: Some. (Four walks alike, printed by a program.)
The event that speaks against covering: Counter. (Printed by a program.)
Boxes of regions that a drawn region makes.
The names of either of both, and what both ask of them: asked. (Printed by a program.)
The iterator over the names of either of both (asked's second closure).
Apart.
Overlaps, Any.
A table of ads (23): All, Over, Wants, Forget. -/
import Derived.Laws.EntriesVeiled
import Derived.Test.YtabegbelkfhbcaaGreatPk11
import Derived.Test.YtabegbelkfhbcaaGreatPk3
import Derived.Test.YtabegbelkfhbcaaGreatPk5
import Derived.Test.YtabegbelkfhbcaaGreatPk10
import Derived.Test.YtabegbelkfhbcaaGreatPk4
import Derived.Test.YtabegbelkfhbcaaGreatPk9
import Derived.Test.YtabegbelkfhbcaaGreatPk6
namespace Go.Proofs.YtabegbelkfhbcaaGreat
open Go.RowKit

theorem info111s : (Tryz.prog.info? 111).map (·.size) = some 3 := by kernel_rfl
theorem idx55 (x y z : Value) (w : World) : (Instr.index 81 (.agg #[x, y, z]) (.int .i64 0)).run Tryz.prog w = .ok x w ∧ (Instr.index 81 (.agg #[x, y, z]) (.int .i64 1)).run Tryz.prog w = .ok y w ∧ (Instr.index 81 (.agg #[x, y, z]) (.int .i64 2)).run Tryz.prog w = .ok z w := ⟨by kernel_rfl, by kernel_rfl, by kernel_rfl⟩
theorem ent82 : ∀ args w, (callFunc 60 args).run Tryz.prog w = .ok (.enter 60 args) w := enters_of Tryz.func60 (by kernel_rfl) rfl
theorem ent84 : ∀ args w, (callFunc 62 args).run Tryz.prog w = .ok (.enter 62 args) w := enters_of Tryz.func62 (by kernel_rfl) rfl
theorem ent85 : ∀ args w, (callFunc 63 args).run Tryz.prog w = .ok (.enter 63 args) w := enters_of Tryz.func63 (by kernel_rfl) rfl
/-- The boxes of Some, as its loop begins. -/
theorem some_boxes (w : World) (R : Obj) : ∃ w1, (((w.alloc R).alloc (.cells #[.int .i64 0, .int .i64 0, .string ⟨#[]⟩, .bool false] 50)).alloc (.cells #[.nilFunc, .nilFunc, .nilFunc] 111)).setRow (w.heap.size + 1 + 1) #[.func (.func 60) #[] #[], .func (.func 62) #[] #[], .func (.func 63) #[] #[]] = w1 ∧ Ext w w1 ∧ w1.heap[w.heap.size]? = some R ∧ w1.heap[w.heap.size + 1]? = some (.cells #[.int .i64 0, .int .i64 0, .string ⟨#[]⟩, .bool false] 50 (0, 0)) ∧ w1.heap[w.heap.size + 1 + 1]? = some (.cells #[.func (.func 60) #[] #[], .func (.func 62) #[] #[], .func (.func 63) #[] #[]] 111 (0, 0)) ∧ (((w.alloc R).alloc (.cells #[.int .i64 0, .int .i64 0, .string ⟨#[]⟩, .bool false] 50)).alloc (.cells #[.nilFunc, .nilFunc, .nilFunc] 111)).heap[w.heap.size + 1 + 1]? = some (.cells #[.nilFunc, .nilFunc, .nilFunc] 111 (0, 0)) := by
  obtain ⟨hx0, hR, hT, hF⟩ := boxes3 w R (.cells #[.int .i64 0, .int .i64 0, .string ⟨#[]⟩, .bool false] 50) (.cells #[.nilFunc, .nilFunc, .nilFunc] 111)
  exact ⟨_, rfl, hx0.setRow (by omega) _, (setRow_other _ _ _ _ (by omega)).trans hR, (setRow_other _ _ _ _ (by omega)).trans hT, setRow_heap _ _ _ _ _ _ hF, hF⟩

set_option maxRecDepth 100000 in
set_option maxHeartbeats 8000000 in
theorem some_i (w : World) (vr : Value) (r : Rg) (h : RgR w vr r) (x : Sp) (l : List Sp) (hl : r.i = x :: l) (h8 : x.lo.a.length = 8) :
    Calls Tryz.prog 37 #[vr] w fun e w' => e = .returned (.tuple #[.agg #[.int .i64 1, .int .i64 ((wholeF x.lo.a : Int) - 9223372036854775808), .string ⟨#[]⟩, .bool false], .bool true]) ∧ Ext w w' := by
  obtain ⟨a1, c1, a2, c2, a3, c3, rfl, h1, h2, h3⟩ := h.ex
  obtain ⟨_, _, e1, hl1, hm1⟩ := Row.shape h1
  obtain ⟨_, _, e2, hl2, hm2⟩ := Row.shape h2
  obtain ⟨_, _, e3, hl3, hm3⟩ := Row.shape h3
  simp only [Value.slice.injEq, true_and] at e1 e2 e3
  obtain ⟨rfl, rfl⟩ := e1
  obtain ⟨rfl, rfl⟩ := e2
  obtain ⟨rfl, rfl⟩ := e3
  unfold maxLen at hm1 hm2 hm3
  obtain ⟨w1, hw1, hx0, hR, hT, hF, hF0⟩ := some_boxes w (.cells #[.slice a1 r.i.length c1, .slice a2 r.s.length c2, .slice a3 r.b.length c3, .bool r.odd] 83)
  have hn : 0 < r.i.length := by rw [hl]; simp
  obtain ⟨B, o, rfl, f0, f1, f2, f3⟩ := SpR.at (h1.ext hx0) hn
  have hB : B < w.heap.size := by
    obtain ⟨B', o', e', g0, _⟩ := SpR.at h1 hn
    cases e'
    exact World.block_lt_of_cell? w _ g0
  have hlo : r.i[0] = x := by simp [hl]
  rw [hlo] at f0 f1 f2 f3
  simp only [Nat.zero_mul, Nat.add_zero] at f0 f1 f2 f3
  have hd : decide ((0 : Int) < (r.i.length : Int)) = true := decide_eq_true (by omega)
  have r0 := cell_of_row _ _ 0 _ _ _ hR
  have r1 := cell_of_row _ _ 1 _ _ _ hR
  have r2 := cell_of_row _ _ 2 _ _ _ hR
  have r3 := cell_of_row _ _ 3 _ _ _ hR
  have HW1 := Lib.hid hw1
  have HT := Lib.hid hT
  have HF := Lib.hid hF
  have HF0 := Lib.hid hF0
  have hcl : ∀ W, Calls Tryz.prog 60 #[.string (strOf x.lo.a)] W fun e w' => e = .returned (.agg #[.int .i64 1, .int .i64 ((wholeF x.lo.a : Int) - 9223372036854775808), .string ⟨#[]⟩, .bool false]) ∧ Ext W w' := fun W => some82_any W x.lo.a h8
  have HCL := Lib.hid hcl
  clear hcl hlo hl
  clear h1 h2 h3 h hR hw1 hT hF hF0
  clear h8
  generalize r.i.length = n1 at *
  generalize r.s.length = n2 at *
  generalize r.b.length = n3 at *
  generalize (wholeF x.lo.a : Int) - 9223372036854775808 = N at *
  generalize r.odd = od at *
  have i0 := fun (x y z : Value) W => (idx55 x y z W).1
  have i1 := fun (x y z : Value) W => (idx55 x y z W).2.1
  have i2 := fun (x y z : Value) W => (idx55 x y z W).2.2
  go_enter Tryz.func37, Tryz.ntmps37
  go_wp2_with (refine wpList_store_whole 111 (.tmp 4) (.tmp 7) rfl rfl (w.heap.size + 1 + 1) rfl #[.func (.func 60) #[] #[], .func (.func 62) #[] #[], .func (.func 63) #[] #[]] rfl _ 111 HF0.out rfl info111s (by simp [Value.oneCell']) ?_; rw [HW1.out])
  refine wp_loop_rounds 4 ?_
  rw [rounds_succ]
  have q0 := cell_of_row _ _ 0 _ _ _ HF.out
  go_upto_region 6 with fail
  refine wp_region_chain 9 [Fact.eq (.int .i64 0),
      Fact.eq (.pointer (some ⟨w.heap.size + 1 + 1, 0, none⟩)),
      Fact.eq (.func (.func 60) #[] #[]),
      Fact.eq (.slice (some ⟨B, o, none⟩) n1 c1),
      Fact.eq (.pointer (some ⟨B, o, none⟩)),
      Fact.eq (.pointer (some ⟨B, o, none⟩)),
      Fact.eq (.pointer (some ⟨B, o, none⟩)),
      Fact.eq (.string (strOf x.lo.a)),
      Fact.eq (.agg #[.int .i64 1, .int .i64 N, .string ⟨#[]⟩, .bool false])]
    [[], [(0, 17)], [(1, 18)], [], [(3, 20)], [(4, 21)], [(5, 22)], [(6, 23)], [(2, 19), (7, 24)]]
    [(0, 17), (1, 18), (2, 19), (3, 20), (4, 21), (5, 22), (6, 23), (7, 24), (8, 25)] (by kernel_rfl) (by kernel_rfl) ?_ ?_
  · refine ⟨?_, ?_, ?_, ?_, ?_, ?_, ?_, ?_, ?_, trivial⟩
    · intro w1 hx1; change wpList _ _ _ _ _ _; exact ob_move rfl rfl rfl rfl rfl
    · intro w1 hx1; rintro _ rfl; change wpList _ _ _ _ _ _; go_wp2_with fail; exact ⟨rfl, Ext.refl _, rfl, rfl⟩
    · intro w1 hx1; rintro _ rfl; change wpList _ _ _ _ _ _; have m := hx1.cell q0; go_wp2_with fail; exact ⟨rfl, Ext.refl _, rfl, rfl⟩
    · intro w1 hx1; change wpList _ _ _ _ _ _; exact ob_move rfl rfl rfl rfl rfl
    · intro w1 hx1; rintro _ rfl; change wpList _ _ _ _ _ _; go_wp2_with fail; exact ⟨rfl, Ext.refl _, rfl, rfl⟩
    · intro w1 hx1; rintro _ rfl; change wpList _ _ _ _ _ _; go_wp2_with fail; exact ⟨rfl, Ext.refl _, rfl, rfl⟩
    · intro w1 hx1; rintro _ rfl; change wpList _ _ _ _ _ _; go_wp2_with fail; exact ⟨rfl, Ext.refl _, rfl, rfl⟩
    · intro w1 hx1; rintro _ rfl; change wpList _ _ _ _ _ _; have m := hx1.cell f0; go_wp2_with fail; exact ⟨rfl, Ext.refl _, rfl, rfl⟩
    · intro w1 hx1; rintro _ rfl; rintro _ rfl; change wpList _ _ _ _ _ _; go_wp2_with fail; refine (HCL.out w1).mono ?_; rintro e w2 ⟨rfl, hx2⟩; go_wp2_with fail; exact ⟨rfl, hx2, rfl, rfl⟩
  · intro w1 hx1; rintro _ rfl; rintro _ rfl; rintro _ rfl; rintro _ rfl; rintro _ rfl; rintro _ rfl; rintro _ rfl; rintro _ rfl; rintro _ rfl; refine depsThen_nil ?_; dsimp only; simp only [Act.put, List.setIfInBounds_toArray, List.set_cons_zero, List.set_cons_succ, List.drop_succ_cons, List.drop_zero]
    have HT1 := Lib.hid (block_later HT.out hx1)
    have hxw := hx0.trans hx1
    clear hx1 hx0
    go_wp2_with (refine wpList_store_whole 50 (.tmp 2) (.tmp 25) rfl rfl (w.heap.size + 1) rfl #[.int .i64 1, .int .i64 N, .string ⟨#[]⟩, .bool false] rfl _ 50 HT1.out rfl info50s (by simp [Value.oneCell']) ?_)
    have L := setRow_heap _ _ _ #[.int .i64 1, .int .i64 N, .string ⟨#[]⟩, .bool false] _ _ HT1.out
    have g0 := cell_of_row _ _ 0 _ _ _ L
    have g1 := cell_of_row _ _ 1 _ _ _ L
    have g2 := cell_of_row _ _ 2 _ _ _ L
    have g3 := cell_of_row _ _ 3 _ _ _ L
    refine bodyPost_ret (v := .tuple #[.agg #[.int .i64 1, .int .i64 N, .string ⟨#[]⟩, .bool false], .bool true]) (by simp [results, Tryz.results37, go_sem, g0, g1, g2, g3]) rfl ⟨rfl, hxw.setRow (by omega) _⟩

set_option maxRecDepth 100000 in
set_option maxHeartbeats 8000000 in
theorem some_s (w : World) (vr : Value) (r : Rg) (h : RgR w vr r) (hi0 : r.i = []) (x : Sp) (l : List Sp) (hl : r.s = x :: l) :
    Calls Tryz.prog 37 #[vr] w fun e w' => e = .returned (.tuple #[.agg #[.int .i64 2, .int .i64 0, .string (strOf x.lo.a), .bool false], .bool true]) ∧ Ext w w' := by
  obtain ⟨a1, c1, a2, c2, a3, c3, rfl, h1, h2, h3⟩ := h.ex
  obtain ⟨_, _, e1, hl1, hm1⟩ := Row.shape h1
  obtain ⟨_, _, e2, hl2, hm2⟩ := Row.shape h2
  obtain ⟨_, _, e3, hl3, hm3⟩ := Row.shape h3
  simp only [Value.slice.injEq, true_and] at e1 e2 e3
  obtain ⟨rfl, rfl⟩ := e1
  obtain ⟨rfl, rfl⟩ := e2
  obtain ⟨rfl, rfl⟩ := e3
  unfold maxLen at hm1 hm2 hm3
  obtain ⟨w1, hw1, hx0, hR, hT, hF, hF0⟩ := some_boxes w (.cells #[.slice a1 r.i.length c1, .slice a2 r.s.length c2, .slice a3 r.b.length c3, .bool r.odd] 83)
  have hn : 0 < r.s.length := by rw [hl]; simp
  obtain ⟨B, o, rfl, f0, f1, f2, f3⟩ := SpR.at (h2.ext hx0) hn
  have hB : B < w.heap.size := by
    obtain ⟨B', o', e', g0, _⟩ := SpR.at h2 hn
    cases e'
    exact World.block_lt_of_cell? w _ g0
  have hlo : r.s[0] = x := by simp [hl]
  rw [hlo] at f0 f1 f2 f3
  simp only [Nat.zero_mul, Nat.add_zero] at f0 f1 f2 f3
  have hd : decide ((0 : Int) < (r.s.length : Int)) = true := decide_eq_true (by omega)
  have r0 := cell_of_row _ _ 0 _ _ _ hR
  have r1 := cell_of_row _ _ 1 _ _ _ hR
  have r2 := cell_of_row _ _ 2 _ _ _ hR
  have r3 := cell_of_row _ _ 3 _ _ _ hR
  have HW1 := Lib.hid hw1
  have HT := Lib.hid hT
  have HF := Lib.hid hF
  have HF0 := Lib.hid hF0
  have hcl : ∀ W, Calls Tryz.prog 62 #[.string (strOf x.lo.a)] W fun e w' => e = .returned (.agg #[.int .i64 2, .int .i64 0, .string (strOf x.lo.a), .bool false]) ∧ Ext W w' := fun W => some84_any W x.lo.a
  have HCL := Lib.hid hcl
  clear hcl hlo hl
  clear h1 h2 h3 h hR hw1 hT hF hF0
  have zi : r.i.length = 0 := by rw [hi0]; rfl
  generalize r.i.length = n1 at *
  subst zi
  generalize r.s.length = n2 at *
  generalize r.b.length = n3 at *
  clear hi0
  generalize r.odd = od at *
  have i0 := fun (x y z : Value) W => (idx55 x y z W).1
  have i1 := fun (x y z : Value) W => (idx55 x y z W).2.1
  have i2 := fun (x y z : Value) W => (idx55 x y z W).2.2
  go_enter Tryz.func37, Tryz.ntmps37
  go_wp2_with (refine wpList_store_whole 111 (.tmp 4) (.tmp 7) rfl rfl (w.heap.size + 1 + 1) rfl #[.func (.func 60) #[] #[], .func (.func 62) #[] #[], .func (.func 63) #[] #[]] rfl _ 111 HF0.out rfl info111s (by simp [Value.oneCell']) ?_; rw [HW1.out])
  refine wp_loop_rounds 4 ?_
  rw [rounds_succ]
  go_wp2_with fail
  rw [rounds_succ]
  have q1 := cell_of_row _ _ 1 _ _ _ HF.out
  go_upto_region 6 with fail
  refine wp_region_chain 9 [Fact.eq (.int .i64 1),
      Fact.eq (.pointer (some ⟨w.heap.size + 1 + 1, 1, none⟩)),
      Fact.eq (.func (.func 62) #[] #[]),
      Fact.eq (.slice (some ⟨B, o, none⟩) n2 c2),
      Fact.eq (.pointer (some ⟨B, o, none⟩)),
      Fact.eq (.pointer (some ⟨B, o, none⟩)),
      Fact.eq (.pointer (some ⟨B, o, none⟩)),
      Fact.eq (.string (strOf x.lo.a)),
      Fact.eq (.agg #[.int .i64 2, .int .i64 0, .string (strOf x.lo.a), .bool false])]
    [[], [(0, 17)], [(1, 18)], [], [(3, 20)], [(4, 21)], [(5, 22)], [(6, 23)], [(2, 19), (7, 24)]]
    [(0, 17), (1, 18), (2, 19), (3, 20), (4, 21), (5, 22), (6, 23), (7, 24), (8, 25)] (by kernel_rfl) (by kernel_rfl) ?_ ?_
  · refine ⟨?_, ?_, ?_, ?_, ?_, ?_, ?_, ?_, ?_, trivial⟩
    · intro w1 hx1; change wpList _ _ _ _ _ _; exact ob_move rfl rfl rfl rfl rfl
    · intro w1 hx1; rintro _ rfl; change wpList _ _ _ _ _ _; go_wp2_with fail; exact ⟨rfl, Ext.refl _, rfl, rfl⟩
    · intro w1 hx1; rintro _ rfl; change wpList _ _ _ _ _ _; have m := hx1.cell q1; go_wp2_with fail; exact ⟨rfl, Ext.refl _, rfl, rfl⟩
    · intro w1 hx1; change wpList _ _ _ _ _ _; exact ob_move rfl rfl rfl rfl rfl
    · intro w1 hx1; rintro _ rfl; change wpList _ _ _ _ _ _; go_wp2_with fail; exact ⟨rfl, Ext.refl _, rfl, rfl⟩
    · intro w1 hx1; rintro _ rfl; change wpList _ _ _ _ _ _; go_wp2_with fail; exact ⟨rfl, Ext.refl _, rfl, rfl⟩
    · intro w1 hx1; rintro _ rfl; change wpList _ _ _ _ _ _; go_wp2_with fail; exact ⟨rfl, Ext.refl _, rfl, rfl⟩
    · intro w1 hx1; rintro _ rfl; change wpList _ _ _ _ _ _; have m := hx1.cell f0; go_wp2_with fail; exact ⟨rfl, Ext.refl _, rfl, rfl⟩
    · intro w1 hx1; rintro _ rfl; rintro _ rfl; change wpList _ _ _ _ _ _; go_wp2_with fail; refine (HCL.out w1).mono ?_; rintro e w2 ⟨rfl, hx2⟩; go_wp2_with fail; exact ⟨rfl, hx2, rfl, rfl⟩
  · intro w1 hx1; rintro _ rfl; rintro _ rfl; rintro _ rfl; rintro _ rfl; rintro _ rfl; rintro _ rfl; rintro _ rfl; rintro _ rfl; rintro _ rfl; refine depsThen_nil ?_; dsimp only; simp only [Act.put, List.setIfInBounds_toArray, List.set_cons_zero, List.set_cons_succ, List.drop_succ_cons, List.drop_zero]
    have HT1 := Lib.hid (block_later HT.out hx1)
    have hxw := hx0.trans hx1
    clear hx1 hx0
    go_wp2_with (refine wpList_store_whole 50 (.tmp 2) (.tmp 25) rfl rfl (w.heap.size + 1) rfl #[.int .i64 2, .int .i64 0, .string (strOf x.lo.a), .bool false] rfl _ 50 HT1.out rfl info50s (by simp [Value.oneCell']) ?_)
    have L := setRow_heap _ _ _ #[.int .i64 2, .int .i64 0, .string (strOf x.lo.a), .bool false] _ _ HT1.out
    have g0 := cell_of_row _ _ 0 _ _ _ L
    have g1 := cell_of_row _ _ 1 _ _ _ L
    have g2 := cell_of_row _ _ 2 _ _ _ L
    have g3 := cell_of_row _ _ 3 _ _ _ L
    refine bodyPost_ret (v := .tuple #[.agg #[.int .i64 2, .int .i64 0, .string (strOf x.lo.a), .bool false], .bool true]) (by simp [results, Tryz.results37, go_sem, g0, g1, g2, g3]) rfl ⟨rfl, hxw.setRow (by omega) _⟩

set_option maxRecDepth 100000 in
set_option maxHeartbeats 8000000 in
theorem some_b (w : World) (vr : Value) (r : Rg) (h : RgR w vr r) (hi0 : r.i = []) (hs0 : r.s = []) (x : Sp) (l : List Sp) (hl : r.b = x :: l) :
    Calls Tryz.prog 37 #[vr] w fun e w' => e = .returned (.tuple #[.agg #[.int .i64 3, .int .i64 0, .string ⟨#[]⟩, .bool (!x.lo.a.isEmpty)], .bool true]) ∧ Ext w w' := by
  obtain ⟨a1, c1, a2, c2, a3, c3, rfl, h1, h2, h3⟩ := h.ex
  obtain ⟨_, _, e1, hl1, hm1⟩ := Row.shape h1
  obtain ⟨_, _, e2, hl2, hm2⟩ := Row.shape h2
  obtain ⟨_, _, e3, hl3, hm3⟩ := Row.shape h3
  simp only [Value.slice.injEq, true_and] at e1 e2 e3
  obtain ⟨rfl, rfl⟩ := e1
  obtain ⟨rfl, rfl⟩ := e2
  obtain ⟨rfl, rfl⟩ := e3
  unfold maxLen at hm1 hm2 hm3
  obtain ⟨w1, hw1, hx0, hR, hT, hF, hF0⟩ := some_boxes w (.cells #[.slice a1 r.i.length c1, .slice a2 r.s.length c2, .slice a3 r.b.length c3, .bool r.odd] 83)
  have hn : 0 < r.b.length := by rw [hl]; simp
  obtain ⟨B, o, rfl, f0, f1, f2, f3⟩ := SpR.at (h3.ext hx0) hn
  have hB : B < w.heap.size := by
    obtain ⟨B', o', e', g0, _⟩ := SpR.at h3 hn
    cases e'
    exact World.block_lt_of_cell? w _ g0
  have hlo : r.b[0] = x := by simp [hl]
  rw [hlo] at f0 f1 f2 f3
  simp only [Nat.zero_mul, Nat.add_zero] at f0 f1 f2 f3
  have hd : decide ((0 : Int) < (r.b.length : Int)) = true := decide_eq_true (by omega)
  have r0 := cell_of_row _ _ 0 _ _ _ hR
  have r1 := cell_of_row _ _ 1 _ _ _ hR
  have r2 := cell_of_row _ _ 2 _ _ _ hR
  have r3 := cell_of_row _ _ 3 _ _ _ hR
  have HW1 := Lib.hid hw1
  have HT := Lib.hid hT
  have HF := Lib.hid hF
  have HF0 := Lib.hid hF0
  have hcl : ∀ W, Calls Tryz.prog 63 #[.string (strOf x.lo.a)] W fun e w' => e = .returned (.agg #[.int .i64 3, .int .i64 0, .string ⟨#[]⟩, .bool (!x.lo.a.isEmpty)]) ∧ Ext W w' := fun W => some85_any W x.lo.a
  have HCL := Lib.hid hcl
  clear hcl hlo hl
  clear h1 h2 h3 h hR hw1 hT hF hF0
  have zi : r.i.length = 0 := by rw [hi0]; rfl
  generalize r.i.length = n1 at *
  subst zi
  have zs : r.s.length = 0 := by rw [hs0]; rfl
  generalize r.s.length = n2 at *
  subst zs
  generalize r.b.length = n3 at *
  clear hi0 hs0
  generalize (!x.lo.a.isEmpty) = E at *
  generalize r.odd = od at *
  have i0 := fun (x y z : Value) W => (idx55 x y z W).1
  have i1 := fun (x y z : Value) W => (idx55 x y z W).2.1
  have i2 := fun (x y z : Value) W => (idx55 x y z W).2.2
  go_enter Tryz.func37, Tryz.ntmps37
  go_wp2_with (refine wpList_store_whole 111 (.tmp 4) (.tmp 7) rfl rfl (w.heap.size + 1 + 1) rfl #[.func (.func 60) #[] #[], .func (.func 62) #[] #[], .func (.func 63) #[] #[]] rfl _ 111 HF0.out rfl info111s (by simp [Value.oneCell']) ?_; rw [HW1.out])
  refine wp_loop_rounds 4 ?_
  rw [rounds_succ]
  go_wp2_with fail
  rw [rounds_succ]
  go_wp2_with fail
  rw [rounds_succ]
  have q2 := cell_of_row _ _ 2 _ _ _ HF.out
  go_upto_region 6 with fail
  refine wp_region_chain 9 [Fact.eq (.int .i64 2),
      Fact.eq (.pointer (some ⟨w.heap.size + 1 + 1, 2, none⟩)),
      Fact.eq (.func (.func 63) #[] #[]),
      Fact.eq (.slice (some ⟨B, o, none⟩) n3 c3),
      Fact.eq (.pointer (some ⟨B, o, none⟩)),
      Fact.eq (.pointer (some ⟨B, o, none⟩)),
      Fact.eq (.pointer (some ⟨B, o, none⟩)),
      Fact.eq (.string (strOf x.lo.a)),
      Fact.eq (.agg #[.int .i64 3, .int .i64 0, .string ⟨#[]⟩, .bool E])]
    [[], [(0, 17)], [(1, 18)], [], [(3, 20)], [(4, 21)], [(5, 22)], [(6, 23)], [(2, 19), (7, 24)]]
    [(0, 17), (1, 18), (2, 19), (3, 20), (4, 21), (5, 22), (6, 23), (7, 24), (8, 25)] (by kernel_rfl) (by kernel_rfl) ?_ ?_
  · refine ⟨?_, ?_, ?_, ?_, ?_, ?_, ?_, ?_, ?_, trivial⟩
    · intro w1 hx1; change wpList _ _ _ _ _ _; exact ob_move rfl rfl rfl rfl rfl
    · intro w1 hx1; rintro _ rfl; change wpList _ _ _ _ _ _; go_wp2_with fail; exact ⟨rfl, Ext.refl _, rfl, rfl⟩
    · intro w1 hx1; rintro _ rfl; change wpList _ _ _ _ _ _; have m := hx1.cell q2; go_wp2_with fail; exact ⟨rfl, Ext.refl _, rfl, rfl⟩
    · intro w1 hx1; change wpList _ _ _ _ _ _; exact ob_move rfl rfl rfl rfl rfl
    · intro w1 hx1; rintro _ rfl; change wpList _ _ _ _ _ _; go_wp2_with fail; exact ⟨rfl, Ext.refl _, rfl, rfl⟩
    · intro w1 hx1; rintro _ rfl; change wpList _ _ _ _ _ _; go_wp2_with fail; exact ⟨rfl, Ext.refl _, rfl, rfl⟩
    · intro w1 hx1; rintro _ rfl; change wpList _ _ _ _ _ _; go_wp2_with fail; exact ⟨rfl, Ext.refl _, rfl, rfl⟩
    · intro w1 hx1; rintro _ rfl; change wpList _ _ _ _ _ _; have m := hx1.cell f0; go_wp2_with fail; exact ⟨rfl, Ext.refl _, rfl, rfl⟩
    · intro w1 hx1; rintro _ rfl; rintro _ rfl; change wpList _ _ _ _ _ _; go_wp2_with fail; refine (HCL.out w1).mono ?_; rintro e w2 ⟨rfl, hx2⟩; go_wp2_with fail; exact ⟨rfl, hx2, rfl, rfl⟩
  · intro w1 hx1; rintro _ rfl; rintro _ rfl; rintro _ rfl; rintro _ rfl; rintro _ rfl; rintro _ rfl; rintro _ rfl; rintro _ rfl; rintro _ rfl; refine depsThen_nil ?_; dsimp only; simp only [Act.put, List.setIfInBounds_toArray, List.set_cons_zero, List.set_cons_succ, List.drop_succ_cons, List.drop_zero]
    have HT1 := Lib.hid (block_later HT.out hx1)
    have hxw := hx0.trans hx1
    clear hx1 hx0
    go_wp2_with (refine wpList_store_whole 50 (.tmp 2) (.tmp 25) rfl rfl (w.heap.size + 1) rfl #[.int .i64 3, .int .i64 0, .string ⟨#[]⟩, .bool E] rfl _ 50 HT1.out rfl info50s (by simp [Value.oneCell']) ?_)
    have L := setRow_heap _ _ _ #[.int .i64 3, .int .i64 0, .string ⟨#[]⟩, .bool E] _ _ HT1.out
    have g0 := cell_of_row _ _ 0 _ _ _ L
    have g1 := cell_of_row _ _ 1 _ _ _ L
    have g2 := cell_of_row _ _ 2 _ _ _ L
    have g3 := cell_of_row _ _ 3 _ _ _ L
    refine bodyPost_ret (v := .tuple #[.agg #[.int .i64 3, .int .i64 0, .string ⟨#[]⟩, .bool E], .bool true]) (by simp [results, Tryz.results37, go_sem, g0, g1, g2, g3]) rfl ⟨rfl, hxw.setRow (by omega) _⟩

set_option maxRecDepth 100000 in
set_option maxHeartbeats 8000000 in
theorem some_n (w : World) (vr : Value) (r : Rg) (h : RgR w vr r) (hi0 : r.i = []) (hs0 : r.s = []) (hb0 : r.b = []) :
    Calls Tryz.prog 37 #[vr] w fun e w' => e = .returned (.tuple #[.agg #[.int .i64 0, .int .i64 0, .string ⟨#[]⟩, .bool false], .bool r.odd]) ∧ Ext w w' := by
  obtain ⟨a1, c1, a2, c2, a3, c3, rfl, h1, h2, h3⟩ := h.ex
  obtain ⟨_, _, e1, hl1, hm1⟩ := Row.shape h1
  obtain ⟨_, _, e2, hl2, hm2⟩ := Row.shape h2
  obtain ⟨_, _, e3, hl3, hm3⟩ := Row.shape h3
  simp only [Value.slice.injEq, true_and] at e1 e2 e3
  obtain ⟨rfl, rfl⟩ := e1
  obtain ⟨rfl, rfl⟩ := e2
  obtain ⟨rfl, rfl⟩ := e3
  unfold maxLen at hm1 hm2 hm3
  obtain ⟨w1, hw1, hx0, hR, hT, hF, hF0⟩ := some_boxes w (.cells #[.slice a1 r.i.length c1, .slice a2 r.s.length c2, .slice a3 r.b.length c3, .bool r.odd] 83)
  have r0 := cell_of_row _ _ 0 _ _ _ hR
  have r1 := cell_of_row _ _ 1 _ _ _ hR
  have r2 := cell_of_row _ _ 2 _ _ _ hR
  have r3 := cell_of_row _ _ 3 _ _ _ hR
  have HW1 := Lib.hid hw1
  have HT := Lib.hid hT
  have HF := Lib.hid hF
  have HF0 := Lib.hid hF0
  clear h1 h2 h3 h hR hw1 hT hF hF0
  have zi : r.i.length = 0 := by rw [hi0]; rfl
  generalize r.i.length = n1 at *
  subst zi
  have zs : r.s.length = 0 := by rw [hs0]; rfl
  generalize r.s.length = n2 at *
  subst zs
  have zb : r.b.length = 0 := by rw [hb0]; rfl
  generalize r.b.length = n3 at *
  subst zb
  clear hi0 hs0 hb0
  generalize r.odd = od at *
  have i0 := fun (x y z : Value) W => (idx55 x y z W).1
  have i1 := fun (x y z : Value) W => (idx55 x y z W).2.1
  have i2 := fun (x y z : Value) W => (idx55 x y z W).2.2
  go_enter Tryz.func37, Tryz.ntmps37
  go_wp2_with (refine wpList_store_whole 111 (.tmp 4) (.tmp 7) rfl rfl (w.heap.size + 1 + 1) rfl #[.func (.func 60) #[] #[], .func (.func 62) #[] #[], .func (.func 63) #[] #[]] rfl _ 111 HF0.out rfl info111s (by simp [Value.oneCell']) ?_; rw [HW1.out])
  refine wp_loop_rounds 4 ?_
  rw [rounds_succ]
  go_wp2_with fail
  rw [rounds_succ]
  go_wp2_with fail
  rw [rounds_succ]
  go_wp2_with fail
  rw [rounds_succ]
  go_upto_region 8 with fail
  refine Rs.wp_region_facts (Step1 (w.heap.size + 1) (.cells #[.int .i64 0, .int .i64 0, .string ⟨#[]⟩, .bool false] 50 (0, 0))) [Rs.Fact.eq _ (.agg #[.int .i64 0, .int .i64 0, .string ⟨#[]⟩, .bool false]),
      Rs.Fact.eq _ (.pointer (some ⟨w.heap.size, 3, none⟩)),
      Rs.Fact.eq _ (.bool od),
      fact1 (w.heap.size + 1) (.cells #[.int .i64 0, .int .i64 0, .string ⟨#[]⟩, .bool false] 50 (0, 0)),
      Rs.Fact.eq _ (.bool od)]
    [[], [], [(1, 28)], [(0, 27)], [(2, 29)]]
    [(0, 27), (1, 28), (2, 29), (4, 3)] (by kernel_rfl) (by kernel_rfl) ?_ ?_
  · refine ⟨?_, ?_, ?_, ?_, ?_, trivial⟩
    · intro w1 hx1; change wpList _ _ _ _ _ _; go_wp2_with fail; exact ⟨rfl, (Step1 (w.heap.size + 1) (.cells #[.int .i64 0, .int .i64 0, .string ⟨#[]⟩, .bool false] 50 (0, 0))).refl _, rfl, rfl⟩
    · intro w1 hx1; change wpList _ _ _ _ _ _; go_wp2_with fail; exact ⟨rfl, (Step1 (w.heap.size + 1) (.cells #[.int .i64 0, .int .i64 0, .string ⟨#[]⟩, .bool false] 50 (0, 0))).refl _, rfl, rfl⟩
    · intro w1 hx1; rintro _ rfl; change wpList _ _ _ _ _ _; have m := hx1.cell r3 (by simp); go_wp2_with fail; exact ⟨rfl, (Step1 (w.heap.size + 1) (.cells #[.int .i64 0, .int .i64 0, .string ⟨#[]⟩, .bool false] 50 (0, 0))).refl _, rfl, rfl⟩
    · intro w1 hx1; rintro _ rfl; change wpList _ _ _ _ _ _; exact ob_put 50 _ _ #[.int .i64 0, .int .i64 0, .string ⟨#[]⟩, .bool false] _ 50 rfl rfl rfl rfl rfl rfl hx1 HT.out rfl info50s (by simp [Value.oneCell']) fun _ h1 h2 => ⟨h1, h2⟩
    · intro w1 hx1; rintro _ rfl; change wpList _ _ _ _ _ _; exact Rs.ob_assign _ rfl rfl rfl rfl rfl
  · intro w1 hx1 hno; rintro _ rfl; rintro _ rfl; rintro _ rfl; rintro _ rfl; refine depsThen_nil ?_; dsimp only; simp only [Act.put, List.setIfInBounds_toArray, List.set_cons_zero, List.set_cons_succ]
    have o3 : (fact1 (w.heap.size + 1) (.cells #[.int .i64 0, .int .i64 0, .string ⟨#[]⟩, .bool false] 50 (0, 0))).p undef w1 := hno 3 (by decide) rfl
    clear hno
    go_wp2_with fail
    have L := o3.2
    have g0 := cell_of_row _ _ 0 _ _ _ L
    have g1 := cell_of_row _ _ 1 _ _ _ L
    have g2 := cell_of_row _ _ 2 _ _ _ L
    have g3 := cell_of_row _ _ 3 _ _ _ L
    refine bodyPost_ret (v := .tuple #[.agg #[.int .i64 0, .int .i64 0, .string ⟨#[]⟩, .bool false], .bool od]) (by simp [results, Tryz.results37, go_sem, g0, g1, g2, g3]) rfl ⟨rfl, St1.ext hx0 hx1 (by omega)⟩

theorem some_any (w : World) (vr : Value) (r : Rg) (h : RgR w vr r) (hg : Good4 r) : Calls Tryz.prog 37 #[vr] w fun e w' => e = .returned (.tuple #[.agg #[.int .i64 (someR r).1.k, .int .i64 (someR r).1.n, .string (strOf (someR r).1.s), .bool (someR r).1.b], .bool (someR r).2]) ∧ Ext w w' := by
  unfold someR
  cases hi : r.i with
  | cons x l =>
    refine some_i w vr r h x l hi ?_
    obtain ⟨h1, _, h3⟩ := hg.i x (by rw [hi]; exact List.mem_cons_self)
    rcases h1 with h1 | h1
    · rw [lt_live h3] at h1; cases h1
    · exact h1
  | nil =>
    cases hs : r.s with
    | cons x l => exact some_s w vr r h hi x l hs
    | nil =>
      cases hb : r.b with
      | cons x l => exact some_b w vr r h hi hs x l hb
      | nil => exact some_n w vr r h hi hs hb
end Go.Proofs.YtabegbelkfhbcaaGreat

namespace Go.Proofs.YtabegbelkfhbcaaGreat
open Go.RowKit Go.Sort

def ctrS (p q : List C) (s : Bool × List (List UInt8 × V)) (n : List UInt8) : Bool × List (List UInt8 × V) :=
  if !s.1 && !((askedF q n).minus (askedF p n)).empty then (true, s.2 ++ [(n, (someR ((askedF q n).minus (askedF p n))).1)]) else (s.1, s.2 ++ [(n, (someR (askedF q n)).1)])
def ctrL (p q : List C) (l : List (List UInt8)) : Bool × List (List UInt8 × V) := l.foldl (ctrS p q) (false, [])
theorem ctrL_snoc (p q : List C) (l : List (List UInt8)) (n : List UInt8) : ctrL p q (l ++ [n]) = ctrS p q (ctrL p q l) n := by unfold ctrL; rw [List.foldl_append]; rfl
def counterF (p q : List C) : List (List UInt8 × V) × Bool := if !mayP p || !mayP q || coversF p q then ([], false) else ((ctrL p q (namesF q)).2, true)
theorem ctrL_len (p q : List C) (l : List (List UInt8)) : (ctrL p q l).2.length = l.length := by
  induction l using snocRec with
  | nil => rfl
  | snoc l n ih =>
    rw [ctrL_snoc]
    unfold ctrS
    split <;> simp [ih]

theorem insU_len (cf : List UInt8 → List UInt8 → Int) (x : List UInt8) : ∀ l : List (List UInt8), (insU cf x l).length ≤ l.length + 1
  | [] => by simp [insU]
  | y :: r => by
    have := insU_len cf x r
    unfold insU
    (repeat' split) <;> simp <;> omega
theorem names_len (p : List C) : (namesF p).length ≤ p.length := by
  unfold namesF
  rw [← List.length_map (f := C.name)]
  generalize p.map C.name = l
  induction l using snocRec with
  | nil => simp [sortU]
  | snoc l x ih =>
    rw [sortU_snoc, List.length_append]
    exact Nat.le_trans (insU_len _ _ _) (by simp; exact ih)
theorem own_cell {w : World} {base size n b : Nat} {e t : TypeId} {v : Value} {xs : List Value} {c : Array Value} {fr : Nat × Nat} (h : w.ownsRow base e size v n xs) (hb : w.heap[b]? = some (.cells c t fr)) (he : e ≠ t) (o : Nat) (u : Value) : (w.setCell ⟨b, o, none⟩ u).ownsRow base e size v n xs := by
  have hne := own_ne h hb he
  refine ⟨h.1, ?_⟩
  rcases h.2 with h0 | ⟨g, cap, cur, rfl, h1, h2, h3⟩
  · exact .inl h0
  · refine .inr ⟨g, cap, cur, rfl, h1, ?_, h3⟩
    rw [setCell_block_other w ⟨b, o, none⟩ u g (fun e => hne (by rw [e]; rfl))]
    exact h2
theorem own_setRow {w : World} {base size n b : Nat} {e t : TypeId} {v : Value} {xs : List Value} {c : Array Value} {fr : Nat × Nat} (h : w.ownsRow base e size v n xs) (hb : w.heap[b]? = some (.cells c t fr)) (he : e ≠ t) (cs : Array Value) : (w.setRow b cs).ownsRow base e size v n xs := by
  have hne := own_ne h hb he
  refine ⟨h.1, ?_⟩
  rcases h.2 with h0 | ⟨g, cap, cur, rfl, h1, h2, h3⟩
  · exact .inl h0
  · refine .inr ⟨g, cap, cur, rfl, h1, ?_, h3⟩
    rw [setRow_other w b g cs (fun e => hne (by rw [e]; rfl))]
    exact h2
theorem info52t : (Tryz.prog.info? 87).map (fun i => (i.zero, i.size, i.bytes)) = some (some (.agg #[.string ⟨#[]⟩, .int .i64 0, .int .i64 0, .string ⟨#[]⟩, .bool false]), 5, 56) := by kernel_rfl
theorem info58s : (Tryz.prog.info? 58).map (·.size) = some 2 := by kernel_rfl
theorem aC_one (x : List UInt8 × V) : ∀ u ∈ aC x, u.oneCell' = true := by
  intro u hu
  simp only [aC, List.mem_cons, List.not_mem_nil, or_false] at hu
  rcases hu with rfl | rfl | rfl | rfl | rfl <;> rfl
theorem attr_row (w : World) (x : List UInt8 × V) : Row (w.alloc (.cells #[.string (strOf x.1), .int .i64 x.2.k, .int .i64 x.2.n, .string (strOf x.2.s), .bool x.2.b] 87)) 5 (.slice (some ⟨w.heap.size, 0, none⟩) 1 1) 1 (aC x) :=
  Row.of_own (World.ownsRow_lit (base := w.heap.size) (e := 87) (size := 5) w #[.string (strOf x.1), .int .i64 x.2.k, .int .i64 x.2.n, .string (strOf x.2.s), .bool x.2.b] 1 (Nat.le_refl _) (by decide) rfl)

end Go.Proofs.YtabegbelkfhbcaaGreat

namespace Go.Proofs.YtabegbelkfhbcaaGreat
open Go.RowKit

/-- A box of the region's own. -/
def Fact.box (n : Nat) (cs : Array Value) (t : TypeId) : Fact := ⟨fun v w => ∃ b, v = .pointer (some ⟨b, 0, none⟩) ∧ n ≤ b ∧ w.heap[b]? = some (.cells cs t (0, 0)), fun _ _ _ hx ⟨b, h1, h2, h3⟩ => ⟨b, h1, h2, block_later h3 hx⟩⟩
theorem zero57 : ∀ w, Sem.run Tryz.prog (zeroValue 83) w = .ok (.agg #[.slice none 0 0, .slice none 0 0, .slice none 0 0, .bool false]) w := fun w => by kernel_rfl
theorem rgr_setRow {W : World} {v : Value} {r : Rg} (h : RgR W v r) {b : Nat} {cs c : Array Value} {t : TypeId} {fr : Nat × Nat} (hb : W.heap[b]? = some (.cells c t fr)) (hc : ∀ s, Value.string s ∉ c.toList) : RgR (W.setRow b cs) v r := by
  obtain ⟨a1, c1, a2, c2, a3, c3, e, h1, h2, h3⟩ := h.ex
  exact ⟨a1, c1, a2, c2, a3, c3, e, spr_setRow h1 hb hc, spr_setRow h2 hb hc, spr_setRow h3 hb hc⟩
def z57 : Array Value := #[.slice none 0 0, .slice none 0 0, .slice none 0 0, .bool false]
theorem z57_none : ∀ s, Value.string s ∉ z57.toList := by intro s h; simp [z57] at h
/-- Two boxes of regions, filled. -/
theorem two_filled {w w1 : World} {b c : Nat} {m l : Rg} {vm vl : Value} {cm cl : Array Value} (hx : Ext w w1) (hb : w.heap.size ≤ b) (hc : w.heap.size ≤ c) (hne : b ≠ c) (h1 : w1.heap[b]? = some (.cells z57 83 (0, 0))) (h2 : w1.heap[c]? = some (.cells z57 83 (0, 0)))
    (hm : RgR w1 vm m) (hl : RgR w1 vl l) :
    Ext w ((w1.setRow b cm).setRow c cl) ∧ ((w1.setRow b cm).setRow c cl).heap[b]? = some (.cells cm 83 (0, 0)) ∧ ((w1.setRow b cm).setRow c cl).heap[c]? = some (.cells cl 83 (0, 0)) ∧ (w1.setRow b cm).heap[c]? = some (.cells z57 83 (0, 0)) ∧
      RgR ((w1.setRow b cm).setRow c cl) vm m ∧ RgR ((w1.setRow b cm).setRow c cl) vl l := by
  have e1 := setRow_heap w1 b z57 cm 83 (0, 0) h1
  have e2 : (w1.setRow b cm).heap[c]? = some (.cells z57 83 (0, 0)) := (setRow_other w1 b c cm (Ne.symm hne)).trans h2
  have e3 := setRow_heap (w1.setRow b cm) c z57 cl 83 (0, 0) e2
  refine ⟨(hx.setRow hb _).setRow hc _, (setRow_other _ c b cl hne).trans e1, e3, e2, ?_, ?_⟩
  · exact rgr_setRow (rgr_setRow hm h1 z57_none) e2 z57_none
  · exact rgr_setRow (rgr_setRow hl h1 z57_none) e2 z57_none
theorem one_filled {w w1 : World} {b : Nat} {m : Rg} {vm : Value} {cm : Array Value} (hx : Ext w w1) (hb : w.heap.size ≤ b) (h1 : w1.heap[b]? = some (.cells z57 83 (0, 0))) (hm : RgR w1 vm m) :
    Ext w (w1.setRow b cm) ∧ (w1.setRow b cm).heap[b]? = some (.cells cm 83 (0, 0)) ∧ RgR (w1.setRow b cm) vm m :=
  ⟨hx.setRow hb _, setRow_heap w1 b z57 cm 83 (0, 0) h1, rgr_setRow hm h1 z57_none⟩
end Go.Proofs.YtabegbelkfhbcaaGreat

namespace Go.Proofs.YtabegbelkfhbcaaGreat
open Go.RowKit Go.Sort

def Fact.own (base : Nat) (l : List (List UInt8)) : Fact := ⟨fun v w => w.ownsRow base 9 1 v l.length (l.map stC), fun _ _ _ hx h => own_ext h hx⟩
theorem frozen_row {w : World} {b : Nat} {c : Array Value} {t : TypeId} (h : w.heap[b]? = some (.cells c t (0, 0))) (o : Nat) : w.frozen? ⟨b, o, none⟩ = false := by simp [World.frozen?, h]
theorem info100s : (Tryz.prog.info? 100).map (·.size) = some 1 := by kernel_rfl
theorem stC_one : ∀ (l : List (List UInt8)), ∀ u ∈ l.map stC, u.oneCell' = true := fun l u hu => by obtain ⟨x, _, rfl⟩ := List.mem_map.1 hu; rfl

theorem own_lt {w : World} {base size n : Nat} {e : TypeId} {v : Value} {xs : List Value} (h : w.ownsRow base e size v n xs) : ∀ k, v.ownBlock = some k → k < w.heap.size := by
  intro k hk
  rcases h.2 with ⟨rfl, _⟩ | ⟨g, cap, cur, rfl, hb, hg, _⟩
  · cases hk
  · have : g = k := by simpa [Value.ownBlock] using hk
    subst this
    exact (Array.getElem?_eq_some_iff.1 hg).1
/-- What the iterator stands on. -/
structure ItB (lo hi b6 : Nat) (vp vq v : Value) (l : List (List UInt8)) (W : World) : Prop where
  own : W.ownsRow lo 9 1 v l.length (l.map stC)
  olt : ∀ k, v.ownBlock = some k → lo ≤ k ∧ k < hi
  b6lo : lo ≤ b6
  b6hi : b6 < hi
  lohi : 2 ≤ lo ∧ lo < hi
  hb6 : W.heap[b6]? = some (.cells #[.func (.func 55) #[] #[.pointer (some ⟨lo - 2, 0, none⟩), .pointer (some ⟨lo - 1, 0, none⟩)]] 106 (0, 0))
  hbp : W.heap[lo - 2]? = some (.cells #[vp] 25 (0, 0))
  hbq : W.heap[lo - 1]? = some (.cells #[vq] 25 (0, 0))

set_option maxRecDepth 100000 in
set_option maxHeartbeats 16000000 in
theorem asked96_any (w : World) (vp vq : Value) (p q : List C) (hp : PredR w vp p) (hq : PredR w vq q) (hlp : p.length ≤ 6) (hlq : q.length ≤ 6) :
    Calls Tryz.prog 36 #[vp, vq] w fun e W => ∃ b5 b6 vn l, e = .returned (.func (.func 58) #[] #[.pointer (some ⟨b5, 0, none⟩), .pointer (some ⟨b6, 0, none⟩)]) ∧ compE l = bothF p q ∧ l.length ≤ 1000000 ∧
      Ext w W ∧ ItB (w.heap.size + 2) W.heap.size b6 vp vq vn l W ∧ w.heap.size + 2 ≤ b5 ∧ W.heap[b5]? = some (.cells #[vn] 100 (0, 0)) := by
  obtain ⟨ap, cp, rfl, _, _⟩ := hp.shape
  obtain ⟨aq, cq, rfl, _, _⟩ := hq.shape
  have hb : ∀ l' : List (List UInt8), l'.Perm (namesF p ++ namesF q) → (l'.Pairwise fun a b => Lib.compareBytes a b ≤ 0) → compE l' = bothF p q := fun l' h1 h2 => by
    unfold bothF
    refine compL_sorted wo_bytes h1 h2 (fun _ _ _ _ => bytes_zero) fun a _ b _ => ?_
    rw [decide_eq_true_iff]
    exact ⟨fun h => by rw [h]; exact wo_bytes.refl b, bytes_zero⟩
  have hn1 : (namesF p).length ≤ 6 := Nat.le_trans (names_len p) hlp
  have hn2 : (namesF q).length ≤ 6 := Nat.le_trans (names_len q) hlq
  have HN1 := Lib.hid (fun W (hx : Ext w W) => names_any W _ p (hp.ext hx) (by omega))
  have HN2 := Lib.hid (fun W (hx : Ext w W) => names_any W _ q (hq.ext hx) (by omega))
  have HB := Lib.hid hb
  clear hb hp hq
  generalize bothF p q = bo at *
  generalize namesF p = l1 at *
  generalize namesF q = l2 at *
  generalize p.length = pl at *
  generalize q.length = ql at *
  obtain ⟨hx0, hbp, hbq⟩ := boxes2 w (.cells #[.slice ap pl cp] 25) (.cells #[.slice aq ql cq] 25)
  have hsz : ((w.alloc (.cells #[.slice ap pl cp] 25)).alloc (.cells #[.slice aq ql cq] 25)).heap.size = w.heap.size + 2 := by simp
  go_enter Tryz.func36, Tryz.ntmps36
  go_upto_region 1 with fail
  generalize (w.alloc (.cells #[.slice ap pl cp] 25)).alloc (.cells #[.slice aq ql cq] 25) = w0 at *
  have HBP := Lib.hid hbp
  have HBQ := Lib.hid hbq
  have HSZ := Lib.hid hsz
  clear hbp hbq hsz
  refine wp_region_late 4 5 _ _ [Fact.eq (.slice ap pl cp),
      Fact.own w0.heap.size l1,
      Fact.eq (.slice aq ql cq),
      Fact.own w0.heap.size l2,
      Fact.any,
      Fact.box w0.heap.size #[.slice none 0 0] 100]
    [[], [(0, 7)], [], [(2, 9)]]
    [(0, 7), (1, 8), (2, 9), (3, 10)] (by kernel_rfl) rfl rfl rfl (by kernel_rfl) ?_ ?_ ?_ ?_
  · refine ⟨?_, ?_, ?_, ?_, trivial⟩
    · intro w1 hx1; change wpList _ _ _ _ _ _; have m0 := cell_of_row _ _ 0 _ _ _ (block_later HBP.out hx1); go_wp2_with fail; exact ⟨rfl, Ext.refl _, rfl, rfl⟩
    · intro w1 hx1; rintro _ rfl; change wpList _ _ _ _ _ _; go_wp2_with fail; refine (HN1.out w1 (hx0.trans hx1)).mono ?_; rintro e w2 ⟨va, rfl, hA2, hx2⟩; have hA3 := own_mono hA2 hx1.size; go_wp2_with fail; exact ⟨rfl, hx2, rfl, hA3⟩
    · intro w1 hx1; change wpList _ _ _ _ _ _; have m0 := cell_of_row _ _ 0 _ _ _ (block_later HBQ.out hx1); go_wp2_with fail; exact ⟨rfl, Ext.refl _, rfl, rfl⟩
    · intro w1 hx1; rintro _ rfl; change wpList _ _ _ _ _ _; go_wp2_with fail; refine (HN2.out w1 (hx0.trans hx1)).mono ?_; rintro e w2 ⟨va, rfl, hA2, hx2⟩; have hA3 := own_mono hA2 hx1.size; go_wp2_with fail; exact ⟨rfl, hx2, rfl, hA3⟩
  · intro w1 hx1; change wpList _ _ _ _ _ _; go_wp2_with fail; exact ⟨rfl, (Ext.refl _).alloc _, rfl, _, rfl, hx1.size, (boxes1 w1 _).2⟩
  · intro w1 hx1; rintro _ rfl; intro v8 h8; rintro _ rfl; intro v10 h10; intro v5 h5; refine depsThen_nil ?_; dsimp only; simp only [Act.put, List.setIfInBounds_toArray, List.set_cons_zero, List.set_cons_succ, List.drop_succ_cons, List.drop_zero]
    replace h8 : (Fact.own w0.heap.size l1).p v8 w1 := h8
    replace h10 : (Fact.own w0.heap.size l2).p v10 w1 := h10
    replace h5 : (Fact.box w0.heap.size #[.slice none 0 0] 100).p v5 w1 := h5
    have h8o : w1.ownsRow w0.heap.size 9 1 v8 l1.length (l1.map stC) := h8
    have h10o : Row w1 1 v10 l2.length (l2.map stC) := Row.of_own h10
    have H8 := Lib.hid h8o
    have H10 := Lib.hid h10o
    clear h8 h10 h8o h10o HN1 HN2
    obtain ⟨b5, rfl, hb5, hbox⟩ := h5
    have HBX := Lib.hid hbox
    clear hbox
    go_upto_region 2 with (at_builtin; refine wpList_append_row 100 9 (.tmp 8) (.tmp 10) rfl w0.heap.size _ 1 16 Tryz.underlying100 info9t rfl (by decide) rfl _ l1.length (l1.map stC) rfl H8.out l2.length (l2.map stC) H10.out (stC_one l2) (by omega) (by unfold maxLen; omega) hx1.size ?_; intro v' w' hown2 hg; obtain ⟨ao, co, rfl, _, _⟩ := Row.shape (own_row hown2); have HBX2 := Lib.hid ((hg.block b5 (Array.getElem?_eq_some_iff.1 HBX.out).1 (fun e => own_ne H8.out HBX.out (by decide) e.symm)).trans HBX.out); have mc := cell_of_row _ _ 0 _ _ _ HBX2.out; have mf : w'.frozen? ⟨b5, 0, none⟩ = false := frozen_row HBX2.out 0; have HO2 := Lib.hid hown2; have HG := Lib.hid hg; clear hown2 hg)
    have hxa : Ext w0 w' := hx1.grown_none HG.out (own_base H8.out)
    have hxb : Ext w0 (w'.setCell ⟨b5, 0, none⟩ (.slice ao (l1.length + l2.length) co)) := hxa.setCell (p := ⟨b5, 0, none⟩) hb5 _
    have hB5 : (w'.setCell ⟨b5, 0, none⟩ (.slice ao (l1.length + l2.length) co)).heap[b5]? = some (.cells #[.slice ao (l1.length + l2.length) co] 100 (0, 0)) := setCell_block w' b5 0 _ _ _ _ HBX2.out
    have hO3 := own_cell HO2.out HBX2.out (by decide) 0 (.slice ao (l1.length + l2.length) co)
    clear mc mf
    generalize w'.setCell ⟨b5, 0, none⟩ (.slice ao (l1.length + l2.length) co) = w3 at *
    have hlen : (l1 ++ l2).length = l1.length + l2.length := List.length_append
    have hO4 := hO3
    rw [← List.map_append, ← hlen] at hO4
    have hsort := Lib.hid (sortSt_any w3 w0.heap.size _ (l1 ++ l2) hO4 (by omega))
    rw [hlen] at hsort
    have HB5 := Lib.hid hB5
    have HO4 := Lib.hid hO4
    rw [hlen] at HO4
    have m5 := cell_of_row _ _ 0 _ _ _ hB5
    have hne : (Value.slice ao (l1.length + l2.length) co).ownBlock ≠ some b5 := own_ne hO3 hB5 (by decide)
    have hbase := own_base hO3
    have HNE := Lib.hid hne
    have HBA := Lib.hid hbase
    clear hB5 hO3 hO4 hxa hne hbase
    go_wp2_with fail
    refine hsort.out.mono ?_
    rintro e w4 ⟨rfl, l', q1, q2, q3, q4⟩
    clear m5
    have hx4 : Ext w0 w4 := hxb.grown_none q4 HBA.out
    have hB5' : w4.heap[b5]? = some (.cells #[.slice ao (l1.length + l2.length) co] 100 (0, 0)) := (q4.block b5 (Array.getElem?_eq_some_iff.1 HB5.out).1 (fun e => HNE.out e.symm)).trans HB5.out
    obtain ⟨hx5, hb6⟩ := boxes1 w4 (.cells #[.func (.func 55) #[] #[.pointer (some ⟨w.heap.size, 0, none⟩), .pointer (some ⟨w.heap.size + 1, 0, none⟩)]] 106)
    have hx6 := hx4.trans hx5
    have hl' : l'.length = l1.length + l2.length := by rw [q1.length_eq, hlen]
    have hcomp := HB.out l' q1 q2
    have Q3 := Lib.hid (own_ext q3 hx5)
    have hlt : ∀ k, (Value.slice ao (l1.length + l2.length) co).ownBlock = some k → w.heap.size + 2 ≤ k ∧ k < w4.heap.size := fun k hk => by
      have h1 := HBA.out k hk
      rw [HSZ.out] at h1
      exact ⟨h1, own_lt q3 k hk⟩
    have HLT := Lib.hid hlt
    have hw4 : w.heap.size + 2 ≤ w4.heap.size := by have := hx4.size; rw [HSZ.out] at this; exact this
    have HB5' := Lib.hid hB5'
    have HB6 := Lib.hid hb6
    have HL' := Lib.hid hl'
    have HCO := Lib.hid hcomp
    have HW4 := Lib.hid hw4
    clear q1 q2 q3 q4 hlt hsort hB5' hb6 hl' hcomp hw4
    go_wp2_with fail
    go_ret
    refine ⟨b5, w4.heap.size, .slice ao (l1.length + l2.length) co, l', rfl, HCO.out, by rw [HL'.out]; omega, hx0.trans hx6, ?_, by have := hb5; rw [HSZ.out] at this; exact this, block_later HB5'.out hx5⟩
    have hsz5 : (w4.alloc (.cells #[.func (.func 55) #[] #[.pointer (some ⟨w.heap.size, 0, none⟩), .pointer (some ⟨w.heap.size + 1, 0, none⟩)]] 106)).heap.size = w4.heap.size + 1 := by simp
    refine ⟨?_, fun k hk => ?_, HW4.out, by rw [hsz5]; omega, ⟨by omega, by have := HW4.out; rw [hsz5]; omega⟩, HB6.out, block_later HBP.out hx6, block_later HBQ.out hx6⟩
    · rw [HL'.out]
      have := Q3.out
      rw [HSZ.out] at this
      exact this
    · have := HLT.out k hk
      rw [hsz5]; omega
  · intro w1 hx1; rintro _ rfl; intro v8 h8; rintro _ rfl; intro v10 h10; refine depsThen_nil ?_; dsimp only; simp only [Act.put, List.setIfInBounds_toArray, List.set_cons_zero, List.set_cons_succ, List.drop_succ_cons, List.drop_zero]
    replace h8 : (Fact.own w0.heap.size l1).p v8 w1 := h8
    replace h10 : (Fact.own w0.heap.size l2).p v10 w1 := h10
    have h8o : w1.ownsRow w0.heap.size 9 1 v8 l1.length (l1.map stC) := h8
    have h10o : Row w1 1 v10 l2.length (l2.map stC) := Row.of_own h10
    have H8 := Lib.hid h8o
    have H10 := Lib.hid h10o
    clear h8 h10 h8o h10o HN1 HN2
    go_upto_region 2 with (at_builtin; refine wpList_append_row 100 9 (.tmp 8) (.tmp 10) rfl w0.heap.size _ 1 16 Tryz.underlying100 info9t rfl (by decide) rfl _ l1.length (l1.map stC) rfl H8.out l2.length (l2.map stC) H10.out (stC_one l2) (by omega) (by unfold maxLen; omega) hx1.size ?_; intro v' w' hown2 hg; obtain ⟨ao, co, rfl, _, _⟩ := Row.shape (own_row hown2); have HO2 := Lib.hid hown2; have HG := Lib.hid hg; clear hown2 hg)
    have hxa : Ext w0 w' := hx1.grown_none HG.out (own_base H8.out)
    obtain ⟨hxc, hB5⟩ := boxes1 w' (.cells #[.slice ao (l1.length + l2.length) co] 100)
    have hxb := hxa.trans hxc
    have hb5 := hxa.size
    have hO3 := own_ext HO2.out hxc
    generalize w'.alloc (.cells #[.slice ao (l1.length + l2.length) co] 100) = w3 at *
    generalize w'.heap.size = b5 at *
    have hlen : (l1 ++ l2).length = l1.length + l2.length := List.length_append
    have hO4 := hO3
    rw [← List.map_append, ← hlen] at hO4
    have hsort := Lib.hid (sortSt_any w3 w0.heap.size _ (l1 ++ l2) hO4 (by omega))
    rw [hlen] at hsort
    have HB5 := Lib.hid hB5
    have HO4 := Lib.hid hO4
    rw [hlen] at HO4
    have m5 := cell_of_row _ _ 0 _ _ _ hB5
    have hne : (Value.slice ao (l1.length + l2.length) co).ownBlock ≠ some b5 := own_ne hO3 hB5 (by decide)
    have hbase := own_base hO3
    have HNE := Lib.hid hne
    have HBA := Lib.hid hbase
    clear hB5 hO3 hO4 hxa hne hbase
    go_wp2_with fail
    refine hsort.out.mono ?_
    rintro e w4 ⟨rfl, l', q1, q2, q3, q4⟩
    clear m5
    have hx4 : Ext w0 w4 := hxb.grown_none q4 HBA.out
    have hB5' : w4.heap[b5]? = some (.cells #[.slice ao (l1.length + l2.length) co] 100 (0, 0)) := (q4.block b5 (Array.getElem?_eq_some_iff.1 HB5.out).1 (fun e => HNE.out e.symm)).trans HB5.out
    obtain ⟨hx5, hb6⟩ := boxes1 w4 (.cells #[.func (.func 55) #[] #[.pointer (some ⟨w.heap.size, 0, none⟩), .pointer (some ⟨w.heap.size + 1, 0, none⟩)]] 106)
    have hx6 := hx4.trans hx5
    have hl' : l'.length = l1.length + l2.length := by rw [q1.length_eq, hlen]
    have hcomp := HB.out l' q1 q2
    have Q3 := Lib.hid (own_ext q3 hx5)
    have hlt : ∀ k, (Value.slice ao (l1.length + l2.length) co).ownBlock = some k → w.heap.size + 2 ≤ k ∧ k < w4.heap.size := fun k hk => by
      have h1 := HBA.out k hk
      rw [HSZ.out] at h1
      exact ⟨h1, own_lt q3 k hk⟩
    have HLT := Lib.hid hlt
    have hw4 : w.heap.size + 2 ≤ w4.heap.size := by have := hx4.size; rw [HSZ.out] at this; exact this
    have HB5' := Lib.hid hB5'
    have HB6 := Lib.hid hb6
    have HL' := Lib.hid hl'
    have HCO := Lib.hid hcomp
    have HW4 := Lib.hid hw4
    clear q1 q2 q3 q4 hlt hsort hB5' hb6 hl' hcomp hw4
    go_wp2_with fail
    go_ret
    refine ⟨b5, w4.heap.size, .slice ao (l1.length + l2.length) co, l', rfl, HCO.out, by rw [HL'.out]; omega, hx0.trans hx6, ?_, by have := hb5; rw [HSZ.out] at this; exact this, block_later HB5'.out hx5⟩
    have hsz5 : (w4.alloc (.cells #[.func (.func 55) #[] #[.pointer (some ⟨w.heap.size, 0, none⟩), .pointer (some ⟨w.heap.size + 1, 0, none⟩)]] 106)).heap.size = w4.heap.size + 1 := by simp
    refine ⟨?_, fun k hk => ?_, HW4.out, by rw [hsz5]; omega, ⟨by omega, by have := HW4.out; rw [hsz5]; omega⟩, HB6.out, block_later HBP.out hx6, block_later HBQ.out hx6⟩
    · rw [HL'.out]
      have := Q3.out
      rw [HSZ.out] at this
      exact this
    · have := HLT.out k hk
      rw [hsz5]; omega
end Go.Proofs.YtabegbelkfhbcaaGreat

namespace Go.Proofs.YtabegbelkfhbcaaGreat
open Go.RowKit Go.Sort Go.Shelf
attribute [local go_sem] Oper.semAt_some

theorem ItB.keeps {S : Nat → Prop} {lo hi b6 : Nat} {vp vq v : Value} {l : List (List UInt8)} {W W' : World} (h : ItB lo hi b6 vp vq v l W) (hk : Keeps S W W') (hS : ∀ k, S k → k + 2 < lo ∨ hi ≤ k) : ItB lo hi b6 vp vq v l W' := by
  have h2 := h.lohi
  have h3 := h.b6lo
  have h4 := h.b6hi
  refine ⟨own_keeps h.own hk fun k hs e => ?_, h.olt, h3, h4, h2, hk.heap h.hb6 fun e => ?_, hk.heap h.hbp fun e => ?_, hk.heap h.hbq fun e => ?_⟩
  · have := h.olt k e; have := hS k hs; omega
  · have := hS _ e; omega
  · have := hS _ e; omega
  · have := hS _ e; omega

set_option maxRecDepth 100000 in
set_option maxHeartbeats 4000000 in
theorem iter_any (n l : Nat) (w0 : World) (p q : List C) (vp vq : Value) (hp : PredR w0 vp p) (hq : PredR w0 vq q) (kp : ∀ c ∈ p, okC c) (kq : ∀ c ∈ q, okC c) (lo hi b5 b6 : Nat) (hlo : w0.heap.size + 2 ≤ lo)
    (vn : Value) (l0 names : List (List UInt8)) (hnames : compE l0 = names) (hl0 : l0.length ≤ 1000000)
    (U : List (List UInt8) → World → Prop) (D : World → Prop)
    (hU : ∀ pre W W', U pre W → Keeps (fun k => lo ≤ k ∧ k < hi) W W' → U pre W')
    (hY : ∀ pre nm rest vc v W, names = pre ++ nm :: rest → Ext w0 W → ItB lo hi b6 vp vq vc names W → U pre W → RgR W v ((askedF p nm).and (askedF q nm)) →
      YieldAt Fence.wide (n - 1) Tryz.prog l #[.string (strOf nm), v] W fun e W' => (e = .returned (.bool true) ∧ Ext w0 W' ∧ ItB lo hi b6 vp vq vc names W' ∧ U (pre ++ [nm]) W') ∨ (e = .returned (.bool false) ∧ D W'))
    (W : World) (hx : Ext w0 W) (hI : ItB lo hi b6 vp vq vn l0 W) (hb5 : W.heap[b5]? = some (.cells #[vn] 100 (0, 0))) (h0 : U [] W) :
    CallsIn Fence.wide n Tryz.prog 58 #[.func (.yield l) #[] #[], .pointer (some ⟨b5, 0, none⟩), .pointer (some ⟨b6, 0, none⟩)] W fun e W' =>
      (∃ x, e = .returned x) ∧ ((Ext w0 W' ∧ U names W') ∨ D W') := by
  obtain ⟨a0, c0, rfl, _, _⟩ := Row.shape (own_row hI.own)
  have hcomp := compactSt_any W lo _ l0 hI.own hl0
  rw [hnames] at hcomp
  have HC := Lib.hid hcomp
  have m5 := cell_of_row _ _ 0 _ _ _ hb5
  have HI := Lib.hid hI
  have HN := Lib.hid hnames
  clear hcomp hI hb5 hnames
  refine callsIn_of_wp Tryz.func58 rfl trivial ?_ rfl
  simp only [Tryz.ntmps58, List.size_toArray, List.length_cons, List.length_nil, Nat.reduceAdd, Nat.reduceSub, Array.replicate_succ, Array.replicate_zero, List.push_toArray, List.append_toArray, List.nil_append, List.cons_append]
  gi_wp2_with fail
  refine ⟨trivial, fun h => (by cases h), ?_⟩
  refine CallsIn.mono (callsIn_wide.2 HC.out) ?_
  rintro e W1 ⟨vc, rfl, hown, hg, hob⟩
  clear m5
  have hK1 : Keeps (fun k => lo ≤ k ∧ k < hi) W W1 := Keeps.of_grown hg (fun k e => HI.out.olt k e)
  have hK2 : Keeps (fun k => (Value.slice a0 l0.length c0).ownBlock = some k) W W1 := Keeps.of_grown hg (fun k e => e)
  have hx1 : Ext w0 W1 := hK1.ext hx (fun k hk => by omega)
  have hU1 : U [] W1 := hU _ _ _ h0 hK1
  have hI1 : ItB lo hi b6 vp vq vc names W1 := by
    have h2 := HI.out.lohi
    refine ⟨hown, fun k e => HI.out.olt k (by rw [← hob]; exact e), HI.out.b6lo, HI.out.b6hi, h2, hK2.heap HI.out.hb6 fun e => ?_, hK1.heap HI.out.hbp fun e => by omega, hK1.heap HI.out.hbq fun e => by omega⟩
    exact own_ne HI.out.own HI.out.hb6 (by decide) e
  obtain ⟨a, cap, rfl, _, _⟩ := Row.shape (own_row hown)
  clear hown hg hob hK1 hK2 HI HC h0 hx
  have hcap : names.length ≤ 9000000000000000000 := by
    have : names.length ≤ l0.length := by rw [← HN.out]; exact compE_len _ l0 (Nat.le_refl _)
    omega
  generalize hNN : names.length = N at *
  have HNN := Lib.hid hNN
  clear hNN
  gi_wp2_with fail
  gi_loopw [9] (fun i wr => ∃ k : Nat, k ≤ N ∧ i = .int .i64 k ∧ Hid (Ext w0 wr ∧ ItB lo hi b6 vp vq (.slice a N cap) names wr ∧ U (names.take k) wr)) (fun i _ => N - (intOf i).toNat)
  case atStart => exact ⟨0, Nat.zero_le _, rfl, ⟨hx1, hI1, hU1⟩⟩
  case round =>
    clear hx1 hI1 hU1
    obtain ⟨k, hk, rfl, hst⟩ := hrel
    by_cases hlt : k < N
    · have hD : decide ((k : Int) < (N : Int)) = true := decide_eq_true (by omega)
      have hkl : k < names.length := by rw [HNN.out]; exact hlt
      have hrow : StrR wr (.slice a N cap) names := own_row hst.out.2.1.own
      obtain ⟨B, o, rfl, f0⟩ := StrR.at hrow hkl
      have m6 := cell_of_row _ _ 0 _ _ _ hst.out.2.1.hb6
      have hsp : names = names.take k ++ names[k] :: names.drop (k + 1) := by
        rw [← List.drop_eq_getElem_cons hkl, List.take_append_drop]
      have hnx : names.take (k + 1) = names.take k ++ [names[k]] := List.take_succ_eq_append_getElem hkl
      have hboth := both_any wr (lo - 2) (lo - 1) vp vq p q names[k] hst.out.2.1.hbp hst.out.2.1.hbq (hp.ext hst.out.1) (hq.ext hst.out.1) kp kq
      have HB := Lib.hid hboth
      have HSP := Lib.hid hsp
      have HNX := Lib.hid hnx
      clear hboth hsp hnx hrow
      generalize names[k] = nm at *
      gi_wp2_with fail
      refine ⟨trivial, fun h => (by cases h), ?_⟩
      refine CallsIn.mono (callsIn_wide.2 HB.out) ?_
      rintro e W2 ⟨vr, rfl, hvr, hx2⟩
      clear f0 m6
      have hI2 := hst.out.2.1.keeps (Keeps.of_ext (S := fun _ => False) hx2) (fun _ h => h.elim)
      have hU2 := hU _ _ _ hst.out.2.2 (Keeps.of_ext hx2)
      have hx3 := hst.out.1.trans hx2
      obtain ⟨fn, tmps, assign, body, hy, hR⟩ := hY _ nm _ _ vr W2 HSP.out hx3 hI2 hU2 hvr
      clear hI2 hU2 hx3 hx2 hvr
      gi_wp2_with fail
      refine ⟨fun h => (by cases h), ?_⟩
      refine hR.mono ?_
      rintro e W4 (⟨rfl, hx4, hI4, hU4⟩ | ⟨rfl, hd⟩)
      · have HS := Lib.hid (And.intro hx4 (And.intro hI4 hU4))
        clear hx4 hI4 hU4
        gi_wp2_with fail
        go_roundw
        case rel =>
          refine ⟨k + 1, hlt, by go_num, HS.out.1, HS.out.2.1, ?_⟩
          rw [HNX.out]; exact HS.out.2.2
        case measure => simp [intOf]; omega
      · have HD := Lib.hid hd
        clear hd
        gi_wp2_with fail
        exact bodyPost_ret (results_none (fn := Tryz.f58) rfl _ _ _) rfl ⟨⟨_, rfl⟩, .inr HD.out⟩
    · obtain rfl : k = N := by omega
      have hD : decide ((k : Int) < (k : Int)) = false := decide_eq_false (by omega)
      gi_wp2_with fail
      go_end0
      refine ⟨⟨_, rfl⟩, .inl ⟨hst.out.1, ?_⟩⟩
      have := hst.out.2.2
      rwa [List.take_of_length_le (by rw [HNN.out]; exact Nat.le_refl _)] at this
end Go.Proofs.YtabegbelkfhbcaaGreat

namespace Go.Proofs.YtabegbelkfhbcaaGreat
open Go.RowKit Go.Sort Go.Shelf
attribute [local go_sem] Oper.semAt_some

theorem row_keeps {S : Nat → Prop} {W W' : World} {size n : Nat} {v : Value} {xs : List Value} (h : Row W size v n xs) (hk : Keeps S W W') (hS : ∀ k, S k → ∃ r, W.heap[k]? = some (.loop r)) : Row W' size v n xs := by
  obtain ⟨h1, a, cap, e, h3, h4, h5, h6, h7⟩ := h
  refine ⟨h1, a, cap, e, h3, h4, h5, h6, fun j u hj => ?_⟩
  obtain ⟨p, e2, hcl⟩ := h7 j u hj
  refine ⟨p, e2, ?_⟩
  refine (World.cell?_of_block (hk.block _ (World.block_lt_of_cell? W _ hcl) fun hs => ?_)).trans hcl
  obtain ⟨r, hr⟩ := hS _ hs
  simp [World.cell?, hr] at hcl
theorem rgr_keeps {S : Nat → Prop} {W W' : World} {v : Value} {r : Rg} (h : RgR W v r) (hk : Keeps S W W') (hS : ∀ k, S k → ∃ r, W.heap[k]? = some (.loop r)) : RgR W' v r := by
  obtain ⟨a1, c1, a2, c2, a3, c3, e, h1, h2, h3⟩ := h.ex
  exact ⟨a1, c1, a2, c2, a3, c3, e, row_keeps h1 hk hS, row_keeps h2 hk hS, row_keeps h3 hk hS⟩
theorem apart_end {p q : List C} {l : List (List UInt8)} (hl : bothF p q = l) (hm : (mayP p && mayP q) = true) (h : ∀ n ∈ l, ((askedF p n).and (askedF q n)).empty = false) : apartF p q = none := by
  unfold apartF
  rw [hm, hl, if_pos rfl, List.find?_eq_none]
  intro n hn
  rw [h n hn]; exact Bool.false_ne_true
theorem apart_at {p q : List C} {pre rest : List (List UInt8)} {nm : List UInt8} (hl : bothF p q = pre ++ nm :: rest) (hm : (mayP p && mayP q) = true) (h : ∀ n ∈ pre, ((askedF p n).and (askedF q n)).empty = false) (he : ((askedF p nm).and (askedF q nm)).empty = true) : apartF p q = some nm := by
  unfold apartF
  rw [hm, hl, if_pos rfl, List.find?_append, List.find?_eq_none.2 fun n hn => by rw [h n hn]; exact Bool.false_ne_true, Option.none_or, List.find?_cons, he]
theorem loop_put {W : World} {l : Nat} {o : Obj} {o' : Obj} (h : W.heap[l]? = some o) : (W.putObj l o').heap[l]? = some o' := World.putObj_heap_same (Array.getElem?_eq_some_iff.1 h).1

set_option maxRecDepth 100000 in
set_option maxHeartbeats 8000000 in
theorem apart_no (w : World) (vp vq : Value) (p q : List C) (hp : PredR w vp p) (hq : PredR w vq q) (hm : (mayP p && mayP q) = false) :
    Calls Tryz.prog 51 #[vp, vq] w fun e w' => e = .returned (.tuple #[.string ⟨#[]⟩, .bool false]) ∧ Ext w w' := by
  obtain ⟨ap, cp, rfl, _, _⟩ := hp.shape
  obtain ⟨aq, cq, rfl, _, _⟩ := hq.shape
  obtain ⟨hx0, hb4, hb5⟩ := boxes2 w (.cells #[.string ⟨#[]⟩] 9) (.cells #[.bool false] 4)
  have hmay := may95_any _ _ _ p q (hp.ext hx0) (hq.ext hx0)
  rw [hm] at hmay
  have HM := Lib.hid hmay
  have H4 := Lib.hid hb4
  have H5 := Lib.hid hb5
  clear hmay hm hp hq hb4 hb5
  generalize p.length = pl at *
  generalize q.length = ql at *
  refine callsIn_wide (n := 9).1 ?_
  refine callsIn_of_wp_marks Tryz.func51 rfl trivial ?_ rfl
  simp only [Tryz.ntmps51, List.size_toArray, List.length_cons, List.length_nil, Nat.reduceAdd, Nat.reduceSub, Array.replicate_succ, Array.replicate_zero, List.push_toArray, List.append_toArray, List.nil_append, List.cons_append]
  gi_wp2_with fail
  refine ⟨trivial, ?_⟩
  refine CallsIn.mono (callsIn_wide.2 HM.out) ?_
  rintro e W1 ⟨rfl, hx1⟩
  have H4 := Lib.hid (block_later H4.out hx1)
  have H5 := Lib.hid (block_later H5.out hx1)
  have m4 := cell_of_row _ _ 0 _ _ _ H4.out
  have m5 := cell_of_row _ _ 0 _ _ _ H5.out
  have f4 := frozen_row H4.out 0
  have f5 := frozen_row H5.out 0
  have k4 := setCell_block W1 w.heap.size 0 (.string ⟨#[]⟩) _ _ _ H4.out
  have k5 : (W1.setCell ⟨w.heap.size, 0, none⟩ (.string ⟨#[]⟩)).heap[w.heap.size + 1]? = some (.cells #[.bool false] 4 (0, 0)) := (setCell_block_other W1 ⟨w.heap.size, 0, none⟩ _ _ (by show w.heap.size + 1 ≠ w.heap.size; omega)).trans H5.out
  have k6 := setCell_block (W1.setCell ⟨w.heap.size, 0, none⟩ (.string ⟨#[]⟩)) (w.heap.size + 1) 0 (.bool false) _ _ _ k5
  have k7 : ((W1.setCell ⟨w.heap.size, 0, none⟩ (.string ⟨#[]⟩)).setCell ⟨w.heap.size + 1, 0, none⟩ (.bool false)).heap[w.heap.size]? = some (.cells #[.string ⟨#[]⟩] 9 (0, 0)) := (setCell_block_other _ ⟨w.heap.size + 1, 0, none⟩ _ _ (by show w.heap.size ≠ w.heap.size + 1; omega)).trans k4
  have c4 := cell_of_row _ _ 0 _ _ _ k7
  have c5 := cell_of_row _ _ 0 _ _ _ k6
  have hxe : Ext w ((W1.setCell ⟨w.heap.size, 0, none⟩ (.string ⟨#[]⟩)).setCell ⟨w.heap.size + 1, 0, none⟩ (.bool false)) := ((hx0.trans hx1).setCell (p := ⟨w.heap.size, 0, none⟩) (Nat.le_refl _) _).setCell (p := ⟨w.heap.size + 1, 0, none⟩) (Nat.le_succ _) _
  have HC := Lib.hid (And.intro c4 (And.intro c5 hxe))
  clear k4 k5 k6 k7 c4 c5 hxe
  gi_wp2_with fail
  have d4 := HC.out.1
  have d5 := HC.out.2.1
  exact ⟨.tuple #[.string ⟨#[]⟩, .bool false], by simp [results, Tryz.results51, go_sem, d4, d5], rfl, HC.out.2.2⟩

set_option maxRecDepth 100000 in
set_option maxHeartbeats 16000000 in
theorem apart_yes (w : World) (vp vq : Value) (p q : List C) (hp : PredR w vp p) (hq : PredR w vq q) (kp : ∀ c ∈ p, okC c) (kq : ∀ c ∈ q, okC c) (hm : (mayP p && mayP q) = true) :
    Calls Tryz.prog 51 #[vp, vq] w fun e w' => e = .returned (.tuple #[.string (strOf ((apartF p q).getD [])), .bool (apartF p q).isSome]) ∧ Ext w w' := by
  obtain ⟨ap, cp, rfl, _, _⟩ := hp.shape
  obtain ⟨aq, cq, rfl, _, _⟩ := hq.shape
  obtain ⟨hx0, hb4, hb5⟩ := boxes2 w (.cells #[.string ⟨#[]⟩] 9) (.cells #[.bool false] 4)
  have hsz : ((w.alloc (.cells #[.string ⟨#[]⟩] 9)).alloc (.cells #[.bool false] 4)).heap.size = w.heap.size + 2 := by simp
  have hmay := may95_any _ _ _ p q (hp.ext hx0) (hq.ext hx0)
  have hmm := hm
  rw [hm] at hmay
  simp only [Bool.and_eq_true] at hmm
  have hlp := may_len hmm.1
  have hlq := may_len hmm.2
  have HMAY := Lib.hid hmay
  have HMM := Lib.hid hm
  have HP := Lib.hid hp
  have HQ := Lib.hid hq
  have H4 := Lib.hid hb4
  have H5 := Lib.hid hb5
  have HLP := Lib.hid hlp
  have HLQ := Lib.hid hlq
  have HSZ := Lib.hid hsz
  clear hmay hm hmm hp hq hb4 hb5 hlp hlq hsz
  generalize hpl : p.length = pl at *
  generalize hql : q.length = ql at *
  have HPL := Lib.hid hpl
  have HQL := Lib.hid hql
  clear hpl hql
  generalize hres : (Value.tuple #[.string (strOf ((apartF p q).getD [])), .bool (apartF p q).isSome]) = res
  have HRES := Lib.hid hres
  clear hres
  refine callsIn_wide (n := 9).1 ?_
  refine callsIn_of_wp_marks Tryz.func51 rfl trivial ?_ rfl
  simp only [Tryz.ntmps51, List.size_toArray, List.length_cons, List.length_nil, Nat.reduceAdd, Nat.reduceSub, Array.replicate_succ, Array.replicate_zero, List.push_toArray, List.append_toArray, List.nil_append, List.cons_append]
  gi_wp2_with fail
  refine ⟨trivial, ?_⟩
  refine CallsIn.mono (callsIn_wide.2 HMAY.out) ?_
  rintro e W1 ⟨rfl, hx1⟩
  have hasked := asked96_any W1 _ _ p q (HP.out.ext (hx0.trans hx1)) (HQ.out.ext (hx0.trans hx1)) (by rw [HPL.out]; exact HLP.out) (by rw [HQL.out]; exact HLQ.out)
  have HA := Lib.hid hasked
  clear hasked HMAY
  gi_wp2_with fail
  refine ⟨trivial, ?_⟩
  refine CallsIn.mono (callsIn_wide.2 HA.out) ?_
  rintro e W2 ⟨b5, b6, vn, l0, rfl, hcomp, hl0, hx2, hI, hb5, hbx5⟩
  have h1s : w.heap.size + 2 ≤ W1.heap.size := by have := hx1.size; rw [HSZ.out] at this; exact this
  have hx02 := (hx0.trans hx1).trans hx2
  have k4 := block_later H4.out (hx1.trans hx2)
  have k5 := block_later H5.out (hx1.trans hx2)
  clear HA H4 H5
  gi_wp2_with fail
  refine range_law (gf := 58) rfl (enters_of Tryz.func58 (by kernel_rfl) rfl) ?_
  intro fn rc hrc
  have HRC := Lib.hid hrc
  clear hrc
  obtain ⟨hx3, hdf, hlp⟩ := boxes2 W2 (.deferred (some [])) (.loop (rc .ready))
  have j4 := block_later k4 hx3
  have j5 := block_later k5 hx3
  have hI3 := hI.keeps (Keeps.of_ext (S := fun _ => False) hx3) (fun _ h => h.elim)
  have hbx := block_later hbx5 hx3
  have hx03 := hx02.trans hx3
  have hhi := hI.lohi.2
  have hlo : W1.heap.size + 2 = W1.heap.size + 2 := rfl
  generalize (W2.alloc (.deferred (some []))).alloc (.loop (rc .ready)) = W3 at *
  generalize hL : W2.heap.size = hi at *
  clear hx3 hI k4 k5 hbx5 hx02 hlo
  refine CallsIn.mono (iter_any _ (hi + 1) w p q _ _ HP.out HQ.out kp kq (W1.heap.size + 2) hi b5 b6 (by omega) vn l0 (bothF p q) hcomp hl0
    (fun pre W => (∀ n ∈ pre, ((askedF p n).and (askedF q n)).empty = false) ∧ W.heap[w.heap.size]? = some (.cells #[.string ⟨#[]⟩] 9 (0, 0)) ∧ W.heap[w.heap.size + 1]? = some (.cells #[.bool false] 4 (0, 0)) ∧ W.heap[hi]? = some (.deferred (some [])) ∧ W.heap[hi + 1]? = some (.loop (rc .ready)))
    (fun W => Ext w W ∧ ∃ nm, apartF p q = some nm ∧ W.heap[w.heap.size]? = some (.cells #[.string (strOf nm)] 9 (0, 0)) ∧ W.heap[w.heap.size + 1]? = some (.cells #[.bool true] 4 (0, 0)) ∧ W.heap[hi]? = some (.deferred (some [])) ∧ W.heap[hi + 1]? = some (.loop (recRet rc .done)))
    ?abide ?yield W3 hx03 hI3 hbx ⟨by simp, j4, j5, hdf, hlp⟩) ?done
  case abide =>
    rintro pre W W' ⟨h1, h2, h3, h4, h5⟩ hk
    exact ⟨h1, hk.heap h2 (by omega), hk.heap h3 (by omega), hk.heap h4 (by omega), hk.heap h5 (by omega)⟩
  case done =>
    rintro e W ⟨⟨x, rfl⟩, ⟨hxw, h1, h2, h3, h4, h5⟩ | ⟨hxw, nm, h1, h2, h3, h4, h5⟩⟩
    · refine ⟨⟨_, rfl⟩, .inl ⟨h5, ?_⟩⟩
      have hr : res = .tuple #[.string ⟨#[]⟩, .bool false] := by rw [← HRES.out, apart_end rfl HMM.out h1]; rfl
      have hK : Keeps (fun k => k = hi + 1) W (W.putObj (hi + 1) (.loop (rc .exhausted))) := Keeps.put _ W _ _ rfl
      have g2 := hK.heap h2 (by omega)
      have g3 := hK.heap h3 (by omega)
      have g4 := hK.heap h4 (by omega)
      have hxk := hK.ext hxw (fun k hk => by have : k = hi + 1 := hk; omega)
      generalize W.putObj (hi + 1) (.loop (rc .exhausted)) = Wd at *
      have m4 := cell_of_row _ _ 0 _ _ _ g2
      have m5 := cell_of_row _ _ 0 _ _ _ g3
      have f4 := frozen_row g2 0
      have f5 := frozen_row g3 0
      have hK2 : Keeps (fun k => k = w.heap.size ∨ k = w.heap.size + 1) Wd ((Wd.setCell ⟨w.heap.size, 0, none⟩ (.string ⟨#[]⟩)).setCell ⟨w.heap.size + 1, 0, none⟩ (.bool false)) := (Keeps.cell _ Wd _ _ (.inl rfl)).trans (Keeps.cell _ _ _ _ (.inr rfl))
      have k4 := setCell_block Wd w.heap.size 0 (.string ⟨#[]⟩) _ _ _ g2
      have k5 : (Wd.setCell ⟨w.heap.size, 0, none⟩ (.string ⟨#[]⟩)).heap[w.heap.size + 1]? = some (.cells #[.bool false] 4 (0, 0)) := (setCell_block_other Wd ⟨w.heap.size, 0, none⟩ _ _ (by show w.heap.size + 1 ≠ w.heap.size; omega)).trans g3
      have k6 := setCell_block (Wd.setCell ⟨w.heap.size, 0, none⟩ (.string ⟨#[]⟩)) (w.heap.size + 1) 0 (.bool false) _ _ _ k5
      have k7 : ((Wd.setCell ⟨w.heap.size, 0, none⟩ (.string ⟨#[]⟩)).setCell ⟨w.heap.size + 1, 0, none⟩ (.bool false)).heap[w.heap.size]? = some (.cells #[.string ⟨#[]⟩] 9 (0, 0)) := (setCell_block_other _ ⟨w.heap.size + 1, 0, none⟩ _ _ (by show w.heap.size ≠ w.heap.size + 1; omega)).trans k4
      have k8 := hK2.heap g4 (by omega)
      have hxe := hK2.ext hxk (fun k hk => by omega)
      have HC := Lib.hid (And.intro k7 (And.intro k6 (And.intro k8 hxe)))
      clear g2 g3 g4 k4 k5 k6 k7 k8 hxe hxk hK hK2
      gi_wp2_with fail
      generalize (Wd.setCell ⟨w.heap.size, 0, none⟩ (.string ⟨#[]⟩)).setCell ⟨w.heap.size + 1, 0, none⟩ (.bool false) = We at *
      have hK3 : Keeps (fun k => k = hi) We (We.putObj hi (.deferred none)) := Keeps.put _ We _ _ rfl
      have d4 := cell_of_row _ _ 0 _ _ _ (hK3.heap HC.out.1 (by omega))
      have d5 := cell_of_row _ _ 0 _ _ _ (hK3.heap HC.out.2.1 (by omega))
      refine ⟨by simp, .inl ⟨_, _, rfl, run_takeDeferred HC.out.2.2.1, ?_⟩⟩
      exact ⟨.tuple #[.string ⟨#[]⟩, .bool false], by simp [results, Tryz.results51, go_sem, d4, d5], rfl, hK3.ext HC.out.2.2.2 (fun k hk => by have : k = hi := hk; omega)⟩
    · refine ⟨⟨_, rfl⟩, .inr ⟨h5, ?_⟩⟩
      have hr : res = .tuple #[.string (strOf nm), .bool true] := by rw [← HRES.out, h1]; rfl
      have hK : Keeps (fun k => k = hi + 1 ∨ k = hi) W ((W.putObj (hi + 1) (.loop (recRet rc .exhausted))).putObj hi (.deferred none)) := (Keeps.put _ W _ _ (.inl rfl)).trans (Keeps.put _ _ _ _ (.inr rfl))
      have hK1 : Keeps (fun k => k = hi + 1) W (W.putObj (hi + 1) (.loop (recRet rc .exhausted))) := Keeps.put _ W _ _ rfl
      have d4 := cell_of_row _ _ 0 _ _ _ (hK.heap h2 (by omega))
      have d5 := cell_of_row _ _ 0 _ _ _ (hK.heap h3 (by omega))
      refine ⟨by simp, .inl ⟨_, _, rfl, run_takeDeferred (hK1.heap h4 (by omega)), ?_⟩⟩
      rw [hr]
      exact ⟨.tuple #[.string (strOf nm), .bool true], by simp [results, Tryz.results51, go_sem, d4, d5], rfl, hK.ext hxw (fun k hk => by have : k = hi + 1 ∨ k = hi := hk; omega)⟩
  case yield =>
    rintro pre nm rest vc v W hsp hxw hit ⟨h1, h2, h3, h4, h5⟩ hv
    obtain ⟨a1, c1, a2, c2, a3, c3, rfl, _, _, _⟩ := hv.ex
    have hap := apart_at (pre := pre) (rest := rest) (nm := nm) hsp HMM.out h1
    have HSP := Lib.hid hsp
    clear hsp
    generalize hRR : (askedF p nm).and (askedF q nm) = R at *
    have HRR := Lib.hid hRR
    clear hRR
    refine round_law HRC.out h5 rfl ?_
    obtain ⟨hxa, hbr⟩ := boxes1 W (.cells #[.slice a1 R.i.length c1, .slice a2 R.s.length c2, .slice a3 R.b.length c3, .bool R.odd] 83)
    have hva := hv.ext hxa
    have l5 := block_later h5 hxa
    have hKa : Keeps (fun k => k = hi + 1) (W.alloc (.cells #[.slice a1 R.i.length c1, .slice a2 R.s.length c2, .slice a3 R.b.length c3, .bool R.odd] 83)) ((W.alloc (.cells #[.slice a1 R.i.length c1, .slice a2 R.s.length c2, .slice a3 R.b.length c3, .bool R.odd] 83)).putObj (hi + 1) (.loop (rc .busy))) := Keeps.put _ _ _ _ rfl
    have hvb := rgr_keeps hva hKa (fun k hk => by have : k = hi + 1 := hk; rw [this]; exact ⟨_, l5⟩)
    have hlt : hi + 1 < W.heap.size := (Array.getElem?_eq_some_iff.1 h5).1
    have b2 := hKa.heap (block_later h2 hxa) (by omega)
    have b3 := hKa.heap (block_later h3 hxa) (by omega)
    have b4 := hKa.heap (block_later h4 hxa) (by omega)
    have b5' := loop_put (o' := .loop (rc .busy)) l5
    have bR := hKa.heap hbr (by omega)
    have hitb := (hit.keeps (Keeps.of_ext (S := fun _ => False) hxa) (fun _ h => h.elim)).keeps hKa (fun k hk => by have : k = hi + 1 := hk; omega)
    have hxb := hKa.ext (hxw.trans hxa) (fun k hk => by have : k = hi + 1 := hk; omega)
    have HA2 := Lib.hid (And.intro h1 (And.intro b2 (And.intro b3 (And.intro b4 (And.intro b5' (And.intro hitb hxb))))))
    have HAP := Lib.hid hap
    have HL5 := Lib.hid l5
    have HBR := Lib.hid bR
    have HVB := Lib.hid hvb
    clear h1 h2 h3 h4 h5 hxa hbr hva hKa b2 b3 b4 b5' bR hitb hxb l5 hvb hit hxw hap hv
    gi_wp2_with fail
    refine ⟨HL5.out, ?_⟩
    clear HL5
    generalize (W.alloc (.cells #[.slice a1 R.i.length c1, .slice a2 R.s.length c2, .slice a3 R.b.length c3, .bool R.odd] 83)).putObj (hi + 1) (.loop (rc .busy)) = W5 at *
    generalize W.heap.size = bR at *
    have r0 := cell_of_row _ _ 0 _ _ _ HBR.out
    have r1 := cell_of_row _ _ 1 _ _ _ HBR.out
    have r2 := cell_of_row _ _ 2 _ _ _ HBR.out
    have r3 := cell_of_row _ _ 3 _ _ _ HBR.out
    have hem := empty_any W5 _ R HVB.out
    generalize hE : R.empty = E at *
    have HEM := Lib.hid hem
    have HEE := Lib.hid hE
    clear hem hE
    gi_wp2_with fail
    refine ⟨trivial, ?_⟩
    refine CallsIn.mono (CallsIn.inRound _ (callsIn_wide.2 HEM.out)) ?_
    rintro e W6 ⟨rfl, hx6⟩
    clear r0 r1 r2 r3 HEM
    have b2 := block_later HA2.out.2.1 hx6
    have b3 := block_later HA2.out.2.2.1 hx6
    have b4 := block_later HA2.out.2.2.2.1 hx6
    have b5' := block_later HA2.out.2.2.2.2.1 hx6
    have hit6 := HA2.out.2.2.2.2.2.1.keeps (Keeps.of_ext (S := fun _ => False) hx6) (fun _ h => h.elim)
    have hx7 := HA2.out.2.2.2.2.2.2.trans hx6
    cases E with
    | false =>
      have hK : Keeps (fun k => k = hi + 1) W6 (W6.putObj (hi + 1) (.loop (rc .ready))) := Keeps.put _ _ _ _ rfl
      have e2 := hK.heap b2 (by omega)
      have e3 := hK.heap b3 (by omega)
      have e4 := hK.heap b4 (by omega)
      have e5 := loop_put (o' := .loop (rc .ready)) b5'
      have hit7 := hit6.keeps hK (fun k hk => by have : k = hi + 1 := hk; omega)
      have hx8 := hK.ext hx7 (fun k hk => by have : k = hi + 1 := hk; omega)
      have HC := Lib.hid (And.intro e2 (And.intro e3 (And.intro e4 (And.intro e5 (And.intro hit7 hx8)))))
      have HL := Lib.hid b5'
      clear b2 b3 b4 b5' hit6 hx7 hK e2 e3 e4 e5 hit7 hx8
      gi_wp2_with fail
      refine ⟨HL.out, .inl ⟨rfl, HC.out.2.2.2.2.2, HC.out.2.2.2.2.1, ?_, HC.out.1, HC.out.2.1, HC.out.2.2.1, HC.out.2.2.2.1⟩⟩
      intro n hn
      have hn' : n ∈ pre ∨ n = nm := by simpa using hn
      rcases hn' with hn' | rfl
      · exact HA2.out.1 n hn'
      · rw [HRR.out]; exact HEE.out
    | true =>
      have m4 := cell_of_row _ _ 0 _ _ _ b2
      have m5 := cell_of_row _ _ 0 _ _ _ b3
      have f4 := frozen_row b2 0
      have f5 := frozen_row b3 0
      have hK2 : Keeps (fun k => k = w.heap.size ∨ k = w.heap.size + 1) W6 ((W6.setCell ⟨w.heap.size, 0, none⟩ (.string (strOf nm))).setCell ⟨w.heap.size + 1, 0, none⟩ (.bool true)) := (Keeps.cell _ W6 _ _ (.inl rfl)).trans (Keeps.cell _ _ _ _ (.inr rfl))
      have k4 := setCell_block W6 w.heap.size 0 (.string (strOf nm)) _ _ _ b2
      have k5 : (W6.setCell ⟨w.heap.size, 0, none⟩ (.string (strOf nm))).heap[w.heap.size + 1]? = some (.cells #[.bool false] 4 (0, 0)) := (setCell_block_other W6 ⟨w.heap.size, 0, none⟩ _ _ (by show w.heap.size + 1 ≠ w.heap.size; omega)).trans b3
      have k6 := setCell_block (W6.setCell ⟨w.heap.size, 0, none⟩ (.string (strOf nm))) (w.heap.size + 1) 0 (.bool true) _ _ _ k5
      have k7 : ((W6.setCell ⟨w.heap.size, 0, none⟩ (.string (strOf nm))).setCell ⟨w.heap.size + 1, 0, none⟩ (.bool true)).heap[w.heap.size]? = some (.cells #[.string (strOf nm)] 9 (0, 0)) := (setCell_block_other _ ⟨w.heap.size + 1, 0, none⟩ _ _ (by show w.heap.size ≠ w.heap.size + 1; omega)).trans k4
      have k8 := hK2.heap b4 (by omega)
      have k9 := hK2.heap b5' (by omega)
      have hx8 := hK2.ext hx7 (fun k hk => by omega)
      have hK : Keeps (fun k => k = hi + 1) ((W6.setCell ⟨w.heap.size, 0, none⟩ (.string (strOf nm))).setCell ⟨w.heap.size + 1, 0, none⟩ (.bool true)) (((W6.setCell ⟨w.heap.size, 0, none⟩ (.string (strOf nm))).setCell ⟨w.heap.size + 1, 0, none⟩ (.bool true)).putObj (hi + 1) (.loop (recRet rc .done))) := Keeps.put _ _ _ _ rfl
      have e2 := hK.heap k7 (by omega)
      have e3 := hK.heap k6 (by omega)
      have e4 := hK.heap k8 (by omega)
      have e5 := loop_put (o' := .loop (recRet rc .done)) k9
      have hx9 := hK.ext hx8 (fun k hk => by have : k = hi + 1 := hk; omega)
      have HC := Lib.hid (And.intro e2 (And.intro e3 (And.intro e4 (And.intro e5 hx9))))
      have HL := Lib.hid k9
      clear b2 b3 b4 b5' hit6 hx7 hK2 k4 k5 k6 k7 k8 k9 hx8 hK e2 e3 e4 e5 hx9
      gi_wp2_with fail
      exact ⟨HL.out, .inr ⟨rfl, HC.out.2.2.2.2, nm, HAP.out (by first | rfl | trivial | exact HEE.out), HC.out.1, HC.out.2.1, HC.out.2.2.1, HC.out.2.2.2.1⟩⟩

theorem apart_any (w : World) (vp vq : Value) (p q : List C) (hp : PredR w vp p) (hq : PredR w vq q) (kp : ∀ c ∈ p, okC c) (kq : ∀ c ∈ q, okC c) :
    Calls Tryz.prog 51 #[vp, vq] w fun e w' => e = .returned (.tuple #[.string (strOf ((apartF p q).getD [])), .bool (apartF p q).isSome]) ∧ Ext w w' := by
  cases hm : (mayP p && mayP q) with
  | true => exact apart_yes w vp vq p q hp hq kp kq hm
  | false =>
    have : apartF p q = none := by unfold apartF; rw [hm]; rfl
    rw [this]
    exact apart_no w vp vq p q hp hq hm
end Go.Proofs.YtabegbelkfhbcaaGreat

namespace Go.Proofs.YtabegbelkfhbcaaGreat
open Go.RowKit

set_option maxRecDepth 100000 in
set_option maxHeartbeats 4000000 in
theorem overlaps_any (w : World) (vp vq : Value) (p q : List C) (hp : PredR w vp p) (hq : PredR w vq q) (kp : ∀ c ∈ p, okC c) (kq : ∀ c ∈ q, okC c) :
    Calls Tryz.prog 34 #[vp, vq] w fun e w' => e = .returned (.bool (overlapsF p q)) ∧ Ext w w' := by
  obtain ⟨ap, cp, rfl, _, _⟩ := hp.shape
  obtain ⟨aq, cq, rfl, _, _⟩ := hq.shape
  have h1 := apart_any w _ _ p q hp hq kp kq
  have HA := Lib.hid h1
  have HMAY := Lib.hid (fun W (hx : Ext w W) => may95_any W _ _ p q (hp.ext hx) (hq.ext hx))
  have hov : overlapsF p q = ((mayP p && mayP q) && !(apartF p q).isSome) := by unfold overlapsF; cases apartF p q <;> simp
  rw [hov]
  clear h1 hov hp hq kp kq
  generalize (mayP p && mayP q) = m at *
  generalize (apartF p q).isSome = s at *
  generalize strOf ((apartF p q).getD []) = nm at *
  generalize p.length = pl at *
  generalize q.length = ql at *
  cases m <;> cases s <;>
  · go_enter Tryz.func34, Tryz.ntmps34
    go_wp2_with fail
    refine HA.out.mono ?_
    rintro e w1 ⟨rfl, hx1⟩
    have H2 := Lib.hid (HMAY.out w1 hx1)
    go_wp2_with fail
    refine H2.out.mono ?_
    rintro e w2 ⟨rfl, hx2⟩
    go_wp2_with fail
    go_ret
    exact ⟨rfl, hx1.trans hx2⟩
theorem overlaps_lit {w : World} {vp vq : Value} {p q : List C} (hp : PredR w vp p) (hq : PredR w vq q) (kp : ∀ c ∈ p, okC c) (kq : ∀ c ∈ q, okC c) {b : Bool} (h : overlapsF p q = b) :
    Calls Tryz.prog 34 #[vp, vq] w fun e w' => e = .returned (.bool b) ∧ Ext w w' := by
  have := overlaps_any w vp vq p q hp hq kp kq
  rwa [h] at this
theorem apart_lit {w : World} {vp vq : Value} {p q : List C} (hp : PredR w vp p) (hq : PredR w vq q) (kp : ∀ c ∈ p, okC c) (kq : ∀ c ∈ q, okC c) {o : Option (List UInt8)} (h : apartF p q = o) :
    Calls Tryz.prog 51 #[vp, vq] w fun e w' => e = .returned (.tuple #[.string (strOf (o.getD [])), .bool o.isSome]) ∧ Ext w w' := by
  have := apart_any w vp vq p q hp hq kp kq
  rwa [h] at this
end Go.Proofs.YtabegbelkfhbcaaGreat

namespace Go.Proofs.YtabegbelkfhbcaaGreat
open Go.RowKit Go.MapKept

theorem pubRow {w : World} {base : Nat} {v : Value} {ks : List KN} (h : w.ownsRow base 3 1 v ks.length (ks.map pubC)) : Row w 1 v ks.length (ks.map pubC) := Row.of_own h
theorem RisK.some {T : List KN} {q : KN → Bool} {ks : List KN} (h : RisK T q ks) : T.any q = decide (0 < ks.length) := by
  rw [Bool.eq_iff_iff, List.any_eq_true, decide_eq_true_iff, h.len]
  constructor
  · rintro ⟨x, hx, hq⟩
    have := List.length_pos_of_mem (List.mem_filter.2 ⟨hx, hq⟩)
    omega
  · intro hp
    obtain ⟨x, hx⟩ := List.exists_mem_of_length_pos (l := T.filter q) (by omega)
    exact ⟨x, (List.mem_filter.1 hx).1, (List.mem_filter.1 hx).2⟩
theorem RisK.le {T : List KN} {q : KN → Bool} {ks : List KN} (h : RisK T q ks) : ks.length ≤ T.length := by rw [h.len]; exact List.length_filter_le _ _

set_option maxRecDepth 100000 in
set_option maxHeartbeats 8000000 in
theorem tall_any (w : World) (b bm : Nat) (T : List KN) (ht : TabR w b bm T) (hok : ∀ k ∈ T, mayP k.p = true) (hlen : T.length ≤ 1000000) :
    Calls Tryz.prog 13 #[.pointer (some ⟨b, 0, none⟩)] w fun e w' => ∃ v' us ks, e = .returned v' ∧ AdsR w' v' us ∧ us.map sayK = ks.map sayK ∧ RisK T (fun _ => true) ks ∧ Ext w w' := by
  have hth := those_any w b bm T ht hlen 31 #[] (fun _ => true) ent_all fun W k _ _ => all1_any W k.link k.pub k.ver k.h
  have HTH := Lib.hid hth
  have HT := Lib.hid ht
  clear hth ht
  go_enter Tryz.func13, Tryz.ntmps13
  go_wp2_with (first
    | (go_at_call 30; (with_reducible refine HTH.out.mono ?_); rintro e w1 ⟨v, ks, rfl, hr, ho, hx⟩; have HR := Lib.hid hr; have HO := Lib.hid ho; have HX := Lib.hid hx; clear hr ho hx)
    | (go_at_call 29; (with_reducible refine (list_any w1 b bm T (HT.out.ext HX.out) hok v ks (pubRow HO.out) (fun k hk => (HR.out.mem.1 hk).1) (Nat.le_trans HR.out.le hlen)).mono ?_); rintro e w2 ⟨v', us, rfl, ha, hs, hx⟩; have HA := Lib.hid ha; have HS := Lib.hid hs; have HX2 := Lib.hid hx; clear ha hs hx))
  go_ret
  exact ⟨_, us, ks, rfl, HA.out, HS.out, HR.out, HX.out.trans HX2.out⟩

set_option maxRecDepth 100000 in
set_option maxHeartbeats 8000000 in
theorem over_any (w : World) (b bm : Nat) (T : List KN) (ht : TabR w b bm T) (hok : ∀ k ∈ T, mayP k.p = true) (hlen : T.length ≤ 1000000) (link : Int) :
    Calls Tryz.prog 18 #[.pointer (some ⟨b, 0, none⟩), .int .i64 link] w fun e w' => ∃ v' us ks, e = .returned v' ∧ AdsR w' v' us ∧ us.map sayK = ks.map sayK ∧ RisK T (fun k => k.link == link) ks ∧ Ext w w' := by
  obtain ⟨hx0, hb⟩ := boxes1 w (.cells #[.int .i64 link] 3)
  have hth := those_any (w.alloc (.cells #[.int .i64 link] 3)) b bm T (ht.ext hx0) hlen 35 #[.pointer (some ⟨w.heap.size, 0, none⟩)] (fun k => k.link == link) ent_over fun W k hx _ => over1_any W k.link k.pub k.ver k.h _ link (hx.cell (cell_of_row _ _ 0 _ _ _ hb))
  have HTH := Lib.hid hth
  have HT := Lib.hid (ht.ext hx0)
  have HX0 := Lib.hid hx0
  clear hth ht hx0 hb
  go_enter Tryz.func18, Tryz.ntmps18
  go_wp2_with (first
    | (go_at_call 30; (with_reducible refine HTH.out.mono ?_); rintro e w1 ⟨v, ks, rfl, hr, ho, hx⟩; have HR := Lib.hid hr; have HO := Lib.hid ho; have HX := Lib.hid hx; clear hr ho hx)
    | (go_at_call 29; (with_reducible refine (list_any w1 b bm T (HT.out.ext HX.out) hok v ks (pubRow HO.out) (fun k hk => (HR.out.mem.1 hk).1) (Nat.le_trans HR.out.le hlen)).mono ?_); rintro e w2 ⟨v', us, rfl, ha, hs, hx⟩; have HA := Lib.hid ha; have HS := Lib.hid hs; have HX2 := Lib.hid hx; clear ha hs hx))
  go_ret
  exact ⟨_, us, ks, rfl, HA.out, HS.out, HR.out, (HX0.out.trans HX.out).trans HX2.out⟩

/-! Wants. -/
theorem ent_wants : ∀ args w, (callFunc 33 args).run Tryz.prog w = .ok (.enter 33 args) w := enters_of Tryz.func33 (by kernel_rfl) rfl
set_option maxHeartbeats 4000000 in
theorem wants1_any (W : World) (k : KN) (B C' : Nat) (link : Int) (vp : Value) (p : List C) (hB : W.cell? ⟨B, 0, none⟩ = some (.int .i64 link)) (hC : W.cell? ⟨C', 0, none⟩ = some vp) (hp : PredR W vp p) (hk : PredR W k.h k.p) (kp : ∀ c ∈ p, okC c) (kk : ∀ c ∈ k.p, okC c) :
    Calls Tryz.prog 33 #[.agg #[.int .i64 k.link, .int .i64 k.pub, .int .u64 (k.ver : Nat), k.h], .pointer (some ⟨B, 0, none⟩), .pointer (some ⟨C', 0, none⟩)] W fun e W' => e = .returned (.bool (k.link == link && overlapsF p k.p)) ∧ Ext W W' := by
  obtain ⟨kl, kpub, kv, kpp, kh⟩ := k
  dsimp only at *
  obtain ⟨a, c, rfl, _, _⟩ := hk.shape
  obtain ⟨ap, cp, rfl, _, _⟩ := hp.shape
  obtain ⟨hxa, hb7⟩ := boxes1 W (.cells #[.int .i64 kl, .int .i64 kpub, .int .u64 (kv : Nat), .slice a kpp.length c] 67)
  have c0 := cell_of_row _ _ 0 _ _ _ hb7
  have c3 := cell_of_row _ _ 3 _ _ _ hb7
  have hB2 := hxa.cell hB
  have hC2 := hxa.cell hC
  have HX := Lib.hid hxa
  have HO := Lib.hid (overlaps_any _ _ _ p kpp (hp.ext hxa) (hk.ext hxa) kp kk)
  clear hxa hb7 hB hC hp hk kp kk
  generalize kpp.length = kn at *
  generalize p.length = pn at *
  cases hl : (kl == link) with
  | false =>
    go_enter Tryz.func33, Tryz.ntmps33
    go_wp2
    go_ret
    exact ⟨rfl, HX.out⟩
  | true =>
    go_enter Tryz.func33, Tryz.ntmps33
    go_wp2_with (go_at_call 34; (with_reducible refine HO.out.mono ?_); rintro e w2 ⟨rfl, hx⟩; have HX2 := Lib.hid hx; clear hx)
    go_ret
    exact ⟨by simp, HX.out.trans HX2.out⟩
set_option maxRecDepth 100000 in
set_option maxHeartbeats 8000000 in
theorem wants_any (w : World) (b bm : Nat) (T : List KN) (ht : TabR w b bm T) (hokc : ∀ k ∈ T, ∀ c ∈ k.p, okC c) (hlen : T.length ≤ 1000000) (link : Int) (vp : Value) (p : List C) (hp : PredR w vp p) (kp : ∀ c ∈ p, okC c) :
    Calls Tryz.prog 16 #[.pointer (some ⟨b, 0, none⟩), .int .i64 link, vp] w fun e w' => e = .returned (.bool (T.any fun k => k.link == link && overlapsF p k.p)) ∧ Ext w w' := by
  obtain ⟨ap, cp, rfl, _, _⟩ := hp.shape
  obtain ⟨hx0, hb, hb2⟩ := boxes2 w (.cells #[.int .i64 link] 3) (.cells #[.slice ap p.length cp] 25)
  have hth := those_any ((w.alloc (.cells #[.int .i64 link] 3)).alloc (.cells #[.slice ap p.length cp] 25)) b bm T (ht.ext hx0) hlen 33 #[.pointer (some ⟨w.heap.size, 0, none⟩), .pointer (some ⟨w.heap.size + 1, 0, none⟩)] (fun k => k.link == link && overlapsF p k.p) ent_wants fun W k hx hk => wants1_any W k _ _ link _ p (hx.cell (cell_of_row _ _ 0 _ _ _ hb)) (hx.cell (cell_of_row _ _ 0 _ _ _ hb2)) (hp.ext (hx0.trans hx)) ((ht.preds k hk).ext (hx0.trans hx)) kp (hokc k hk)
  have HTH := Lib.hid hth
  have HX0 := Lib.hid hx0
  have HL := Lib.hid hlen
  clear hth ht hx0 hb hb2 hp kp hokc hlen
  generalize hpn : p.length = pn at *
  clear hpn
  go_enter Tryz.func16, Tryz.ntmps16
  go_wp2_with (go_at_call 30; (with_reducible refine HTH.out.mono ?_); rintro e w1 ⟨v, ks, rfl, hr, ho, hx⟩; have HR := Lib.hid hr; have HX := Lib.hid hx; obtain ⟨av, cv, rfl, _, _⟩ := Row.shape (pubRow ho); clear hr ho hx)
  go_ret
  exact ⟨congrArg (fun x => Ending.returned (Value.bool x)) HR.out.some.symm, HX0.out.trans HX.out⟩

/-! Forget. -/
theorem own_not_map {w : World} {base size n bm : Nat} {e : TypeId} {v : Value} {xs : List Value} (ho : w.ownsRow base e size v n xs) (hm : MapAt w bm) : v.ownBlock ≠ some bm := by
  intro hv
  obtain ⟨es, c, hm⟩ := hm
  rcases ho.2 with ⟨rfl, _⟩ | ⟨g, cap, cur, rfl, _, hg, _⟩
  · simp [Value.ownBlock] at hv
  · simp only [Value.ownBlock, Option.some.injEq] at hv
    subst hv
    rw [hm] at hg; cases hg
set_option maxRecDepth 100000 in
set_option maxHeartbeats 8000000 in
theorem forget_any (w : World) (b bm : Nat) (T : List KN) (ht : TabR w b bm T) (hlen : T.length ≤ 1000000) (link : Int) :
    Calls Tryz.prog 15 #[.pointer (some ⟨b, 0, none⟩), .int .i64 link] w fun e w' => ∃ v ks, e = .returned v ∧ RisK T (fun k => k.link == link) ks ∧ w'.ownsRow w.heap.size 3 1 v ks.length (ks.map pubC) ∧ TabR w' b bm (T.filter fun k => !(k.link == link)) ∧ w.grownBy w' (some bm) := by
  obtain ⟨hx0, hb⟩ := boxes1 w (.cells #[.int .i64 link] 3)
  have hth := those_any (w.alloc (.cells #[.int .i64 link] 3)) b bm T (ht.ext hx0) hlen 32 #[.pointer (some ⟨w.heap.size, 0, none⟩)] (fun k => k.link == link) ent_forget fun W k hx _ => forget1_any W k.link k.pub k.ver k.h _ link (hx.cell (cell_of_row _ _ 0 _ _ _ hb))
  have HTH := Lib.hid hth
  have HT := Lib.hid (ht.ext hx0)
  have HX0 := Lib.hid hx0
  have HSZ : Hid (w.heap.size ≤ (w.alloc (.cells #[.int .i64 link] 3)).heap.size) := hx0.size
  clear hth ht hx0 hb
  go_enter Tryz.func15, Tryz.ntmps15
  go_upto_region 2 with (go_at_call 30; (with_reducible refine HTH.out.mono ?_); rintro e w1 ⟨v, ks, rfl, hr, ho, hx⟩; have HR := Lib.hid hr; have HO := Lib.hid ho; have HX := Lib.hid hx; clear hr ho hx)
  generalize w.alloc (.cells #[.int .i64 link] 3) = w0 at *
  have HT1 := Lib.hid (HT.out.ext HX.out)
  have HXX := Lib.hid (HX0.out.trans HX.out)
  have hO1 := own_low HO.out HSZ.out
  have hgone := gone_are HT.out.pubs HR.out
  obtain ⟨n, hn⟩ : ∃ n, n = ks.length := ⟨_, rfl⟩
  have hnl : n ≤ 1000000 := by rw [hn]; exact Nat.le_trans HR.out.le hlen
  rw [← hn] at hO1
  have HN := Lib.hid hn
  have HGONE := Lib.hid hgone
  obtain ⟨av, cv, rfl, hcv, hcm⟩ := own_shape hO1
  have HO1 := Lib.hid hO1
  unfold maxLen at hcm
  clear hO1 HO hn hgone
  go_wp2_with fail
  go_loopw [13] (fun i wr => ∃ k : Nat, k ≤ n ∧ i = .int .i64 k ∧ Hid (TabR wr b bm (((ks.take k).map KN.pub).foldl delF T)) ∧ Hid (wr.ownsRow w.heap.size 3 1 (.slice av n cv) n (ks.map pubC)) ∧ Hid (w.grownBy wr (some bm))) (fun i _ => n - (intOf i).toNat)
  case atStart => exact ⟨0, Nat.zero_le _, rfl, HT1.out, HO1.out, grown_after HXX.out (World.grownBy.refl _ _)⟩
  case round =>
    clear HT1 HO1
    obtain ⟨k, hk, rfl, hT, hO, hG⟩ := hrel
    by_cases hlt : k < n
    · have hI : decide ((k : Int) < (n : Int)) = true := decide_eq_true (by omega)
      have hkN : (k : Int) < (n : Int) := by omega
      have hkl : k < ks.length := by have := HN.out; omega
      obtain ⟨B, o, rfl, hcell⟩ := Row.cell (Row.of_own hO.out) (j := k) (u := .int .i64 ks[k].pub) (by rw [List.getElem?_map, List.getElem?_eq_getElem hkl]; rfl) (by omega)
      have tb := cell_of_row _ _ 0 _ _ _ hT.out.box
      have htk : ((ks.take (k + 1)).map KN.pub).foldl delF T = delF (((ks.take k).map KN.pub).foldl delF T) ks[k].pub := by rw [List.take_succ_eq_append_getElem hkl, List.map_append, List.foldl_append]; rfl
      have HTK := Lib.hid htk
      generalize ks[k].pub = xp at *
      clear htk
      go_upto_region 6 with (refine wpList_del rfl (.tmp 20) (.tmp 21) 43 3 rfl Tryz.underlying43 Tryz.underlying3 rfl hT.out.map rfl ?_; intro w5 hbut hput; have HF := Lib.hid (hT.out.del (Ext.refl _) hbut hput); clear hbut hput)
      have HO5 := Lib.hid (own_keep hO.out HF.out.2 fun g hg e => own_not_map hO.out hT.out.map.isMap (hg.trans e.symm))
      have HG5 := Lib.hid (grown_same hG.out HF.out.2)
      have HT5 : Hid (TabR w5 b bm (((ks.take (k + 1)).map KN.pub).foldl delF T)) := by rw [HTK.out]; exact HF.out.1
      clear hT hO hG HF hcell tb
      go_wp2_with fail
      go_roundw
      case rel => exact ⟨k + 1, hlt, by go_num, HT5, HO5.out, HG5.out⟩
      case measure => simp [intOf]; omega
    · obtain rfl : k = n := by omega
      have hI : decide ((k : Int) < (k : Int)) = false := decide_eq_false (by omega)
      have hT2 := hT.out
      rw [List.take_of_length_le (by have := HN.out; omega), HGONE.out] at hT2
      have HT2 := Lib.hid hT2
      clear hT2 hT
      go_wp2_with fail
      go_ret
      exact ⟨_, ks, rfl, HR.out, by rw [← HN.out]; exact hO.out, HT2.out, hG.out⟩
end Go.Proofs.YtabegbelkfhbcaaGreat
