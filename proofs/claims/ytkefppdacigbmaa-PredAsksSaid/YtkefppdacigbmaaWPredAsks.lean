/- PredAsks, walked. -/
import Derived.Test.YtkefppdacigbmaaA16
import Derived.Test.YtkefppdacigbmaaV5
import Derived.LoopN
namespace Go.Proofs.Ytkefppdacigbmaa
open Go.RowKit

def askC (x : V) (op : Int) : C := ⟨[97], op, x, []⟩
theorem ask1 (x v : V) : holdsC (askC x 1) v = true := rfl
theorem ask_apart {x v : V} (h : v.k ≠ x.k) : holdsC (askC x 2) v = false ∧ holdsC (askC x 3) v = false ∧ holdsC (askC x 4) v = false ∧ holdsC (askC x 5) v = false ∧ holdsC (askC x 6) v = false ∧ holdsC (askC x 7) v = false ∧ holdsC (askC x 8) v = false := by
  unfold holdsC askC
  simp [h]
theorem ask_like {x v : V} (h : v.k = x.k) : holdsC (askC x 2) v = decide (cmpV v x = 0) ∧ holdsC (askC x 3) v = !decide (cmpV v x = 0) ∧ holdsC (askC x 4) v = decide (cmpV v x < 0) ∧ holdsC (askC x 5) v = decide (cmpV v x ≤ 0) ∧ holdsC (askC x 6) v = decide (0 < cmpV v x) ∧ holdsC (askC x 7) v = decide (0 ≤ cmpV v x) := by
  unfold holdsC askC
  simp [h]
theorem ask_pre {x v : V} (h : v.k = x.k) (hp : holdsC (askC x 8) v = true) : 0 ≤ cmpV v x := by
  unfold holdsC askC at hp
  simp [h] at hp
  have := prefix_ge x.s v.s (by simpa using hp.2)
  unfold cmpV
  rw [if_pos h]
  have hk : v.k = 2 := by rw [h]; exact hp.1
  rw [hk]
  simpa using this
theorem ask_in (x y v : V) : holdsC ⟨[97], 9, ⟨0, 0, [], false⟩, [y, x]⟩ v = (decide (cmpV v y = 0) || decide (cmpV v x = 0)) := by
  unfold holdsC
  simp

def AskSays (w0 : World) (bx bv : Nat) (op : Int) (b : Bool) : Prop := ∀ W, Ext w0 W → Calls Try.prog 22 #[.int .i64 op, .pointer (some ⟨bx, 0, none⟩), .pointer (some ⟨bv, 0, none⟩)] W fun e W' => e = .returned (.bool b) ∧ Ext w0 W'

set_option maxRecDepth 100000 in
set_option maxHeartbeats 2000000 in
theorem ask22 (w0 : World) (bx bv : Nat) (x v : V) (op : Int) (hx : w0.heap[bx]? = some (.cells #[.int .i64 x.k, .int .i64 x.n, .string (strOf x.s), .bool x.b] 28 (0, 0))) (hv : w0.heap[bv]? = some (.cells #[.int .i64 v.k, .int .i64 v.n, .string (strOf v.s), .bool v.b] 28 (0, 0))) : AskSays w0 bx bv op (holdsC (askC x op) v) := by
  intro W hW
  have x0 := hW.cell (cell_of_row _ _ 0 _ _ _ hx)
  have x1 := hW.cell (cell_of_row _ _ 1 _ _ _ hx)
  have x2 := hW.cell (cell_of_row _ _ 2 _ _ _ hx)
  have x3 := hW.cell (cell_of_row _ _ 3 _ _ _ hx)
  have v0 := hW.cell (cell_of_row _ _ 0 _ _ _ hv)
  have v1 := hW.cell (cell_of_row _ _ 1 _ _ _ hv)
  have v2 := hW.cell (cell_of_row _ _ 2 _ _ _ hv)
  have v3 := hW.cell (cell_of_row _ _ 3 _ _ _ hv)
  have hcall := pholds_any W (askC x op) none 0 (SetR.nil W) v
  clear hx hv
  generalize holdsC (askC x op) v = b at *
  go_enter Try.func22, Try.ntmps22
  go_wp2_with (go_at_call 13; refine hcall.mono ?_; rintro e w2 ⟨rfl, hx2⟩)
  go_ret
  exact ⟨rfl, hW.trans hx2⟩
theorem ent22 : ∀ args w, (callFunc 22 args).run Try.prog w = .ok (.enter 22 args) w := enters_of Try.func22 (by kernel_rfl) rfl

set_option maxRecDepth 100000 in
set_option maxHeartbeats 8000000 in
theorem asks_apart (w : World) (v x y : V) (hk : (v.k != x.k) = true) (a2 : holdsC (askC x 2) v = false) (a3 : holdsC (askC x 3) v = false) (a4 : holdsC (askC x 4) v = false) (a5 : holdsC (askC x 5) v = false) (a6 : holdsC (askC x 6) v = false) (a7 : holdsC (askC x 7) v = false) (a8 : holdsC (askC x 8) v = false) : Calls Try.prog 6 #[.agg #[.int .i64 v.k, .int .i64 v.n, .string (strOf v.s), .bool v.b], .agg #[.int .i64 x.k, .int .i64 x.n, .string (strOf x.s), .bool x.b], .agg #[.int .i64 y.k, .int .i64 y.n, .string (strOf y.s), .bool y.b]] w fun e w' => e = .returned (.bool true) ∧ Ext w w' := by
  have hx0 : Ext w (((w.alloc (.cells #[.int .i64 v.k, .int .i64 v.n, .string (strOf v.s), .bool v.b] 28)).alloc (.cells #[.int .i64 x.k, .int .i64 x.n, .string (strOf x.s), .bool x.b] 28)).alloc (.cells #[.int .i64 y.k, .int .i64 y.n, .string (strOf y.s), .bool y.b] 28)) := (((Ext.refl w).alloc _).alloc _).alloc _
  have hy : (((w.alloc (.cells #[.int .i64 v.k, .int .i64 v.n, .string (strOf v.s), .bool v.b] 28)).alloc (.cells #[.int .i64 x.k, .int .i64 x.n, .string (strOf x.s), .bool x.b] 28)).alloc (.cells #[.int .i64 y.k, .int .i64 y.n, .string (strOf y.s), .bool y.b] 28)).heap[w.heap.size + 1 + 1]? = some (.cells #[.int .i64 y.k, .int .i64 y.n, .string (strOf y.s), .bool y.b] 28 (0, 0)) := by
    have h := heap_alloc_new ((w.alloc (.cells #[.int .i64 v.k, .int .i64 v.n, .string (strOf v.s), .bool v.b] 28)).alloc (.cells #[.int .i64 x.k, .int .i64 x.n, .string (strOf x.s), .bool x.b] 28)) (.cells #[.int .i64 y.k, .int .i64 y.n, .string (strOf y.s), .bool y.b] 28)
    rw [World.size_alloc, World.size_alloc] at h; exact h
  have hxx : (((w.alloc (.cells #[.int .i64 v.k, .int .i64 v.n, .string (strOf v.s), .bool v.b] 28)).alloc (.cells #[.int .i64 x.k, .int .i64 x.n, .string (strOf x.s), .bool x.b] 28)).alloc (.cells #[.int .i64 y.k, .int .i64 y.n, .string (strOf y.s), .bool y.b] 28)).heap[w.heap.size + 1]? = some (.cells #[.int .i64 x.k, .int .i64 x.n, .string (strOf x.s), .bool x.b] 28 (0, 0)) := by
    have h := heap_alloc_new (w.alloc (.cells #[.int .i64 v.k, .int .i64 v.n, .string (strOf v.s), .bool v.b] 28)) (.cells #[.int .i64 x.k, .int .i64 x.n, .string (strOf x.s), .bool x.b] 28)
    rw [World.size_alloc] at h
    rw [((Ext.refl _).alloc (.cells #[.int .i64 y.k, .int .i64 y.n, .string (strOf y.s), .bool y.b] 28)).block _ (by rw [World.size_alloc, World.size_alloc]; omega)]
    exact h
  have hv : (((w.alloc (.cells #[.int .i64 v.k, .int .i64 v.n, .string (strOf v.s), .bool v.b] 28)).alloc (.cells #[.int .i64 x.k, .int .i64 x.n, .string (strOf x.s), .bool x.b] 28)).alloc (.cells #[.int .i64 y.k, .int .i64 y.n, .string (strOf y.s), .bool y.b] 28)).heap[w.heap.size]? = some (.cells #[.int .i64 v.k, .int .i64 v.n, .string (strOf v.s), .bool v.b] 28 (0, 0)) := by
    have h := heap_alloc_new w (.cells #[.int .i64 v.k, .int .i64 v.n, .string (strOf v.s), .bool v.b] 28)
    rw [(((Ext.refl _).alloc (.cells #[.int .i64 x.k, .int .i64 x.n, .string (strOf x.s), .bool x.b] 28)).alloc (.cells #[.int .i64 y.k, .int .i64 y.n, .string (strOf y.s), .bool y.b] 28)).block _ (by rw [World.size_alloc]; omega)]
    exact h
  have s1 := ask22 _ _ _ x v 1 hxx hv
  rw [ask1] at s1
  have S1 := Lib.hid s1
  clear s1
  have s2 := ask22 _ _ _ x v 2 hxx hv
  rw [a2] at s2
  have S2 := Lib.hid s2
  clear s2
  have s3 := ask22 _ _ _ x v 3 hxx hv
  rw [a3] at s3
  have S3 := Lib.hid s3
  clear s3
  have s4 := ask22 _ _ _ x v 4 hxx hv
  rw [a4] at s4
  have S4 := Lib.hid s4
  clear s4
  have s5 := ask22 _ _ _ x v 5 hxx hv
  rw [a5] at s5
  have S5 := Lib.hid s5
  clear s5
  have s6 := ask22 _ _ _ x v 6 hxx hv
  rw [a6] at s6
  have S6 := Lib.hid s6
  clear s6
  have s7 := ask22 _ _ _ x v 7 hxx hv
  rw [a7] at s7
  have S7 := Lib.hid s7
  clear s7
  have s8 := ask22 _ _ _ x v 8 hxx hv
  rw [a8] at s8
  have S8 := Lib.hid s8
  clear s8
  have v0 := cell_of_row _ _ 0 _ _ _ hv
  have v1 := cell_of_row _ _ 1 _ _ _ hv
  have v2 := cell_of_row _ _ 2 _ _ _ hv
  have v3 := cell_of_row _ _ 3 _ _ _ hv
  have x0 := cell_of_row _ _ 0 _ _ _ hxx
  have x1 := cell_of_row _ _ 1 _ _ _ hxx
  have x2 := cell_of_row _ _ 2 _ _ _ hxx
  have x3 := cell_of_row _ _ 3 _ _ _ hxx
  have y0 := cell_of_row _ _ 0 _ _ _ hy
  have y1 := cell_of_row _ _ 1 _ _ _ hy
  have y2 := cell_of_row _ _ 2 _ _ _ hy
  have y3 := cell_of_row _ _ 3 _ _ _ hy
  clear hy hxx hv
  go_enter Try.func6, Try.ntmps6
  go_wp2_with fail
  generalize ((w.alloc (.cells #[.int .i64 v.k, .int .i64 v.n, .string (strOf v.s), .bool v.b] 28)).alloc (.cells #[.int .i64 x.k, .int .i64 x.n, .string (strOf x.s), .bool x.b] 28)).alloc (.cells #[.int .i64 y.k, .int .i64 y.n, .string (strOf y.s), .bool y.b] 28) = w0 at *
  clear a2 a3 a4 a5 a6 a7 a8
  refine (S2.out _ (Ext.refl _)).mono ?_
  rintro e w2 ⟨rfl, hw2⟩
  go_wp2_with fail
  refine (S3.out _ hw2).mono ?_
  rintro e w3 ⟨rfl, hw3⟩
  go_wp2_with fail
  refine (S4.out _ hw3).mono ?_
  rintro e w4 ⟨rfl, hw4⟩
  go_wp2_with fail
  refine (S5.out _ hw4).mono ?_
  rintro e w5 ⟨rfl, hw5⟩
  go_wp2_with fail
  refine (S6.out _ hw5).mono ?_
  rintro e w6 ⟨rfl, hw6⟩
  go_wp2_with fail
  refine (S7.out _ hw6).mono ?_
  rintro e w7 ⟨rfl, hw7⟩
  have v0 := hw7.cell v0
  have v1 := hw7.cell v1
  have v2 := hw7.cell v2
  have v3 := hw7.cell v3
  have x0 := hw7.cell x0
  have x1 := hw7.cell x1
  have x2 := hw7.cell x2
  have x3 := hw7.cell x3
  have y0 := hw7.cell y0
  have y1 := hw7.cell y1
  have y2 := hw7.cell y2
  have y3 := hw7.cell y3
  go_wp2_with fail
  refine (awake_any _).mono ?_
  rintro e w9 ⟨rfl, hw9⟩
  have hw9 := hw7.trans hw9
  go_wp2_with fail
  refine (S8.out _ hw9).mono ?_
  rintro e w8 ⟨rfl, hw8⟩
  go_wp2_with fail
  refine (S1.out _ hw8).mono ?_
  rintro e w1 ⟨rfl, hw1⟩
  go_wp2_with fail
  go_ret
  exact ⟨rfl, hx0.trans hw1⟩

set_option maxRecDepth 100000 in
set_option maxHeartbeats 8000000 in
theorem asks_lt0 (w : World) (v x y : V) (hk : (v.k != x.k) = false) (a2 : holdsC (askC x 2) v = false) (a3 : holdsC (askC x 3) v = true) (a4 : holdsC (askC x 4) v = true) (a5 : holdsC (askC x 5) v = true) (a6 : holdsC (askC x 6) v = false) (a7 : holdsC (askC x 7) v = false) (a8 : holdsC (askC x 8) v = false) (ai : holdsC ⟨[97], 9, ⟨0, 0, [], false⟩, [y, x]⟩ v = false) (ay : (cmpV v y == 0) = false) : Calls Try.prog 6 #[.agg #[.int .i64 v.k, .int .i64 v.n, .string (strOf v.s), .bool v.b], .agg #[.int .i64 x.k, .int .i64 x.n, .string (strOf x.s), .bool x.b], .agg #[.int .i64 y.k, .int .i64 y.n, .string (strOf y.s), .bool y.b]] w fun e w' => e = .returned (.bool true) ∧ Ext w w' := by
  have hx0 : Ext w (((w.alloc (.cells #[.int .i64 v.k, .int .i64 v.n, .string (strOf v.s), .bool v.b] 28)).alloc (.cells #[.int .i64 x.k, .int .i64 x.n, .string (strOf x.s), .bool x.b] 28)).alloc (.cells #[.int .i64 y.k, .int .i64 y.n, .string (strOf y.s), .bool y.b] 28)) := (((Ext.refl w).alloc _).alloc _).alloc _
  have hy : (((w.alloc (.cells #[.int .i64 v.k, .int .i64 v.n, .string (strOf v.s), .bool v.b] 28)).alloc (.cells #[.int .i64 x.k, .int .i64 x.n, .string (strOf x.s), .bool x.b] 28)).alloc (.cells #[.int .i64 y.k, .int .i64 y.n, .string (strOf y.s), .bool y.b] 28)).heap[w.heap.size + 1 + 1]? = some (.cells #[.int .i64 y.k, .int .i64 y.n, .string (strOf y.s), .bool y.b] 28 (0, 0)) := by
    have h := heap_alloc_new ((w.alloc (.cells #[.int .i64 v.k, .int .i64 v.n, .string (strOf v.s), .bool v.b] 28)).alloc (.cells #[.int .i64 x.k, .int .i64 x.n, .string (strOf x.s), .bool x.b] 28)) (.cells #[.int .i64 y.k, .int .i64 y.n, .string (strOf y.s), .bool y.b] 28)
    rw [World.size_alloc, World.size_alloc] at h; exact h
  have hxx : (((w.alloc (.cells #[.int .i64 v.k, .int .i64 v.n, .string (strOf v.s), .bool v.b] 28)).alloc (.cells #[.int .i64 x.k, .int .i64 x.n, .string (strOf x.s), .bool x.b] 28)).alloc (.cells #[.int .i64 y.k, .int .i64 y.n, .string (strOf y.s), .bool y.b] 28)).heap[w.heap.size + 1]? = some (.cells #[.int .i64 x.k, .int .i64 x.n, .string (strOf x.s), .bool x.b] 28 (0, 0)) := by
    have h := heap_alloc_new (w.alloc (.cells #[.int .i64 v.k, .int .i64 v.n, .string (strOf v.s), .bool v.b] 28)) (.cells #[.int .i64 x.k, .int .i64 x.n, .string (strOf x.s), .bool x.b] 28)
    rw [World.size_alloc] at h
    rw [((Ext.refl _).alloc (.cells #[.int .i64 y.k, .int .i64 y.n, .string (strOf y.s), .bool y.b] 28)).block _ (by rw [World.size_alloc, World.size_alloc]; omega)]
    exact h
  have hv : (((w.alloc (.cells #[.int .i64 v.k, .int .i64 v.n, .string (strOf v.s), .bool v.b] 28)).alloc (.cells #[.int .i64 x.k, .int .i64 x.n, .string (strOf x.s), .bool x.b] 28)).alloc (.cells #[.int .i64 y.k, .int .i64 y.n, .string (strOf y.s), .bool y.b] 28)).heap[w.heap.size]? = some (.cells #[.int .i64 v.k, .int .i64 v.n, .string (strOf v.s), .bool v.b] 28 (0, 0)) := by
    have h := heap_alloc_new w (.cells #[.int .i64 v.k, .int .i64 v.n, .string (strOf v.s), .bool v.b] 28)
    rw [(((Ext.refl _).alloc (.cells #[.int .i64 x.k, .int .i64 x.n, .string (strOf x.s), .bool x.b] 28)).alloc (.cells #[.int .i64 y.k, .int .i64 y.n, .string (strOf y.s), .bool y.b] 28)).block _ (by rw [World.size_alloc]; omega)]
    exact h
  have s1 := ask22 _ _ _ x v 1 hxx hv
  rw [ask1] at s1
  have S1 := Lib.hid s1
  clear s1
  have s2 := ask22 _ _ _ x v 2 hxx hv
  rw [a2] at s2
  have S2 := Lib.hid s2
  clear s2
  have s3 := ask22 _ _ _ x v 3 hxx hv
  rw [a3] at s3
  have S3 := Lib.hid s3
  clear s3
  have s4 := ask22 _ _ _ x v 4 hxx hv
  rw [a4] at s4
  have S4 := Lib.hid s4
  clear s4
  have s5 := ask22 _ _ _ x v 5 hxx hv
  rw [a5] at s5
  have S5 := Lib.hid s5
  clear s5
  have s6 := ask22 _ _ _ x v 6 hxx hv
  rw [a6] at s6
  have S6 := Lib.hid s6
  clear s6
  have s7 := ask22 _ _ _ x v 7 hxx hv
  rw [a7] at s7
  have S7 := Lib.hid s7
  clear s7
  have s8 := ask22 _ _ _ x v 8 hxx hv
  rw [a8] at s8
  have S8 := Lib.hid s8
  clear s8
  have v0 := cell_of_row _ _ 0 _ _ _ hv
  have v1 := cell_of_row _ _ 1 _ _ _ hv
  have v2 := cell_of_row _ _ 2 _ _ _ hv
  have v3 := cell_of_row _ _ 3 _ _ _ hv
  have x0 := cell_of_row _ _ 0 _ _ _ hxx
  have x1 := cell_of_row _ _ 1 _ _ _ hxx
  have x2 := cell_of_row _ _ 2 _ _ _ hxx
  have x3 := cell_of_row _ _ 3 _ _ _ hxx
  have y0 := cell_of_row _ _ 0 _ _ _ hy
  have y1 := cell_of_row _ _ 1 _ _ _ hy
  have y2 := cell_of_row _ _ 2 _ _ _ hy
  have y3 := cell_of_row _ _ 3 _ _ _ hy
  clear hy hxx hv
  go_enter Try.func6, Try.ntmps6
  go_wp2_with fail
  generalize ((w.alloc (.cells #[.int .i64 v.k, .int .i64 v.n, .string (strOf v.s), .bool v.b] 28)).alloc (.cells #[.int .i64 x.k, .int .i64 x.n, .string (strOf x.s), .bool x.b] 28)).alloc (.cells #[.int .i64 y.k, .int .i64 y.n, .string (strOf y.s), .bool y.b] 28) = w0 at *
  clear a2 a3 a4 a5 a6 a7 a8
  refine (S2.out _ (Ext.refl _)).mono ?_
  rintro e w2 ⟨rfl, hw2⟩
  go_wp2_with fail
  refine (S3.out _ hw2).mono ?_
  rintro e w3 ⟨rfl, hw3⟩
  go_wp2_with fail
  refine (S4.out _ hw3).mono ?_
  rintro e w4 ⟨rfl, hw4⟩
  go_wp2_with fail
  refine (S5.out _ hw4).mono ?_
  rintro e w5 ⟨rfl, hw5⟩
  go_wp2_with fail
  refine (S6.out _ hw5).mono ?_
  rintro e w6 ⟨rfl, hw6⟩
  go_wp2_with fail
  refine (S7.out _ hw6).mono ?_
  rintro e w7 ⟨rfl, hw7⟩
  have v0 := hw7.cell v0
  have v1 := hw7.cell v1
  have v2 := hw7.cell v2
  have v3 := hw7.cell v3
  have x0 := hw7.cell x0
  have x1 := hw7.cell x1
  have x2 := hw7.cell x2
  have x3 := hw7.cell x3
  have y0 := hw7.cell y0
  have y1 := hw7.cell y1
  have y2 := hw7.cell y2
  have y3 := hw7.cell y3
  go_wp2_with fail
  refine wp_loop_rounds 4 ?_
  rw [rounds_succ]
  go_wp2_with fail
  rw [rounds_succ]
  go_wp2_with fail
  rw [rounds_succ]
  go_wp2_with fail
  rw [rounds_succ]
  have vq0 := v0
  have vq1 := v1
  have vq2 := v2
  have vq3 := v3
  have yq0 := y0
  have yq1 := y1
  have yq2 := y2
  have yq3 := y3
  have hS : SetR ((w7.alloc (.cells #[.bool true, .bool false, .bool false] 4)).alloc (.cells #[.int .i64 y.k, .int .i64 y.n, .string (strOf y.s), .bool y.b, .int .i64 x.k, .int .i64 x.n, .string (strOf x.s), .bool x.b] 28)) (.slice (some ⟨w7.heap.size + 1, 0, none⟩) 2 2) [y, x] := by
    have h := set_lit (w7.alloc (.cells #[.bool true, .bool false, .bool false] 4)) [y, x] (by show (2 : Nat) ≤ maxLen; decide)
    rw [World.size_alloc] at h
    exact h
  have hxL : Ext w7 (w7.alloc (.cells #[.bool true, .bool false, .bool false] 4)) := (Ext.refl _).alloc _
  have hxB : Ext w7 ((w7.alloc (.cells #[.bool true, .bool false, .bool false] 4)).alloc (.cells #[.int .i64 y.k, .int .i64 y.n, .string (strOf y.s), .bool y.b, .int .i64 x.k, .int .i64 x.n, .string (strOf x.s), .bool x.b] 28)) := hxL.alloc _
  have x0 := hxL.cell x0
  have x1 := hxL.cell x1
  have x2 := hxL.cell x2
  have x3 := hxL.cell x3
  have y0 := hxL.cell y0
  have y1 := hxL.cell y1
  have y2 := hxL.cell y2
  have y3 := hxL.cell y3
  have vb0 := hxB.cell v0
  have vb1 := hxB.cell v1
  have vb2 := hxB.cell v2
  have vb3 := hxB.cell v3
  clear hxL
  have hin := pholds_any _ ⟨[97], 9, ⟨0, 0, [], false⟩, [y, x]⟩ _ _ hS v
  rw [ai] at hin
  clear ai hS
  go_wp2_with fail
  generalize (w7.alloc (.cells #[.bool true, .bool false, .bool false] 4)).alloc (.cells #[.int .i64 y.k, .int .i64 y.n, .string (strOf y.s), .bool y.b, .int .i64 x.k, .int .i64 x.n, .string (strOf x.s), .bool x.b] 28) = wb at *
  refine hin.mono ?_
  rintro e w13 ⟨rfl, hw13⟩
  have hw13 := hxB.trans hw13
  clear hin hxB
  have v0 := hw13.cell vq0
  have v1 := hw13.cell vq1
  have v2 := hw13.cell vq2
  have v3 := hw13.cell vq3
  have y0 := hw13.cell yq0
  have y1 := hw13.cell yq1
  have y2 := hw13.cell yq2
  have y3 := hw13.cell yq3
  have hw13 := hw7.trans hw13
  go_wp2_with fail
  refine (cmpV_any _ v y).mono ?_
  rintro e w14 ⟨rfl, hw14⟩
  have hw14 := hw13.trans hw14.1
  go_wp2_with fail
  refine (S8.out _ hw14).mono ?_
  rintro e w8 ⟨rfl, hw8⟩
  go_wp2_with fail
  refine (awake_any _).mono ?_
  rintro e w9 ⟨rfl, hw9⟩
  have hw9 := hw8.trans hw9
  go_wp2_with fail
  refine (S1.out _ hw9).mono ?_
  rintro e w1 ⟨rfl, hw1⟩
  go_wp2_with fail
  go_ret
  exact ⟨rfl, hx0.trans hw1⟩

set_option maxRecDepth 100000 in
set_option maxHeartbeats 8000000 in
theorem asks_lt1 (w : World) (v x y : V) (hk : (v.k != x.k) = false) (a2 : holdsC (askC x 2) v = false) (a3 : holdsC (askC x 3) v = true) (a4 : holdsC (askC x 4) v = true) (a5 : holdsC (askC x 5) v = true) (a6 : holdsC (askC x 6) v = false) (a7 : holdsC (askC x 7) v = false) (a8 : holdsC (askC x 8) v = false) (ai : holdsC ⟨[97], 9, ⟨0, 0, [], false⟩, [y, x]⟩ v = true) (ay : (cmpV v y == 0) = true) : Calls Try.prog 6 #[.agg #[.int .i64 v.k, .int .i64 v.n, .string (strOf v.s), .bool v.b], .agg #[.int .i64 x.k, .int .i64 x.n, .string (strOf x.s), .bool x.b], .agg #[.int .i64 y.k, .int .i64 y.n, .string (strOf y.s), .bool y.b]] w fun e w' => e = .returned (.bool true) ∧ Ext w w' := by
  have hx0 : Ext w (((w.alloc (.cells #[.int .i64 v.k, .int .i64 v.n, .string (strOf v.s), .bool v.b] 28)).alloc (.cells #[.int .i64 x.k, .int .i64 x.n, .string (strOf x.s), .bool x.b] 28)).alloc (.cells #[.int .i64 y.k, .int .i64 y.n, .string (strOf y.s), .bool y.b] 28)) := (((Ext.refl w).alloc _).alloc _).alloc _
  have hy : (((w.alloc (.cells #[.int .i64 v.k, .int .i64 v.n, .string (strOf v.s), .bool v.b] 28)).alloc (.cells #[.int .i64 x.k, .int .i64 x.n, .string (strOf x.s), .bool x.b] 28)).alloc (.cells #[.int .i64 y.k, .int .i64 y.n, .string (strOf y.s), .bool y.b] 28)).heap[w.heap.size + 1 + 1]? = some (.cells #[.int .i64 y.k, .int .i64 y.n, .string (strOf y.s), .bool y.b] 28 (0, 0)) := by
    have h := heap_alloc_new ((w.alloc (.cells #[.int .i64 v.k, .int .i64 v.n, .string (strOf v.s), .bool v.b] 28)).alloc (.cells #[.int .i64 x.k, .int .i64 x.n, .string (strOf x.s), .bool x.b] 28)) (.cells #[.int .i64 y.k, .int .i64 y.n, .string (strOf y.s), .bool y.b] 28)
    rw [World.size_alloc, World.size_alloc] at h; exact h
  have hxx : (((w.alloc (.cells #[.int .i64 v.k, .int .i64 v.n, .string (strOf v.s), .bool v.b] 28)).alloc (.cells #[.int .i64 x.k, .int .i64 x.n, .string (strOf x.s), .bool x.b] 28)).alloc (.cells #[.int .i64 y.k, .int .i64 y.n, .string (strOf y.s), .bool y.b] 28)).heap[w.heap.size + 1]? = some (.cells #[.int .i64 x.k, .int .i64 x.n, .string (strOf x.s), .bool x.b] 28 (0, 0)) := by
    have h := heap_alloc_new (w.alloc (.cells #[.int .i64 v.k, .int .i64 v.n, .string (strOf v.s), .bool v.b] 28)) (.cells #[.int .i64 x.k, .int .i64 x.n, .string (strOf x.s), .bool x.b] 28)
    rw [World.size_alloc] at h
    rw [((Ext.refl _).alloc (.cells #[.int .i64 y.k, .int .i64 y.n, .string (strOf y.s), .bool y.b] 28)).block _ (by rw [World.size_alloc, World.size_alloc]; omega)]
    exact h
  have hv : (((w.alloc (.cells #[.int .i64 v.k, .int .i64 v.n, .string (strOf v.s), .bool v.b] 28)).alloc (.cells #[.int .i64 x.k, .int .i64 x.n, .string (strOf x.s), .bool x.b] 28)).alloc (.cells #[.int .i64 y.k, .int .i64 y.n, .string (strOf y.s), .bool y.b] 28)).heap[w.heap.size]? = some (.cells #[.int .i64 v.k, .int .i64 v.n, .string (strOf v.s), .bool v.b] 28 (0, 0)) := by
    have h := heap_alloc_new w (.cells #[.int .i64 v.k, .int .i64 v.n, .string (strOf v.s), .bool v.b] 28)
    rw [(((Ext.refl _).alloc (.cells #[.int .i64 x.k, .int .i64 x.n, .string (strOf x.s), .bool x.b] 28)).alloc (.cells #[.int .i64 y.k, .int .i64 y.n, .string (strOf y.s), .bool y.b] 28)).block _ (by rw [World.size_alloc]; omega)]
    exact h
  have s1 := ask22 _ _ _ x v 1 hxx hv
  rw [ask1] at s1
  have S1 := Lib.hid s1
  clear s1
  have s2 := ask22 _ _ _ x v 2 hxx hv
  rw [a2] at s2
  have S2 := Lib.hid s2
  clear s2
  have s3 := ask22 _ _ _ x v 3 hxx hv
  rw [a3] at s3
  have S3 := Lib.hid s3
  clear s3
  have s4 := ask22 _ _ _ x v 4 hxx hv
  rw [a4] at s4
  have S4 := Lib.hid s4
  clear s4
  have s5 := ask22 _ _ _ x v 5 hxx hv
  rw [a5] at s5
  have S5 := Lib.hid s5
  clear s5
  have s6 := ask22 _ _ _ x v 6 hxx hv
  rw [a6] at s6
  have S6 := Lib.hid s6
  clear s6
  have s7 := ask22 _ _ _ x v 7 hxx hv
  rw [a7] at s7
  have S7 := Lib.hid s7
  clear s7
  have s8 := ask22 _ _ _ x v 8 hxx hv
  rw [a8] at s8
  have S8 := Lib.hid s8
  clear s8
  have v0 := cell_of_row _ _ 0 _ _ _ hv
  have v1 := cell_of_row _ _ 1 _ _ _ hv
  have v2 := cell_of_row _ _ 2 _ _ _ hv
  have v3 := cell_of_row _ _ 3 _ _ _ hv
  have x0 := cell_of_row _ _ 0 _ _ _ hxx
  have x1 := cell_of_row _ _ 1 _ _ _ hxx
  have x2 := cell_of_row _ _ 2 _ _ _ hxx
  have x3 := cell_of_row _ _ 3 _ _ _ hxx
  have y0 := cell_of_row _ _ 0 _ _ _ hy
  have y1 := cell_of_row _ _ 1 _ _ _ hy
  have y2 := cell_of_row _ _ 2 _ _ _ hy
  have y3 := cell_of_row _ _ 3 _ _ _ hy
  clear hy hxx hv
  go_enter Try.func6, Try.ntmps6
  go_wp2_with fail
  generalize ((w.alloc (.cells #[.int .i64 v.k, .int .i64 v.n, .string (strOf v.s), .bool v.b] 28)).alloc (.cells #[.int .i64 x.k, .int .i64 x.n, .string (strOf x.s), .bool x.b] 28)).alloc (.cells #[.int .i64 y.k, .int .i64 y.n, .string (strOf y.s), .bool y.b] 28) = w0 at *
  clear a2 a3 a4 a5 a6 a7 a8
  refine (S2.out _ (Ext.refl _)).mono ?_
  rintro e w2 ⟨rfl, hw2⟩
  go_wp2_with fail
  refine (S3.out _ hw2).mono ?_
  rintro e w3 ⟨rfl, hw3⟩
  go_wp2_with fail
  refine (S4.out _ hw3).mono ?_
  rintro e w4 ⟨rfl, hw4⟩
  go_wp2_with fail
  refine (S5.out _ hw4).mono ?_
  rintro e w5 ⟨rfl, hw5⟩
  go_wp2_with fail
  refine (S6.out _ hw5).mono ?_
  rintro e w6 ⟨rfl, hw6⟩
  go_wp2_with fail
  refine (S7.out _ hw6).mono ?_
  rintro e w7 ⟨rfl, hw7⟩
  have v0 := hw7.cell v0
  have v1 := hw7.cell v1
  have v2 := hw7.cell v2
  have v3 := hw7.cell v3
  have x0 := hw7.cell x0
  have x1 := hw7.cell x1
  have x2 := hw7.cell x2
  have x3 := hw7.cell x3
  have y0 := hw7.cell y0
  have y1 := hw7.cell y1
  have y2 := hw7.cell y2
  have y3 := hw7.cell y3
  go_wp2_with fail
  refine wp_loop_rounds 4 ?_
  rw [rounds_succ]
  go_wp2_with fail
  rw [rounds_succ]
  go_wp2_with fail
  rw [rounds_succ]
  go_wp2_with fail
  rw [rounds_succ]
  have vq0 := v0
  have vq1 := v1
  have vq2 := v2
  have vq3 := v3
  have yq0 := y0
  have yq1 := y1
  have yq2 := y2
  have yq3 := y3
  have hS : SetR ((w7.alloc (.cells #[.bool true, .bool false, .bool false] 4)).alloc (.cells #[.int .i64 y.k, .int .i64 y.n, .string (strOf y.s), .bool y.b, .int .i64 x.k, .int .i64 x.n, .string (strOf x.s), .bool x.b] 28)) (.slice (some ⟨w7.heap.size + 1, 0, none⟩) 2 2) [y, x] := by
    have h := set_lit (w7.alloc (.cells #[.bool true, .bool false, .bool false] 4)) [y, x] (by show (2 : Nat) ≤ maxLen; decide)
    rw [World.size_alloc] at h
    exact h
  have hxL : Ext w7 (w7.alloc (.cells #[.bool true, .bool false, .bool false] 4)) := (Ext.refl _).alloc _
  have hxB : Ext w7 ((w7.alloc (.cells #[.bool true, .bool false, .bool false] 4)).alloc (.cells #[.int .i64 y.k, .int .i64 y.n, .string (strOf y.s), .bool y.b, .int .i64 x.k, .int .i64 x.n, .string (strOf x.s), .bool x.b] 28)) := hxL.alloc _
  have x0 := hxL.cell x0
  have x1 := hxL.cell x1
  have x2 := hxL.cell x2
  have x3 := hxL.cell x3
  have y0 := hxL.cell y0
  have y1 := hxL.cell y1
  have y2 := hxL.cell y2
  have y3 := hxL.cell y3
  have vb0 := hxB.cell v0
  have vb1 := hxB.cell v1
  have vb2 := hxB.cell v2
  have vb3 := hxB.cell v3
  clear hxL
  have hin := pholds_any _ ⟨[97], 9, ⟨0, 0, [], false⟩, [y, x]⟩ _ _ hS v
  rw [ai] at hin
  clear ai hS
  go_wp2_with fail
  generalize (w7.alloc (.cells #[.bool true, .bool false, .bool false] 4)).alloc (.cells #[.int .i64 y.k, .int .i64 y.n, .string (strOf y.s), .bool y.b, .int .i64 x.k, .int .i64 x.n, .string (strOf x.s), .bool x.b] 28) = wb at *
  refine hin.mono ?_
  rintro e w13 ⟨rfl, hw13⟩
  have hw13 := hxB.trans hw13
  clear hin hxB
  have v0 := hw13.cell vq0
  have v1 := hw13.cell vq1
  have v2 := hw13.cell vq2
  have v3 := hw13.cell vq3
  have y0 := hw13.cell yq0
  have y1 := hw13.cell yq1
  have y2 := hw13.cell yq2
  have y3 := hw13.cell yq3
  have hw13 := hw7.trans hw13
  go_wp2_with fail
  refine (cmpV_any _ v y).mono ?_
  rintro e w14 ⟨rfl, hw14⟩
  have hw14 := hw13.trans hw14.1
  go_wp2_with fail
  refine (S8.out _ hw14).mono ?_
  rintro e w8 ⟨rfl, hw8⟩
  go_wp2_with fail
  refine (awake_any _).mono ?_
  rintro e w9 ⟨rfl, hw9⟩
  have hw9 := hw8.trans hw9
  go_wp2_with fail
  refine (S1.out _ hw9).mono ?_
  rintro e w1 ⟨rfl, hw1⟩
  go_wp2_with fail
  go_ret
  exact ⟨rfl, hx0.trans hw1⟩

set_option maxRecDepth 100000 in
set_option maxHeartbeats 8000000 in
theorem asks_eq0 (w : World) (v x y : V) (hk : (v.k != x.k) = false) (a2 : holdsC (askC x 2) v = true) (a3 : holdsC (askC x 3) v = false) (a4 : holdsC (askC x 4) v = false) (a5 : holdsC (askC x 5) v = true) (a6 : holdsC (askC x 6) v = false) (a7 : holdsC (askC x 7) v = true) (a8 : holdsC (askC x 8) v = false) (ai : holdsC ⟨[97], 9, ⟨0, 0, [], false⟩, [y, x]⟩ v = true)  : Calls Try.prog 6 #[.agg #[.int .i64 v.k, .int .i64 v.n, .string (strOf v.s), .bool v.b], .agg #[.int .i64 x.k, .int .i64 x.n, .string (strOf x.s), .bool x.b], .agg #[.int .i64 y.k, .int .i64 y.n, .string (strOf y.s), .bool y.b]] w fun e w' => e = .returned (.bool true) ∧ Ext w w' := by
  have hx0 : Ext w (((w.alloc (.cells #[.int .i64 v.k, .int .i64 v.n, .string (strOf v.s), .bool v.b] 28)).alloc (.cells #[.int .i64 x.k, .int .i64 x.n, .string (strOf x.s), .bool x.b] 28)).alloc (.cells #[.int .i64 y.k, .int .i64 y.n, .string (strOf y.s), .bool y.b] 28)) := (((Ext.refl w).alloc _).alloc _).alloc _
  have hy : (((w.alloc (.cells #[.int .i64 v.k, .int .i64 v.n, .string (strOf v.s), .bool v.b] 28)).alloc (.cells #[.int .i64 x.k, .int .i64 x.n, .string (strOf x.s), .bool x.b] 28)).alloc (.cells #[.int .i64 y.k, .int .i64 y.n, .string (strOf y.s), .bool y.b] 28)).heap[w.heap.size + 1 + 1]? = some (.cells #[.int .i64 y.k, .int .i64 y.n, .string (strOf y.s), .bool y.b] 28 (0, 0)) := by
    have h := heap_alloc_new ((w.alloc (.cells #[.int .i64 v.k, .int .i64 v.n, .string (strOf v.s), .bool v.b] 28)).alloc (.cells #[.int .i64 x.k, .int .i64 x.n, .string (strOf x.s), .bool x.b] 28)) (.cells #[.int .i64 y.k, .int .i64 y.n, .string (strOf y.s), .bool y.b] 28)
    rw [World.size_alloc, World.size_alloc] at h; exact h
  have hxx : (((w.alloc (.cells #[.int .i64 v.k, .int .i64 v.n, .string (strOf v.s), .bool v.b] 28)).alloc (.cells #[.int .i64 x.k, .int .i64 x.n, .string (strOf x.s), .bool x.b] 28)).alloc (.cells #[.int .i64 y.k, .int .i64 y.n, .string (strOf y.s), .bool y.b] 28)).heap[w.heap.size + 1]? = some (.cells #[.int .i64 x.k, .int .i64 x.n, .string (strOf x.s), .bool x.b] 28 (0, 0)) := by
    have h := heap_alloc_new (w.alloc (.cells #[.int .i64 v.k, .int .i64 v.n, .string (strOf v.s), .bool v.b] 28)) (.cells #[.int .i64 x.k, .int .i64 x.n, .string (strOf x.s), .bool x.b] 28)
    rw [World.size_alloc] at h
    rw [((Ext.refl _).alloc (.cells #[.int .i64 y.k, .int .i64 y.n, .string (strOf y.s), .bool y.b] 28)).block _ (by rw [World.size_alloc, World.size_alloc]; omega)]
    exact h
  have hv : (((w.alloc (.cells #[.int .i64 v.k, .int .i64 v.n, .string (strOf v.s), .bool v.b] 28)).alloc (.cells #[.int .i64 x.k, .int .i64 x.n, .string (strOf x.s), .bool x.b] 28)).alloc (.cells #[.int .i64 y.k, .int .i64 y.n, .string (strOf y.s), .bool y.b] 28)).heap[w.heap.size]? = some (.cells #[.int .i64 v.k, .int .i64 v.n, .string (strOf v.s), .bool v.b] 28 (0, 0)) := by
    have h := heap_alloc_new w (.cells #[.int .i64 v.k, .int .i64 v.n, .string (strOf v.s), .bool v.b] 28)
    rw [(((Ext.refl _).alloc (.cells #[.int .i64 x.k, .int .i64 x.n, .string (strOf x.s), .bool x.b] 28)).alloc (.cells #[.int .i64 y.k, .int .i64 y.n, .string (strOf y.s), .bool y.b] 28)).block _ (by rw [World.size_alloc]; omega)]
    exact h
  have s1 := ask22 _ _ _ x v 1 hxx hv
  rw [ask1] at s1
  have S1 := Lib.hid s1
  clear s1
  have s2 := ask22 _ _ _ x v 2 hxx hv
  rw [a2] at s2
  have S2 := Lib.hid s2
  clear s2
  have s3 := ask22 _ _ _ x v 3 hxx hv
  rw [a3] at s3
  have S3 := Lib.hid s3
  clear s3
  have s4 := ask22 _ _ _ x v 4 hxx hv
  rw [a4] at s4
  have S4 := Lib.hid s4
  clear s4
  have s5 := ask22 _ _ _ x v 5 hxx hv
  rw [a5] at s5
  have S5 := Lib.hid s5
  clear s5
  have s6 := ask22 _ _ _ x v 6 hxx hv
  rw [a6] at s6
  have S6 := Lib.hid s6
  clear s6
  have s7 := ask22 _ _ _ x v 7 hxx hv
  rw [a7] at s7
  have S7 := Lib.hid s7
  clear s7
  have s8 := ask22 _ _ _ x v 8 hxx hv
  rw [a8] at s8
  have S8 := Lib.hid s8
  clear s8
  have v0 := cell_of_row _ _ 0 _ _ _ hv
  have v1 := cell_of_row _ _ 1 _ _ _ hv
  have v2 := cell_of_row _ _ 2 _ _ _ hv
  have v3 := cell_of_row _ _ 3 _ _ _ hv
  have x0 := cell_of_row _ _ 0 _ _ _ hxx
  have x1 := cell_of_row _ _ 1 _ _ _ hxx
  have x2 := cell_of_row _ _ 2 _ _ _ hxx
  have x3 := cell_of_row _ _ 3 _ _ _ hxx
  have y0 := cell_of_row _ _ 0 _ _ _ hy
  have y1 := cell_of_row _ _ 1 _ _ _ hy
  have y2 := cell_of_row _ _ 2 _ _ _ hy
  have y3 := cell_of_row _ _ 3 _ _ _ hy
  clear hy hxx hv
  go_enter Try.func6, Try.ntmps6
  go_wp2_with fail
  generalize ((w.alloc (.cells #[.int .i64 v.k, .int .i64 v.n, .string (strOf v.s), .bool v.b] 28)).alloc (.cells #[.int .i64 x.k, .int .i64 x.n, .string (strOf x.s), .bool x.b] 28)).alloc (.cells #[.int .i64 y.k, .int .i64 y.n, .string (strOf y.s), .bool y.b] 28) = w0 at *
  clear a2 a3 a4 a5 a6 a7 a8
  refine (S2.out _ (Ext.refl _)).mono ?_
  rintro e w2 ⟨rfl, hw2⟩
  go_wp2_with fail
  refine (S3.out _ hw2).mono ?_
  rintro e w3 ⟨rfl, hw3⟩
  go_wp2_with fail
  refine (S4.out _ hw3).mono ?_
  rintro e w4 ⟨rfl, hw4⟩
  go_wp2_with fail
  refine (S5.out _ hw4).mono ?_
  rintro e w5 ⟨rfl, hw5⟩
  go_wp2_with fail
  refine (S6.out _ hw5).mono ?_
  rintro e w6 ⟨rfl, hw6⟩
  go_wp2_with fail
  refine (S7.out _ hw6).mono ?_
  rintro e w7 ⟨rfl, hw7⟩
  have v0 := hw7.cell v0
  have v1 := hw7.cell v1
  have v2 := hw7.cell v2
  have v3 := hw7.cell v3
  have x0 := hw7.cell x0
  have x1 := hw7.cell x1
  have x2 := hw7.cell x2
  have x3 := hw7.cell x3
  have y0 := hw7.cell y0
  have y1 := hw7.cell y1
  have y2 := hw7.cell y2
  have y3 := hw7.cell y3
  go_wp2_with fail
  refine wp_loop_rounds 4 ?_
  rw [rounds_succ]
  go_wp2_with fail
  rw [rounds_succ]
  go_wp2_with fail
  rw [rounds_succ]
  go_wp2_with fail
  rw [rounds_succ]
  have vq0 := v0
  have vq1 := v1
  have vq2 := v2
  have vq3 := v3
  have yq0 := y0
  have yq1 := y1
  have yq2 := y2
  have yq3 := y3
  have hS : SetR ((w7.alloc (.cells #[.bool false, .bool true, .bool false] 4)).alloc (.cells #[.int .i64 y.k, .int .i64 y.n, .string (strOf y.s), .bool y.b, .int .i64 x.k, .int .i64 x.n, .string (strOf x.s), .bool x.b] 28)) (.slice (some ⟨w7.heap.size + 1, 0, none⟩) 2 2) [y, x] := by
    have h := set_lit (w7.alloc (.cells #[.bool false, .bool true, .bool false] 4)) [y, x] (by show (2 : Nat) ≤ maxLen; decide)
    rw [World.size_alloc] at h
    exact h
  have hxL : Ext w7 (w7.alloc (.cells #[.bool false, .bool true, .bool false] 4)) := (Ext.refl _).alloc _
  have hxB : Ext w7 ((w7.alloc (.cells #[.bool false, .bool true, .bool false] 4)).alloc (.cells #[.int .i64 y.k, .int .i64 y.n, .string (strOf y.s), .bool y.b, .int .i64 x.k, .int .i64 x.n, .string (strOf x.s), .bool x.b] 28)) := hxL.alloc _
  have x0 := hxL.cell x0
  have x1 := hxL.cell x1
  have x2 := hxL.cell x2
  have x3 := hxL.cell x3
  have y0 := hxL.cell y0
  have y1 := hxL.cell y1
  have y2 := hxL.cell y2
  have y3 := hxL.cell y3
  have vb0 := hxB.cell v0
  have vb1 := hxB.cell v1
  have vb2 := hxB.cell v2
  have vb3 := hxB.cell v3
  clear hxL
  have hin := pholds_any _ ⟨[97], 9, ⟨0, 0, [], false⟩, [y, x]⟩ _ _ hS v
  rw [ai] at hin
  clear ai hS
  go_wp2_with fail
  generalize (w7.alloc (.cells #[.bool false, .bool true, .bool false] 4)).alloc (.cells #[.int .i64 y.k, .int .i64 y.n, .string (strOf y.s), .bool y.b, .int .i64 x.k, .int .i64 x.n, .string (strOf x.s), .bool x.b] 28) = wb at *
  refine hin.mono ?_
  rintro e w13 ⟨rfl, hw13⟩
  have hw13 := hxB.trans hw13
  clear hin hxB
  have v0 := hw13.cell vq0
  have v1 := hw13.cell vq1
  have v2 := hw13.cell vq2
  have v3 := hw13.cell vq3
  have y0 := hw13.cell yq0
  have y1 := hw13.cell yq1
  have y2 := hw13.cell yq2
  have y3 := hw13.cell yq3
  have hw13 := hw7.trans hw13
  go_wp2_with fail
  refine (S8.out _ hw13).mono ?_
  rintro e w8 ⟨rfl, hw8⟩
  go_wp2_with fail
  refine (awake_any _).mono ?_
  rintro e w9 ⟨rfl, hw9⟩
  have hw9 := hw8.trans hw9
  go_wp2_with fail
  refine (S1.out _ hw9).mono ?_
  rintro e w1 ⟨rfl, hw1⟩
  go_wp2_with fail
  go_ret
  exact ⟨rfl, hx0.trans hw1⟩

set_option maxRecDepth 100000 in
set_option maxHeartbeats 8000000 in
theorem asks_eq1 (w : World) (v x y : V) (hk : (v.k != x.k) = false) (a2 : holdsC (askC x 2) v = true) (a3 : holdsC (askC x 3) v = false) (a4 : holdsC (askC x 4) v = false) (a5 : holdsC (askC x 5) v = true) (a6 : holdsC (askC x 6) v = false) (a7 : holdsC (askC x 7) v = true) (a8 : holdsC (askC x 8) v = true) (ai : holdsC ⟨[97], 9, ⟨0, 0, [], false⟩, [y, x]⟩ v = true)  : Calls Try.prog 6 #[.agg #[.int .i64 v.k, .int .i64 v.n, .string (strOf v.s), .bool v.b], .agg #[.int .i64 x.k, .int .i64 x.n, .string (strOf x.s), .bool x.b], .agg #[.int .i64 y.k, .int .i64 y.n, .string (strOf y.s), .bool y.b]] w fun e w' => e = .returned (.bool true) ∧ Ext w w' := by
  have hx0 : Ext w (((w.alloc (.cells #[.int .i64 v.k, .int .i64 v.n, .string (strOf v.s), .bool v.b] 28)).alloc (.cells #[.int .i64 x.k, .int .i64 x.n, .string (strOf x.s), .bool x.b] 28)).alloc (.cells #[.int .i64 y.k, .int .i64 y.n, .string (strOf y.s), .bool y.b] 28)) := (((Ext.refl w).alloc _).alloc _).alloc _
  have hy : (((w.alloc (.cells #[.int .i64 v.k, .int .i64 v.n, .string (strOf v.s), .bool v.b] 28)).alloc (.cells #[.int .i64 x.k, .int .i64 x.n, .string (strOf x.s), .bool x.b] 28)).alloc (.cells #[.int .i64 y.k, .int .i64 y.n, .string (strOf y.s), .bool y.b] 28)).heap[w.heap.size + 1 + 1]? = some (.cells #[.int .i64 y.k, .int .i64 y.n, .string (strOf y.s), .bool y.b] 28 (0, 0)) := by
    have h := heap_alloc_new ((w.alloc (.cells #[.int .i64 v.k, .int .i64 v.n, .string (strOf v.s), .bool v.b] 28)).alloc (.cells #[.int .i64 x.k, .int .i64 x.n, .string (strOf x.s), .bool x.b] 28)) (.cells #[.int .i64 y.k, .int .i64 y.n, .string (strOf y.s), .bool y.b] 28)
    rw [World.size_alloc, World.size_alloc] at h; exact h
  have hxx : (((w.alloc (.cells #[.int .i64 v.k, .int .i64 v.n, .string (strOf v.s), .bool v.b] 28)).alloc (.cells #[.int .i64 x.k, .int .i64 x.n, .string (strOf x.s), .bool x.b] 28)).alloc (.cells #[.int .i64 y.k, .int .i64 y.n, .string (strOf y.s), .bool y.b] 28)).heap[w.heap.size + 1]? = some (.cells #[.int .i64 x.k, .int .i64 x.n, .string (strOf x.s), .bool x.b] 28 (0, 0)) := by
    have h := heap_alloc_new (w.alloc (.cells #[.int .i64 v.k, .int .i64 v.n, .string (strOf v.s), .bool v.b] 28)) (.cells #[.int .i64 x.k, .int .i64 x.n, .string (strOf x.s), .bool x.b] 28)
    rw [World.size_alloc] at h
    rw [((Ext.refl _).alloc (.cells #[.int .i64 y.k, .int .i64 y.n, .string (strOf y.s), .bool y.b] 28)).block _ (by rw [World.size_alloc, World.size_alloc]; omega)]
    exact h
  have hv : (((w.alloc (.cells #[.int .i64 v.k, .int .i64 v.n, .string (strOf v.s), .bool v.b] 28)).alloc (.cells #[.int .i64 x.k, .int .i64 x.n, .string (strOf x.s), .bool x.b] 28)).alloc (.cells #[.int .i64 y.k, .int .i64 y.n, .string (strOf y.s), .bool y.b] 28)).heap[w.heap.size]? = some (.cells #[.int .i64 v.k, .int .i64 v.n, .string (strOf v.s), .bool v.b] 28 (0, 0)) := by
    have h := heap_alloc_new w (.cells #[.int .i64 v.k, .int .i64 v.n, .string (strOf v.s), .bool v.b] 28)
    rw [(((Ext.refl _).alloc (.cells #[.int .i64 x.k, .int .i64 x.n, .string (strOf x.s), .bool x.b] 28)).alloc (.cells #[.int .i64 y.k, .int .i64 y.n, .string (strOf y.s), .bool y.b] 28)).block _ (by rw [World.size_alloc]; omega)]
    exact h
  have s1 := ask22 _ _ _ x v 1 hxx hv
  rw [ask1] at s1
  have S1 := Lib.hid s1
  clear s1
  have s2 := ask22 _ _ _ x v 2 hxx hv
  rw [a2] at s2
  have S2 := Lib.hid s2
  clear s2
  have s3 := ask22 _ _ _ x v 3 hxx hv
  rw [a3] at s3
  have S3 := Lib.hid s3
  clear s3
  have s4 := ask22 _ _ _ x v 4 hxx hv
  rw [a4] at s4
  have S4 := Lib.hid s4
  clear s4
  have s5 := ask22 _ _ _ x v 5 hxx hv
  rw [a5] at s5
  have S5 := Lib.hid s5
  clear s5
  have s6 := ask22 _ _ _ x v 6 hxx hv
  rw [a6] at s6
  have S6 := Lib.hid s6
  clear s6
  have s7 := ask22 _ _ _ x v 7 hxx hv
  rw [a7] at s7
  have S7 := Lib.hid s7
  clear s7
  have s8 := ask22 _ _ _ x v 8 hxx hv
  rw [a8] at s8
  have S8 := Lib.hid s8
  clear s8
  have v0 := cell_of_row _ _ 0 _ _ _ hv
  have v1 := cell_of_row _ _ 1 _ _ _ hv
  have v2 := cell_of_row _ _ 2 _ _ _ hv
  have v3 := cell_of_row _ _ 3 _ _ _ hv
  have x0 := cell_of_row _ _ 0 _ _ _ hxx
  have x1 := cell_of_row _ _ 1 _ _ _ hxx
  have x2 := cell_of_row _ _ 2 _ _ _ hxx
  have x3 := cell_of_row _ _ 3 _ _ _ hxx
  have y0 := cell_of_row _ _ 0 _ _ _ hy
  have y1 := cell_of_row _ _ 1 _ _ _ hy
  have y2 := cell_of_row _ _ 2 _ _ _ hy
  have y3 := cell_of_row _ _ 3 _ _ _ hy
  clear hy hxx hv
  go_enter Try.func6, Try.ntmps6
  go_wp2_with fail
  generalize ((w.alloc (.cells #[.int .i64 v.k, .int .i64 v.n, .string (strOf v.s), .bool v.b] 28)).alloc (.cells #[.int .i64 x.k, .int .i64 x.n, .string (strOf x.s), .bool x.b] 28)).alloc (.cells #[.int .i64 y.k, .int .i64 y.n, .string (strOf y.s), .bool y.b] 28) = w0 at *
  clear a2 a3 a4 a5 a6 a7 a8
  refine (S2.out _ (Ext.refl _)).mono ?_
  rintro e w2 ⟨rfl, hw2⟩
  go_wp2_with fail
  refine (S3.out _ hw2).mono ?_
  rintro e w3 ⟨rfl, hw3⟩
  go_wp2_with fail
  refine (S4.out _ hw3).mono ?_
  rintro e w4 ⟨rfl, hw4⟩
  go_wp2_with fail
  refine (S5.out _ hw4).mono ?_
  rintro e w5 ⟨rfl, hw5⟩
  go_wp2_with fail
  refine (S6.out _ hw5).mono ?_
  rintro e w6 ⟨rfl, hw6⟩
  go_wp2_with fail
  refine (S7.out _ hw6).mono ?_
  rintro e w7 ⟨rfl, hw7⟩
  have v0 := hw7.cell v0
  have v1 := hw7.cell v1
  have v2 := hw7.cell v2
  have v3 := hw7.cell v3
  have x0 := hw7.cell x0
  have x1 := hw7.cell x1
  have x2 := hw7.cell x2
  have x3 := hw7.cell x3
  have y0 := hw7.cell y0
  have y1 := hw7.cell y1
  have y2 := hw7.cell y2
  have y3 := hw7.cell y3
  go_wp2_with fail
  refine wp_loop_rounds 4 ?_
  rw [rounds_succ]
  go_wp2_with fail
  rw [rounds_succ]
  go_wp2_with fail
  rw [rounds_succ]
  go_wp2_with fail
  rw [rounds_succ]
  have vq0 := v0
  have vq1 := v1
  have vq2 := v2
  have vq3 := v3
  have yq0 := y0
  have yq1 := y1
  have yq2 := y2
  have yq3 := y3
  have hS : SetR ((w7.alloc (.cells #[.bool false, .bool true, .bool false] 4)).alloc (.cells #[.int .i64 y.k, .int .i64 y.n, .string (strOf y.s), .bool y.b, .int .i64 x.k, .int .i64 x.n, .string (strOf x.s), .bool x.b] 28)) (.slice (some ⟨w7.heap.size + 1, 0, none⟩) 2 2) [y, x] := by
    have h := set_lit (w7.alloc (.cells #[.bool false, .bool true, .bool false] 4)) [y, x] (by show (2 : Nat) ≤ maxLen; decide)
    rw [World.size_alloc] at h
    exact h
  have hxL : Ext w7 (w7.alloc (.cells #[.bool false, .bool true, .bool false] 4)) := (Ext.refl _).alloc _
  have hxB : Ext w7 ((w7.alloc (.cells #[.bool false, .bool true, .bool false] 4)).alloc (.cells #[.int .i64 y.k, .int .i64 y.n, .string (strOf y.s), .bool y.b, .int .i64 x.k, .int .i64 x.n, .string (strOf x.s), .bool x.b] 28)) := hxL.alloc _
  have x0 := hxL.cell x0
  have x1 := hxL.cell x1
  have x2 := hxL.cell x2
  have x3 := hxL.cell x3
  have y0 := hxL.cell y0
  have y1 := hxL.cell y1
  have y2 := hxL.cell y2
  have y3 := hxL.cell y3
  have vb0 := hxB.cell v0
  have vb1 := hxB.cell v1
  have vb2 := hxB.cell v2
  have vb3 := hxB.cell v3
  clear hxL
  have hin := pholds_any _ ⟨[97], 9, ⟨0, 0, [], false⟩, [y, x]⟩ _ _ hS v
  rw [ai] at hin
  clear ai hS
  go_wp2_with fail
  generalize (w7.alloc (.cells #[.bool false, .bool true, .bool false] 4)).alloc (.cells #[.int .i64 y.k, .int .i64 y.n, .string (strOf y.s), .bool y.b, .int .i64 x.k, .int .i64 x.n, .string (strOf x.s), .bool x.b] 28) = wb at *
  refine hin.mono ?_
  rintro e w13 ⟨rfl, hw13⟩
  have hw13 := hxB.trans hw13
  clear hin hxB
  have v0 := hw13.cell vq0
  have v1 := hw13.cell vq1
  have v2 := hw13.cell vq2
  have v3 := hw13.cell vq3
  have y0 := hw13.cell yq0
  have y1 := hw13.cell yq1
  have y2 := hw13.cell yq2
  have y3 := hw13.cell yq3
  have hw13 := hw7.trans hw13
  go_wp2_with fail
  refine (S8.out _ hw13).mono ?_
  rintro e w8 ⟨rfl, hw8⟩
  go_wp2_with fail
  refine (awake_any _).mono ?_
  rintro e w9 ⟨rfl, hw9⟩
  have hw9 := hw8.trans hw9
  go_wp2_with fail
  refine (S1.out _ hw9).mono ?_
  rintro e w1 ⟨rfl, hw1⟩
  go_wp2_with fail
  go_ret
  exact ⟨rfl, hx0.trans hw1⟩

set_option maxRecDepth 100000 in
set_option maxHeartbeats 8000000 in
theorem asks_gt00 (w : World) (v x y : V) (hk : (v.k != x.k) = false) (a2 : holdsC (askC x 2) v = false) (a3 : holdsC (askC x 3) v = true) (a4 : holdsC (askC x 4) v = false) (a5 : holdsC (askC x 5) v = false) (a6 : holdsC (askC x 6) v = true) (a7 : holdsC (askC x 7) v = true) (a8 : holdsC (askC x 8) v = false) (ai : holdsC ⟨[97], 9, ⟨0, 0, [], false⟩, [y, x]⟩ v = false) (ay : (cmpV v y == 0) = false) : Calls Try.prog 6 #[.agg #[.int .i64 v.k, .int .i64 v.n, .string (strOf v.s), .bool v.b], .agg #[.int .i64 x.k, .int .i64 x.n, .string (strOf x.s), .bool x.b], .agg #[.int .i64 y.k, .int .i64 y.n, .string (strOf y.s), .bool y.b]] w fun e w' => e = .returned (.bool true) ∧ Ext w w' := by
  have hx0 : Ext w (((w.alloc (.cells #[.int .i64 v.k, .int .i64 v.n, .string (strOf v.s), .bool v.b] 28)).alloc (.cells #[.int .i64 x.k, .int .i64 x.n, .string (strOf x.s), .bool x.b] 28)).alloc (.cells #[.int .i64 y.k, .int .i64 y.n, .string (strOf y.s), .bool y.b] 28)) := (((Ext.refl w).alloc _).alloc _).alloc _
  have hy : (((w.alloc (.cells #[.int .i64 v.k, .int .i64 v.n, .string (strOf v.s), .bool v.b] 28)).alloc (.cells #[.int .i64 x.k, .int .i64 x.n, .string (strOf x.s), .bool x.b] 28)).alloc (.cells #[.int .i64 y.k, .int .i64 y.n, .string (strOf y.s), .bool y.b] 28)).heap[w.heap.size + 1 + 1]? = some (.cells #[.int .i64 y.k, .int .i64 y.n, .string (strOf y.s), .bool y.b] 28 (0, 0)) := by
    have h := heap_alloc_new ((w.alloc (.cells #[.int .i64 v.k, .int .i64 v.n, .string (strOf v.s), .bool v.b] 28)).alloc (.cells #[.int .i64 x.k, .int .i64 x.n, .string (strOf x.s), .bool x.b] 28)) (.cells #[.int .i64 y.k, .int .i64 y.n, .string (strOf y.s), .bool y.b] 28)
    rw [World.size_alloc, World.size_alloc] at h; exact h
  have hxx : (((w.alloc (.cells #[.int .i64 v.k, .int .i64 v.n, .string (strOf v.s), .bool v.b] 28)).alloc (.cells #[.int .i64 x.k, .int .i64 x.n, .string (strOf x.s), .bool x.b] 28)).alloc (.cells #[.int .i64 y.k, .int .i64 y.n, .string (strOf y.s), .bool y.b] 28)).heap[w.heap.size + 1]? = some (.cells #[.int .i64 x.k, .int .i64 x.n, .string (strOf x.s), .bool x.b] 28 (0, 0)) := by
    have h := heap_alloc_new (w.alloc (.cells #[.int .i64 v.k, .int .i64 v.n, .string (strOf v.s), .bool v.b] 28)) (.cells #[.int .i64 x.k, .int .i64 x.n, .string (strOf x.s), .bool x.b] 28)
    rw [World.size_alloc] at h
    rw [((Ext.refl _).alloc (.cells #[.int .i64 y.k, .int .i64 y.n, .string (strOf y.s), .bool y.b] 28)).block _ (by rw [World.size_alloc, World.size_alloc]; omega)]
    exact h
  have hv : (((w.alloc (.cells #[.int .i64 v.k, .int .i64 v.n, .string (strOf v.s), .bool v.b] 28)).alloc (.cells #[.int .i64 x.k, .int .i64 x.n, .string (strOf x.s), .bool x.b] 28)).alloc (.cells #[.int .i64 y.k, .int .i64 y.n, .string (strOf y.s), .bool y.b] 28)).heap[w.heap.size]? = some (.cells #[.int .i64 v.k, .int .i64 v.n, .string (strOf v.s), .bool v.b] 28 (0, 0)) := by
    have h := heap_alloc_new w (.cells #[.int .i64 v.k, .int .i64 v.n, .string (strOf v.s), .bool v.b] 28)
    rw [(((Ext.refl _).alloc (.cells #[.int .i64 x.k, .int .i64 x.n, .string (strOf x.s), .bool x.b] 28)).alloc (.cells #[.int .i64 y.k, .int .i64 y.n, .string (strOf y.s), .bool y.b] 28)).block _ (by rw [World.size_alloc]; omega)]
    exact h
  have s1 := ask22 _ _ _ x v 1 hxx hv
  rw [ask1] at s1
  have S1 := Lib.hid s1
  clear s1
  have s2 := ask22 _ _ _ x v 2 hxx hv
  rw [a2] at s2
  have S2 := Lib.hid s2
  clear s2
  have s3 := ask22 _ _ _ x v 3 hxx hv
  rw [a3] at s3
  have S3 := Lib.hid s3
  clear s3
  have s4 := ask22 _ _ _ x v 4 hxx hv
  rw [a4] at s4
  have S4 := Lib.hid s4
  clear s4
  have s5 := ask22 _ _ _ x v 5 hxx hv
  rw [a5] at s5
  have S5 := Lib.hid s5
  clear s5
  have s6 := ask22 _ _ _ x v 6 hxx hv
  rw [a6] at s6
  have S6 := Lib.hid s6
  clear s6
  have s7 := ask22 _ _ _ x v 7 hxx hv
  rw [a7] at s7
  have S7 := Lib.hid s7
  clear s7
  have s8 := ask22 _ _ _ x v 8 hxx hv
  rw [a8] at s8
  have S8 := Lib.hid s8
  clear s8
  have v0 := cell_of_row _ _ 0 _ _ _ hv
  have v1 := cell_of_row _ _ 1 _ _ _ hv
  have v2 := cell_of_row _ _ 2 _ _ _ hv
  have v3 := cell_of_row _ _ 3 _ _ _ hv
  have x0 := cell_of_row _ _ 0 _ _ _ hxx
  have x1 := cell_of_row _ _ 1 _ _ _ hxx
  have x2 := cell_of_row _ _ 2 _ _ _ hxx
  have x3 := cell_of_row _ _ 3 _ _ _ hxx
  have y0 := cell_of_row _ _ 0 _ _ _ hy
  have y1 := cell_of_row _ _ 1 _ _ _ hy
  have y2 := cell_of_row _ _ 2 _ _ _ hy
  have y3 := cell_of_row _ _ 3 _ _ _ hy
  clear hy hxx hv
  go_enter Try.func6, Try.ntmps6
  go_wp2_with fail
  generalize ((w.alloc (.cells #[.int .i64 v.k, .int .i64 v.n, .string (strOf v.s), .bool v.b] 28)).alloc (.cells #[.int .i64 x.k, .int .i64 x.n, .string (strOf x.s), .bool x.b] 28)).alloc (.cells #[.int .i64 y.k, .int .i64 y.n, .string (strOf y.s), .bool y.b] 28) = w0 at *
  clear a2 a3 a4 a5 a6 a7 a8
  refine (S2.out _ (Ext.refl _)).mono ?_
  rintro e w2 ⟨rfl, hw2⟩
  go_wp2_with fail
  refine (S3.out _ hw2).mono ?_
  rintro e w3 ⟨rfl, hw3⟩
  go_wp2_with fail
  refine (S4.out _ hw3).mono ?_
  rintro e w4 ⟨rfl, hw4⟩
  go_wp2_with fail
  refine (S5.out _ hw4).mono ?_
  rintro e w5 ⟨rfl, hw5⟩
  go_wp2_with fail
  refine (S6.out _ hw5).mono ?_
  rintro e w6 ⟨rfl, hw6⟩
  go_wp2_with fail
  refine (S7.out _ hw6).mono ?_
  rintro e w7 ⟨rfl, hw7⟩
  have v0 := hw7.cell v0
  have v1 := hw7.cell v1
  have v2 := hw7.cell v2
  have v3 := hw7.cell v3
  have x0 := hw7.cell x0
  have x1 := hw7.cell x1
  have x2 := hw7.cell x2
  have x3 := hw7.cell x3
  have y0 := hw7.cell y0
  have y1 := hw7.cell y1
  have y2 := hw7.cell y2
  have y3 := hw7.cell y3
  go_wp2_with fail
  refine wp_loop_rounds 4 ?_
  rw [rounds_succ]
  go_wp2_with fail
  rw [rounds_succ]
  go_wp2_with fail
  rw [rounds_succ]
  go_wp2_with fail
  rw [rounds_succ]
  have vq0 := v0
  have vq1 := v1
  have vq2 := v2
  have vq3 := v3
  have yq0 := y0
  have yq1 := y1
  have yq2 := y2
  have yq3 := y3
  have hS : SetR ((w7.alloc (.cells #[.bool false, .bool false, .bool true] 4)).alloc (.cells #[.int .i64 y.k, .int .i64 y.n, .string (strOf y.s), .bool y.b, .int .i64 x.k, .int .i64 x.n, .string (strOf x.s), .bool x.b] 28)) (.slice (some ⟨w7.heap.size + 1, 0, none⟩) 2 2) [y, x] := by
    have h := set_lit (w7.alloc (.cells #[.bool false, .bool false, .bool true] 4)) [y, x] (by show (2 : Nat) ≤ maxLen; decide)
    rw [World.size_alloc] at h
    exact h
  have hxL : Ext w7 (w7.alloc (.cells #[.bool false, .bool false, .bool true] 4)) := (Ext.refl _).alloc _
  have hxB : Ext w7 ((w7.alloc (.cells #[.bool false, .bool false, .bool true] 4)).alloc (.cells #[.int .i64 y.k, .int .i64 y.n, .string (strOf y.s), .bool y.b, .int .i64 x.k, .int .i64 x.n, .string (strOf x.s), .bool x.b] 28)) := hxL.alloc _
  have x0 := hxL.cell x0
  have x1 := hxL.cell x1
  have x2 := hxL.cell x2
  have x3 := hxL.cell x3
  have y0 := hxL.cell y0
  have y1 := hxL.cell y1
  have y2 := hxL.cell y2
  have y3 := hxL.cell y3
  have vb0 := hxB.cell v0
  have vb1 := hxB.cell v1
  have vb2 := hxB.cell v2
  have vb3 := hxB.cell v3
  clear hxL
  have hin := pholds_any _ ⟨[97], 9, ⟨0, 0, [], false⟩, [y, x]⟩ _ _ hS v
  rw [ai] at hin
  clear ai hS
  go_wp2_with fail
  generalize (w7.alloc (.cells #[.bool false, .bool false, .bool true] 4)).alloc (.cells #[.int .i64 y.k, .int .i64 y.n, .string (strOf y.s), .bool y.b, .int .i64 x.k, .int .i64 x.n, .string (strOf x.s), .bool x.b] 28) = wb at *
  refine hin.mono ?_
  rintro e w13 ⟨rfl, hw13⟩
  have hw13 := hxB.trans hw13
  clear hin hxB
  have v0 := hw13.cell vq0
  have v1 := hw13.cell vq1
  have v2 := hw13.cell vq2
  have v3 := hw13.cell vq3
  have y0 := hw13.cell yq0
  have y1 := hw13.cell yq1
  have y2 := hw13.cell yq2
  have y3 := hw13.cell yq3
  have hw13 := hw7.trans hw13
  go_wp2_with fail
  refine (cmpV_any _ v y).mono ?_
  rintro e w14 ⟨rfl, hw14⟩
  have hw14 := hw13.trans hw14.1
  go_wp2_with fail
  refine (S8.out _ hw14).mono ?_
  rintro e w8 ⟨rfl, hw8⟩
  go_wp2_with fail
  refine (awake_any _).mono ?_
  rintro e w9 ⟨rfl, hw9⟩
  have hw9 := hw8.trans hw9
  go_wp2_with fail
  refine (S1.out _ hw9).mono ?_
  rintro e w1 ⟨rfl, hw1⟩
  go_wp2_with fail
  go_ret
  exact ⟨rfl, hx0.trans hw1⟩

set_option maxRecDepth 100000 in
set_option maxHeartbeats 8000000 in
theorem asks_gt01 (w : World) (v x y : V) (hk : (v.k != x.k) = false) (a2 : holdsC (askC x 2) v = false) (a3 : holdsC (askC x 3) v = true) (a4 : holdsC (askC x 4) v = false) (a5 : holdsC (askC x 5) v = false) (a6 : holdsC (askC x 6) v = true) (a7 : holdsC (askC x 7) v = true) (a8 : holdsC (askC x 8) v = false) (ai : holdsC ⟨[97], 9, ⟨0, 0, [], false⟩, [y, x]⟩ v = true) (ay : (cmpV v y == 0) = true) : Calls Try.prog 6 #[.agg #[.int .i64 v.k, .int .i64 v.n, .string (strOf v.s), .bool v.b], .agg #[.int .i64 x.k, .int .i64 x.n, .string (strOf x.s), .bool x.b], .agg #[.int .i64 y.k, .int .i64 y.n, .string (strOf y.s), .bool y.b]] w fun e w' => e = .returned (.bool true) ∧ Ext w w' := by
  have hx0 : Ext w (((w.alloc (.cells #[.int .i64 v.k, .int .i64 v.n, .string (strOf v.s), .bool v.b] 28)).alloc (.cells #[.int .i64 x.k, .int .i64 x.n, .string (strOf x.s), .bool x.b] 28)).alloc (.cells #[.int .i64 y.k, .int .i64 y.n, .string (strOf y.s), .bool y.b] 28)) := (((Ext.refl w).alloc _).alloc _).alloc _
  have hy : (((w.alloc (.cells #[.int .i64 v.k, .int .i64 v.n, .string (strOf v.s), .bool v.b] 28)).alloc (.cells #[.int .i64 x.k, .int .i64 x.n, .string (strOf x.s), .bool x.b] 28)).alloc (.cells #[.int .i64 y.k, .int .i64 y.n, .string (strOf y.s), .bool y.b] 28)).heap[w.heap.size + 1 + 1]? = some (.cells #[.int .i64 y.k, .int .i64 y.n, .string (strOf y.s), .bool y.b] 28 (0, 0)) := by
    have h := heap_alloc_new ((w.alloc (.cells #[.int .i64 v.k, .int .i64 v.n, .string (strOf v.s), .bool v.b] 28)).alloc (.cells #[.int .i64 x.k, .int .i64 x.n, .string (strOf x.s), .bool x.b] 28)) (.cells #[.int .i64 y.k, .int .i64 y.n, .string (strOf y.s), .bool y.b] 28)
    rw [World.size_alloc, World.size_alloc] at h; exact h
  have hxx : (((w.alloc (.cells #[.int .i64 v.k, .int .i64 v.n, .string (strOf v.s), .bool v.b] 28)).alloc (.cells #[.int .i64 x.k, .int .i64 x.n, .string (strOf x.s), .bool x.b] 28)).alloc (.cells #[.int .i64 y.k, .int .i64 y.n, .string (strOf y.s), .bool y.b] 28)).heap[w.heap.size + 1]? = some (.cells #[.int .i64 x.k, .int .i64 x.n, .string (strOf x.s), .bool x.b] 28 (0, 0)) := by
    have h := heap_alloc_new (w.alloc (.cells #[.int .i64 v.k, .int .i64 v.n, .string (strOf v.s), .bool v.b] 28)) (.cells #[.int .i64 x.k, .int .i64 x.n, .string (strOf x.s), .bool x.b] 28)
    rw [World.size_alloc] at h
    rw [((Ext.refl _).alloc (.cells #[.int .i64 y.k, .int .i64 y.n, .string (strOf y.s), .bool y.b] 28)).block _ (by rw [World.size_alloc, World.size_alloc]; omega)]
    exact h
  have hv : (((w.alloc (.cells #[.int .i64 v.k, .int .i64 v.n, .string (strOf v.s), .bool v.b] 28)).alloc (.cells #[.int .i64 x.k, .int .i64 x.n, .string (strOf x.s), .bool x.b] 28)).alloc (.cells #[.int .i64 y.k, .int .i64 y.n, .string (strOf y.s), .bool y.b] 28)).heap[w.heap.size]? = some (.cells #[.int .i64 v.k, .int .i64 v.n, .string (strOf v.s), .bool v.b] 28 (0, 0)) := by
    have h := heap_alloc_new w (.cells #[.int .i64 v.k, .int .i64 v.n, .string (strOf v.s), .bool v.b] 28)
    rw [(((Ext.refl _).alloc (.cells #[.int .i64 x.k, .int .i64 x.n, .string (strOf x.s), .bool x.b] 28)).alloc (.cells #[.int .i64 y.k, .int .i64 y.n, .string (strOf y.s), .bool y.b] 28)).block _ (by rw [World.size_alloc]; omega)]
    exact h
  have s1 := ask22 _ _ _ x v 1 hxx hv
  rw [ask1] at s1
  have S1 := Lib.hid s1
  clear s1
  have s2 := ask22 _ _ _ x v 2 hxx hv
  rw [a2] at s2
  have S2 := Lib.hid s2
  clear s2
  have s3 := ask22 _ _ _ x v 3 hxx hv
  rw [a3] at s3
  have S3 := Lib.hid s3
  clear s3
  have s4 := ask22 _ _ _ x v 4 hxx hv
  rw [a4] at s4
  have S4 := Lib.hid s4
  clear s4
  have s5 := ask22 _ _ _ x v 5 hxx hv
  rw [a5] at s5
  have S5 := Lib.hid s5
  clear s5
  have s6 := ask22 _ _ _ x v 6 hxx hv
  rw [a6] at s6
  have S6 := Lib.hid s6
  clear s6
  have s7 := ask22 _ _ _ x v 7 hxx hv
  rw [a7] at s7
  have S7 := Lib.hid s7
  clear s7
  have s8 := ask22 _ _ _ x v 8 hxx hv
  rw [a8] at s8
  have S8 := Lib.hid s8
  clear s8
  have v0 := cell_of_row _ _ 0 _ _ _ hv
  have v1 := cell_of_row _ _ 1 _ _ _ hv
  have v2 := cell_of_row _ _ 2 _ _ _ hv
  have v3 := cell_of_row _ _ 3 _ _ _ hv
  have x0 := cell_of_row _ _ 0 _ _ _ hxx
  have x1 := cell_of_row _ _ 1 _ _ _ hxx
  have x2 := cell_of_row _ _ 2 _ _ _ hxx
  have x3 := cell_of_row _ _ 3 _ _ _ hxx
  have y0 := cell_of_row _ _ 0 _ _ _ hy
  have y1 := cell_of_row _ _ 1 _ _ _ hy
  have y2 := cell_of_row _ _ 2 _ _ _ hy
  have y3 := cell_of_row _ _ 3 _ _ _ hy
  clear hy hxx hv
  go_enter Try.func6, Try.ntmps6
  go_wp2_with fail
  generalize ((w.alloc (.cells #[.int .i64 v.k, .int .i64 v.n, .string (strOf v.s), .bool v.b] 28)).alloc (.cells #[.int .i64 x.k, .int .i64 x.n, .string (strOf x.s), .bool x.b] 28)).alloc (.cells #[.int .i64 y.k, .int .i64 y.n, .string (strOf y.s), .bool y.b] 28) = w0 at *
  clear a2 a3 a4 a5 a6 a7 a8
  refine (S2.out _ (Ext.refl _)).mono ?_
  rintro e w2 ⟨rfl, hw2⟩
  go_wp2_with fail
  refine (S3.out _ hw2).mono ?_
  rintro e w3 ⟨rfl, hw3⟩
  go_wp2_with fail
  refine (S4.out _ hw3).mono ?_
  rintro e w4 ⟨rfl, hw4⟩
  go_wp2_with fail
  refine (S5.out _ hw4).mono ?_
  rintro e w5 ⟨rfl, hw5⟩
  go_wp2_with fail
  refine (S6.out _ hw5).mono ?_
  rintro e w6 ⟨rfl, hw6⟩
  go_wp2_with fail
  refine (S7.out _ hw6).mono ?_
  rintro e w7 ⟨rfl, hw7⟩
  have v0 := hw7.cell v0
  have v1 := hw7.cell v1
  have v2 := hw7.cell v2
  have v3 := hw7.cell v3
  have x0 := hw7.cell x0
  have x1 := hw7.cell x1
  have x2 := hw7.cell x2
  have x3 := hw7.cell x3
  have y0 := hw7.cell y0
  have y1 := hw7.cell y1
  have y2 := hw7.cell y2
  have y3 := hw7.cell y3
  go_wp2_with fail
  refine wp_loop_rounds 4 ?_
  rw [rounds_succ]
  go_wp2_with fail
  rw [rounds_succ]
  go_wp2_with fail
  rw [rounds_succ]
  go_wp2_with fail
  rw [rounds_succ]
  have vq0 := v0
  have vq1 := v1
  have vq2 := v2
  have vq3 := v3
  have yq0 := y0
  have yq1 := y1
  have yq2 := y2
  have yq3 := y3
  have hS : SetR ((w7.alloc (.cells #[.bool false, .bool false, .bool true] 4)).alloc (.cells #[.int .i64 y.k, .int .i64 y.n, .string (strOf y.s), .bool y.b, .int .i64 x.k, .int .i64 x.n, .string (strOf x.s), .bool x.b] 28)) (.slice (some ⟨w7.heap.size + 1, 0, none⟩) 2 2) [y, x] := by
    have h := set_lit (w7.alloc (.cells #[.bool false, .bool false, .bool true] 4)) [y, x] (by show (2 : Nat) ≤ maxLen; decide)
    rw [World.size_alloc] at h
    exact h
  have hxL : Ext w7 (w7.alloc (.cells #[.bool false, .bool false, .bool true] 4)) := (Ext.refl _).alloc _
  have hxB : Ext w7 ((w7.alloc (.cells #[.bool false, .bool false, .bool true] 4)).alloc (.cells #[.int .i64 y.k, .int .i64 y.n, .string (strOf y.s), .bool y.b, .int .i64 x.k, .int .i64 x.n, .string (strOf x.s), .bool x.b] 28)) := hxL.alloc _
  have x0 := hxL.cell x0
  have x1 := hxL.cell x1
  have x2 := hxL.cell x2
  have x3 := hxL.cell x3
  have y0 := hxL.cell y0
  have y1 := hxL.cell y1
  have y2 := hxL.cell y2
  have y3 := hxL.cell y3
  have vb0 := hxB.cell v0
  have vb1 := hxB.cell v1
  have vb2 := hxB.cell v2
  have vb3 := hxB.cell v3
  clear hxL
  have hin := pholds_any _ ⟨[97], 9, ⟨0, 0, [], false⟩, [y, x]⟩ _ _ hS v
  rw [ai] at hin
  clear ai hS
  go_wp2_with fail
  generalize (w7.alloc (.cells #[.bool false, .bool false, .bool true] 4)).alloc (.cells #[.int .i64 y.k, .int .i64 y.n, .string (strOf y.s), .bool y.b, .int .i64 x.k, .int .i64 x.n, .string (strOf x.s), .bool x.b] 28) = wb at *
  refine hin.mono ?_
  rintro e w13 ⟨rfl, hw13⟩
  have hw13 := hxB.trans hw13
  clear hin hxB
  have v0 := hw13.cell vq0
  have v1 := hw13.cell vq1
  have v2 := hw13.cell vq2
  have v3 := hw13.cell vq3
  have y0 := hw13.cell yq0
  have y1 := hw13.cell yq1
  have y2 := hw13.cell yq2
  have y3 := hw13.cell yq3
  have hw13 := hw7.trans hw13
  go_wp2_with fail
  refine (cmpV_any _ v y).mono ?_
  rintro e w14 ⟨rfl, hw14⟩
  have hw14 := hw13.trans hw14.1
  go_wp2_with fail
  refine (S8.out _ hw14).mono ?_
  rintro e w8 ⟨rfl, hw8⟩
  go_wp2_with fail
  refine (awake_any _).mono ?_
  rintro e w9 ⟨rfl, hw9⟩
  have hw9 := hw8.trans hw9
  go_wp2_with fail
  refine (S1.out _ hw9).mono ?_
  rintro e w1 ⟨rfl, hw1⟩
  go_wp2_with fail
  go_ret
  exact ⟨rfl, hx0.trans hw1⟩

set_option maxRecDepth 100000 in
set_option maxHeartbeats 8000000 in
theorem asks_gt10 (w : World) (v x y : V) (hk : (v.k != x.k) = false) (a2 : holdsC (askC x 2) v = false) (a3 : holdsC (askC x 3) v = true) (a4 : holdsC (askC x 4) v = false) (a5 : holdsC (askC x 5) v = false) (a6 : holdsC (askC x 6) v = true) (a7 : holdsC (askC x 7) v = true) (a8 : holdsC (askC x 8) v = true) (ai : holdsC ⟨[97], 9, ⟨0, 0, [], false⟩, [y, x]⟩ v = false) (ay : (cmpV v y == 0) = false) : Calls Try.prog 6 #[.agg #[.int .i64 v.k, .int .i64 v.n, .string (strOf v.s), .bool v.b], .agg #[.int .i64 x.k, .int .i64 x.n, .string (strOf x.s), .bool x.b], .agg #[.int .i64 y.k, .int .i64 y.n, .string (strOf y.s), .bool y.b]] w fun e w' => e = .returned (.bool true) ∧ Ext w w' := by
  have hx0 : Ext w (((w.alloc (.cells #[.int .i64 v.k, .int .i64 v.n, .string (strOf v.s), .bool v.b] 28)).alloc (.cells #[.int .i64 x.k, .int .i64 x.n, .string (strOf x.s), .bool x.b] 28)).alloc (.cells #[.int .i64 y.k, .int .i64 y.n, .string (strOf y.s), .bool y.b] 28)) := (((Ext.refl w).alloc _).alloc _).alloc _
  have hy : (((w.alloc (.cells #[.int .i64 v.k, .int .i64 v.n, .string (strOf v.s), .bool v.b] 28)).alloc (.cells #[.int .i64 x.k, .int .i64 x.n, .string (strOf x.s), .bool x.b] 28)).alloc (.cells #[.int .i64 y.k, .int .i64 y.n, .string (strOf y.s), .bool y.b] 28)).heap[w.heap.size + 1 + 1]? = some (.cells #[.int .i64 y.k, .int .i64 y.n, .string (strOf y.s), .bool y.b] 28 (0, 0)) := by
    have h := heap_alloc_new ((w.alloc (.cells #[.int .i64 v.k, .int .i64 v.n, .string (strOf v.s), .bool v.b] 28)).alloc (.cells #[.int .i64 x.k, .int .i64 x.n, .string (strOf x.s), .bool x.b] 28)) (.cells #[.int .i64 y.k, .int .i64 y.n, .string (strOf y.s), .bool y.b] 28)
    rw [World.size_alloc, World.size_alloc] at h; exact h
  have hxx : (((w.alloc (.cells #[.int .i64 v.k, .int .i64 v.n, .string (strOf v.s), .bool v.b] 28)).alloc (.cells #[.int .i64 x.k, .int .i64 x.n, .string (strOf x.s), .bool x.b] 28)).alloc (.cells #[.int .i64 y.k, .int .i64 y.n, .string (strOf y.s), .bool y.b] 28)).heap[w.heap.size + 1]? = some (.cells #[.int .i64 x.k, .int .i64 x.n, .string (strOf x.s), .bool x.b] 28 (0, 0)) := by
    have h := heap_alloc_new (w.alloc (.cells #[.int .i64 v.k, .int .i64 v.n, .string (strOf v.s), .bool v.b] 28)) (.cells #[.int .i64 x.k, .int .i64 x.n, .string (strOf x.s), .bool x.b] 28)
    rw [World.size_alloc] at h
    rw [((Ext.refl _).alloc (.cells #[.int .i64 y.k, .int .i64 y.n, .string (strOf y.s), .bool y.b] 28)).block _ (by rw [World.size_alloc, World.size_alloc]; omega)]
    exact h
  have hv : (((w.alloc (.cells #[.int .i64 v.k, .int .i64 v.n, .string (strOf v.s), .bool v.b] 28)).alloc (.cells #[.int .i64 x.k, .int .i64 x.n, .string (strOf x.s), .bool x.b] 28)).alloc (.cells #[.int .i64 y.k, .int .i64 y.n, .string (strOf y.s), .bool y.b] 28)).heap[w.heap.size]? = some (.cells #[.int .i64 v.k, .int .i64 v.n, .string (strOf v.s), .bool v.b] 28 (0, 0)) := by
    have h := heap_alloc_new w (.cells #[.int .i64 v.k, .int .i64 v.n, .string (strOf v.s), .bool v.b] 28)
    rw [(((Ext.refl _).alloc (.cells #[.int .i64 x.k, .int .i64 x.n, .string (strOf x.s), .bool x.b] 28)).alloc (.cells #[.int .i64 y.k, .int .i64 y.n, .string (strOf y.s), .bool y.b] 28)).block _ (by rw [World.size_alloc]; omega)]
    exact h
  have s1 := ask22 _ _ _ x v 1 hxx hv
  rw [ask1] at s1
  have S1 := Lib.hid s1
  clear s1
  have s2 := ask22 _ _ _ x v 2 hxx hv
  rw [a2] at s2
  have S2 := Lib.hid s2
  clear s2
  have s3 := ask22 _ _ _ x v 3 hxx hv
  rw [a3] at s3
  have S3 := Lib.hid s3
  clear s3
  have s4 := ask22 _ _ _ x v 4 hxx hv
  rw [a4] at s4
  have S4 := Lib.hid s4
  clear s4
  have s5 := ask22 _ _ _ x v 5 hxx hv
  rw [a5] at s5
  have S5 := Lib.hid s5
  clear s5
  have s6 := ask22 _ _ _ x v 6 hxx hv
  rw [a6] at s6
  have S6 := Lib.hid s6
  clear s6
  have s7 := ask22 _ _ _ x v 7 hxx hv
  rw [a7] at s7
  have S7 := Lib.hid s7
  clear s7
  have s8 := ask22 _ _ _ x v 8 hxx hv
  rw [a8] at s8
  have S8 := Lib.hid s8
  clear s8
  have v0 := cell_of_row _ _ 0 _ _ _ hv
  have v1 := cell_of_row _ _ 1 _ _ _ hv
  have v2 := cell_of_row _ _ 2 _ _ _ hv
  have v3 := cell_of_row _ _ 3 _ _ _ hv
  have x0 := cell_of_row _ _ 0 _ _ _ hxx
  have x1 := cell_of_row _ _ 1 _ _ _ hxx
  have x2 := cell_of_row _ _ 2 _ _ _ hxx
  have x3 := cell_of_row _ _ 3 _ _ _ hxx
  have y0 := cell_of_row _ _ 0 _ _ _ hy
  have y1 := cell_of_row _ _ 1 _ _ _ hy
  have y2 := cell_of_row _ _ 2 _ _ _ hy
  have y3 := cell_of_row _ _ 3 _ _ _ hy
  clear hy hxx hv
  go_enter Try.func6, Try.ntmps6
  go_wp2_with fail
  generalize ((w.alloc (.cells #[.int .i64 v.k, .int .i64 v.n, .string (strOf v.s), .bool v.b] 28)).alloc (.cells #[.int .i64 x.k, .int .i64 x.n, .string (strOf x.s), .bool x.b] 28)).alloc (.cells #[.int .i64 y.k, .int .i64 y.n, .string (strOf y.s), .bool y.b] 28) = w0 at *
  clear a2 a3 a4 a5 a6 a7 a8
  refine (S2.out _ (Ext.refl _)).mono ?_
  rintro e w2 ⟨rfl, hw2⟩
  go_wp2_with fail
  refine (S3.out _ hw2).mono ?_
  rintro e w3 ⟨rfl, hw3⟩
  go_wp2_with fail
  refine (S4.out _ hw3).mono ?_
  rintro e w4 ⟨rfl, hw4⟩
  go_wp2_with fail
  refine (S5.out _ hw4).mono ?_
  rintro e w5 ⟨rfl, hw5⟩
  go_wp2_with fail
  refine (S6.out _ hw5).mono ?_
  rintro e w6 ⟨rfl, hw6⟩
  go_wp2_with fail
  refine (S7.out _ hw6).mono ?_
  rintro e w7 ⟨rfl, hw7⟩
  have v0 := hw7.cell v0
  have v1 := hw7.cell v1
  have v2 := hw7.cell v2
  have v3 := hw7.cell v3
  have x0 := hw7.cell x0
  have x1 := hw7.cell x1
  have x2 := hw7.cell x2
  have x3 := hw7.cell x3
  have y0 := hw7.cell y0
  have y1 := hw7.cell y1
  have y2 := hw7.cell y2
  have y3 := hw7.cell y3
  go_wp2_with fail
  refine wp_loop_rounds 4 ?_
  rw [rounds_succ]
  go_wp2_with fail
  rw [rounds_succ]
  go_wp2_with fail
  rw [rounds_succ]
  go_wp2_with fail
  rw [rounds_succ]
  have vq0 := v0
  have vq1 := v1
  have vq2 := v2
  have vq3 := v3
  have yq0 := y0
  have yq1 := y1
  have yq2 := y2
  have yq3 := y3
  have hS : SetR ((w7.alloc (.cells #[.bool false, .bool false, .bool true] 4)).alloc (.cells #[.int .i64 y.k, .int .i64 y.n, .string (strOf y.s), .bool y.b, .int .i64 x.k, .int .i64 x.n, .string (strOf x.s), .bool x.b] 28)) (.slice (some ⟨w7.heap.size + 1, 0, none⟩) 2 2) [y, x] := by
    have h := set_lit (w7.alloc (.cells #[.bool false, .bool false, .bool true] 4)) [y, x] (by show (2 : Nat) ≤ maxLen; decide)
    rw [World.size_alloc] at h
    exact h
  have hxL : Ext w7 (w7.alloc (.cells #[.bool false, .bool false, .bool true] 4)) := (Ext.refl _).alloc _
  have hxB : Ext w7 ((w7.alloc (.cells #[.bool false, .bool false, .bool true] 4)).alloc (.cells #[.int .i64 y.k, .int .i64 y.n, .string (strOf y.s), .bool y.b, .int .i64 x.k, .int .i64 x.n, .string (strOf x.s), .bool x.b] 28)) := hxL.alloc _
  have x0 := hxL.cell x0
  have x1 := hxL.cell x1
  have x2 := hxL.cell x2
  have x3 := hxL.cell x3
  have y0 := hxL.cell y0
  have y1 := hxL.cell y1
  have y2 := hxL.cell y2
  have y3 := hxL.cell y3
  have vb0 := hxB.cell v0
  have vb1 := hxB.cell v1
  have vb2 := hxB.cell v2
  have vb3 := hxB.cell v3
  clear hxL
  have hin := pholds_any _ ⟨[97], 9, ⟨0, 0, [], false⟩, [y, x]⟩ _ _ hS v
  rw [ai] at hin
  clear ai hS
  go_wp2_with fail
  generalize (w7.alloc (.cells #[.bool false, .bool false, .bool true] 4)).alloc (.cells #[.int .i64 y.k, .int .i64 y.n, .string (strOf y.s), .bool y.b, .int .i64 x.k, .int .i64 x.n, .string (strOf x.s), .bool x.b] 28) = wb at *
  refine hin.mono ?_
  rintro e w13 ⟨rfl, hw13⟩
  have hw13 := hxB.trans hw13
  clear hin hxB
  have v0 := hw13.cell vq0
  have v1 := hw13.cell vq1
  have v2 := hw13.cell vq2
  have v3 := hw13.cell vq3
  have y0 := hw13.cell yq0
  have y1 := hw13.cell yq1
  have y2 := hw13.cell yq2
  have y3 := hw13.cell yq3
  have hw13 := hw7.trans hw13
  go_wp2_with fail
  refine (cmpV_any _ v y).mono ?_
  rintro e w14 ⟨rfl, hw14⟩
  have hw14 := hw13.trans hw14.1
  go_wp2_with fail
  refine (S8.out _ hw14).mono ?_
  rintro e w8 ⟨rfl, hw8⟩
  go_wp2_with fail
  refine (awake_any _).mono ?_
  rintro e w9 ⟨rfl, hw9⟩
  have hw9 := hw8.trans hw9
  go_wp2_with fail
  refine (S1.out _ hw9).mono ?_
  rintro e w1 ⟨rfl, hw1⟩
  go_wp2_with fail
  go_ret
  exact ⟨rfl, hx0.trans hw1⟩

set_option maxRecDepth 100000 in
set_option maxHeartbeats 8000000 in
theorem asks_gt11 (w : World) (v x y : V) (hk : (v.k != x.k) = false) (a2 : holdsC (askC x 2) v = false) (a3 : holdsC (askC x 3) v = true) (a4 : holdsC (askC x 4) v = false) (a5 : holdsC (askC x 5) v = false) (a6 : holdsC (askC x 6) v = true) (a7 : holdsC (askC x 7) v = true) (a8 : holdsC (askC x 8) v = true) (ai : holdsC ⟨[97], 9, ⟨0, 0, [], false⟩, [y, x]⟩ v = true) (ay : (cmpV v y == 0) = true) : Calls Try.prog 6 #[.agg #[.int .i64 v.k, .int .i64 v.n, .string (strOf v.s), .bool v.b], .agg #[.int .i64 x.k, .int .i64 x.n, .string (strOf x.s), .bool x.b], .agg #[.int .i64 y.k, .int .i64 y.n, .string (strOf y.s), .bool y.b]] w fun e w' => e = .returned (.bool true) ∧ Ext w w' := by
  have hx0 : Ext w (((w.alloc (.cells #[.int .i64 v.k, .int .i64 v.n, .string (strOf v.s), .bool v.b] 28)).alloc (.cells #[.int .i64 x.k, .int .i64 x.n, .string (strOf x.s), .bool x.b] 28)).alloc (.cells #[.int .i64 y.k, .int .i64 y.n, .string (strOf y.s), .bool y.b] 28)) := (((Ext.refl w).alloc _).alloc _).alloc _
  have hy : (((w.alloc (.cells #[.int .i64 v.k, .int .i64 v.n, .string (strOf v.s), .bool v.b] 28)).alloc (.cells #[.int .i64 x.k, .int .i64 x.n, .string (strOf x.s), .bool x.b] 28)).alloc (.cells #[.int .i64 y.k, .int .i64 y.n, .string (strOf y.s), .bool y.b] 28)).heap[w.heap.size + 1 + 1]? = some (.cells #[.int .i64 y.k, .int .i64 y.n, .string (strOf y.s), .bool y.b] 28 (0, 0)) := by
    have h := heap_alloc_new ((w.alloc (.cells #[.int .i64 v.k, .int .i64 v.n, .string (strOf v.s), .bool v.b] 28)).alloc (.cells #[.int .i64 x.k, .int .i64 x.n, .string (strOf x.s), .bool x.b] 28)) (.cells #[.int .i64 y.k, .int .i64 y.n, .string (strOf y.s), .bool y.b] 28)
    rw [World.size_alloc, World.size_alloc] at h; exact h
  have hxx : (((w.alloc (.cells #[.int .i64 v.k, .int .i64 v.n, .string (strOf v.s), .bool v.b] 28)).alloc (.cells #[.int .i64 x.k, .int .i64 x.n, .string (strOf x.s), .bool x.b] 28)).alloc (.cells #[.int .i64 y.k, .int .i64 y.n, .string (strOf y.s), .bool y.b] 28)).heap[w.heap.size + 1]? = some (.cells #[.int .i64 x.k, .int .i64 x.n, .string (strOf x.s), .bool x.b] 28 (0, 0)) := by
    have h := heap_alloc_new (w.alloc (.cells #[.int .i64 v.k, .int .i64 v.n, .string (strOf v.s), .bool v.b] 28)) (.cells #[.int .i64 x.k, .int .i64 x.n, .string (strOf x.s), .bool x.b] 28)
    rw [World.size_alloc] at h
    rw [((Ext.refl _).alloc (.cells #[.int .i64 y.k, .int .i64 y.n, .string (strOf y.s), .bool y.b] 28)).block _ (by rw [World.size_alloc, World.size_alloc]; omega)]
    exact h
  have hv : (((w.alloc (.cells #[.int .i64 v.k, .int .i64 v.n, .string (strOf v.s), .bool v.b] 28)).alloc (.cells #[.int .i64 x.k, .int .i64 x.n, .string (strOf x.s), .bool x.b] 28)).alloc (.cells #[.int .i64 y.k, .int .i64 y.n, .string (strOf y.s), .bool y.b] 28)).heap[w.heap.size]? = some (.cells #[.int .i64 v.k, .int .i64 v.n, .string (strOf v.s), .bool v.b] 28 (0, 0)) := by
    have h := heap_alloc_new w (.cells #[.int .i64 v.k, .int .i64 v.n, .string (strOf v.s), .bool v.b] 28)
    rw [(((Ext.refl _).alloc (.cells #[.int .i64 x.k, .int .i64 x.n, .string (strOf x.s), .bool x.b] 28)).alloc (.cells #[.int .i64 y.k, .int .i64 y.n, .string (strOf y.s), .bool y.b] 28)).block _ (by rw [World.size_alloc]; omega)]
    exact h
  have s1 := ask22 _ _ _ x v 1 hxx hv
  rw [ask1] at s1
  have S1 := Lib.hid s1
  clear s1
  have s2 := ask22 _ _ _ x v 2 hxx hv
  rw [a2] at s2
  have S2 := Lib.hid s2
  clear s2
  have s3 := ask22 _ _ _ x v 3 hxx hv
  rw [a3] at s3
  have S3 := Lib.hid s3
  clear s3
  have s4 := ask22 _ _ _ x v 4 hxx hv
  rw [a4] at s4
  have S4 := Lib.hid s4
  clear s4
  have s5 := ask22 _ _ _ x v 5 hxx hv
  rw [a5] at s5
  have S5 := Lib.hid s5
  clear s5
  have s6 := ask22 _ _ _ x v 6 hxx hv
  rw [a6] at s6
  have S6 := Lib.hid s6
  clear s6
  have s7 := ask22 _ _ _ x v 7 hxx hv
  rw [a7] at s7
  have S7 := Lib.hid s7
  clear s7
  have s8 := ask22 _ _ _ x v 8 hxx hv
  rw [a8] at s8
  have S8 := Lib.hid s8
  clear s8
  have v0 := cell_of_row _ _ 0 _ _ _ hv
  have v1 := cell_of_row _ _ 1 _ _ _ hv
  have v2 := cell_of_row _ _ 2 _ _ _ hv
  have v3 := cell_of_row _ _ 3 _ _ _ hv
  have x0 := cell_of_row _ _ 0 _ _ _ hxx
  have x1 := cell_of_row _ _ 1 _ _ _ hxx
  have x2 := cell_of_row _ _ 2 _ _ _ hxx
  have x3 := cell_of_row _ _ 3 _ _ _ hxx
  have y0 := cell_of_row _ _ 0 _ _ _ hy
  have y1 := cell_of_row _ _ 1 _ _ _ hy
  have y2 := cell_of_row _ _ 2 _ _ _ hy
  have y3 := cell_of_row _ _ 3 _ _ _ hy
  clear hy hxx hv
  go_enter Try.func6, Try.ntmps6
  go_wp2_with fail
  generalize ((w.alloc (.cells #[.int .i64 v.k, .int .i64 v.n, .string (strOf v.s), .bool v.b] 28)).alloc (.cells #[.int .i64 x.k, .int .i64 x.n, .string (strOf x.s), .bool x.b] 28)).alloc (.cells #[.int .i64 y.k, .int .i64 y.n, .string (strOf y.s), .bool y.b] 28) = w0 at *
  clear a2 a3 a4 a5 a6 a7 a8
  refine (S2.out _ (Ext.refl _)).mono ?_
  rintro e w2 ⟨rfl, hw2⟩
  go_wp2_with fail
  refine (S3.out _ hw2).mono ?_
  rintro e w3 ⟨rfl, hw3⟩
  go_wp2_with fail
  refine (S4.out _ hw3).mono ?_
  rintro e w4 ⟨rfl, hw4⟩
  go_wp2_with fail
  refine (S5.out _ hw4).mono ?_
  rintro e w5 ⟨rfl, hw5⟩
  go_wp2_with fail
  refine (S6.out _ hw5).mono ?_
  rintro e w6 ⟨rfl, hw6⟩
  go_wp2_with fail
  refine (S7.out _ hw6).mono ?_
  rintro e w7 ⟨rfl, hw7⟩
  have v0 := hw7.cell v0
  have v1 := hw7.cell v1
  have v2 := hw7.cell v2
  have v3 := hw7.cell v3
  have x0 := hw7.cell x0
  have x1 := hw7.cell x1
  have x2 := hw7.cell x2
  have x3 := hw7.cell x3
  have y0 := hw7.cell y0
  have y1 := hw7.cell y1
  have y2 := hw7.cell y2
  have y3 := hw7.cell y3
  go_wp2_with fail
  refine wp_loop_rounds 4 ?_
  rw [rounds_succ]
  go_wp2_with fail
  rw [rounds_succ]
  go_wp2_with fail
  rw [rounds_succ]
  go_wp2_with fail
  rw [rounds_succ]
  have vq0 := v0
  have vq1 := v1
  have vq2 := v2
  have vq3 := v3
  have yq0 := y0
  have yq1 := y1
  have yq2 := y2
  have yq3 := y3
  have hS : SetR ((w7.alloc (.cells #[.bool false, .bool false, .bool true] 4)).alloc (.cells #[.int .i64 y.k, .int .i64 y.n, .string (strOf y.s), .bool y.b, .int .i64 x.k, .int .i64 x.n, .string (strOf x.s), .bool x.b] 28)) (.slice (some ⟨w7.heap.size + 1, 0, none⟩) 2 2) [y, x] := by
    have h := set_lit (w7.alloc (.cells #[.bool false, .bool false, .bool true] 4)) [y, x] (by show (2 : Nat) ≤ maxLen; decide)
    rw [World.size_alloc] at h
    exact h
  have hxL : Ext w7 (w7.alloc (.cells #[.bool false, .bool false, .bool true] 4)) := (Ext.refl _).alloc _
  have hxB : Ext w7 ((w7.alloc (.cells #[.bool false, .bool false, .bool true] 4)).alloc (.cells #[.int .i64 y.k, .int .i64 y.n, .string (strOf y.s), .bool y.b, .int .i64 x.k, .int .i64 x.n, .string (strOf x.s), .bool x.b] 28)) := hxL.alloc _
  have x0 := hxL.cell x0
  have x1 := hxL.cell x1
  have x2 := hxL.cell x2
  have x3 := hxL.cell x3
  have y0 := hxL.cell y0
  have y1 := hxL.cell y1
  have y2 := hxL.cell y2
  have y3 := hxL.cell y3
  have vb0 := hxB.cell v0
  have vb1 := hxB.cell v1
  have vb2 := hxB.cell v2
  have vb3 := hxB.cell v3
  clear hxL
  have hin := pholds_any _ ⟨[97], 9, ⟨0, 0, [], false⟩, [y, x]⟩ _ _ hS v
  rw [ai] at hin
  clear ai hS
  go_wp2_with fail
  generalize (w7.alloc (.cells #[.bool false, .bool false, .bool true] 4)).alloc (.cells #[.int .i64 y.k, .int .i64 y.n, .string (strOf y.s), .bool y.b, .int .i64 x.k, .int .i64 x.n, .string (strOf x.s), .bool x.b] 28) = wb at *
  refine hin.mono ?_
  rintro e w13 ⟨rfl, hw13⟩
  have hw13 := hxB.trans hw13
  clear hin hxB
  have v0 := hw13.cell vq0
  have v1 := hw13.cell vq1
  have v2 := hw13.cell vq2
  have v3 := hw13.cell vq3
  have y0 := hw13.cell yq0
  have y1 := hw13.cell yq1
  have y2 := hw13.cell yq2
  have y3 := hw13.cell yq3
  have hw13 := hw7.trans hw13
  go_wp2_with fail
  refine (cmpV_any _ v y).mono ?_
  rintro e w14 ⟨rfl, hw14⟩
  have hw14 := hw13.trans hw14.1
  go_wp2_with fail
  refine (S8.out _ hw14).mono ?_
  rintro e w8 ⟨rfl, hw8⟩
  go_wp2_with fail
  refine (awake_any _).mono ?_
  rintro e w9 ⟨rfl, hw9⟩
  have hw9 := hw8.trans hw9
  go_wp2_with fail
  refine (S1.out _ hw9).mono ?_
  rintro e w1 ⟨rfl, hw1⟩
  go_wp2_with fail
  go_ret
  exact ⟨rfl, hx0.trans hw1⟩

theorem predAsks_walk (w : World) (v x y : V) : Calls Try.prog 6 #[.agg #[.int .i64 v.k, .int .i64 v.n, .string (strOf v.s), .bool v.b], .agg #[.int .i64 x.k, .int .i64 x.n, .string (strOf x.s), .bool x.b], .agg #[.int .i64 y.k, .int .i64 y.n, .string (strOf y.s), .bool y.b]] w fun e w' => e = .returned (.bool true) ∧ Ext w w' := by
  by_cases hk : v.k = x.k
  · obtain ⟨a2, a3, a4, a5, a6, a7⟩ := ask_like hk
    have ai := ask_in x y v
    have hp := ask_pre hk
    have hk2 : (v.k != x.k) = false := by simp [hk]
    have hy : (cmpV v y == 0) = decide (cmpV v y = 0) := beq_dec _
    rcases Int.lt_trichotomy (cmpV v x) 0 with h | h | h
    · have h8 : holdsC (askC x 8) v = false := by
        cases e : holdsC (askC x 8) v with
        | false => rfl
        | true => have := hp e; omega
      rw [decide_eq_false (by omega)] at a2
      rw [decide_eq_false (by omega)] at a3
      rw [decide_eq_true (by omega)] at a4
      rw [decide_eq_true (by omega)] at a5
      rw [decide_eq_false (by omega)] at a6
      rw [decide_eq_false (by omega)] at a7
      rw [decide_eq_false (p := cmpV v x = 0) (by omega)] at ai
      cases e : decide (cmpV v y = 0) with
      | false => rw [e] at ai hy; exact asks_lt0 w v x y hk2 a2 a3 a4 a5 a6 a7 h8 ai hy
      | true => rw [e] at ai hy; exact asks_lt1 w v x y hk2 a2 a3 a4 a5 a6 a7 h8 ai hy
    · rw [decide_eq_true (by omega)] at a2
      rw [decide_eq_true (by omega)] at a3
      rw [decide_eq_false (by omega)] at a4
      rw [decide_eq_true (by omega)] at a5
      rw [decide_eq_false (by omega)] at a6
      rw [decide_eq_true (by omega)] at a7
      rw [decide_eq_true (p := cmpV v x = 0) (by omega), Bool.or_true] at ai
      cases h8 : holdsC (askC x 8) v with
      | false => exact asks_eq0 w v x y hk2 a2 a3 a4 a5 a6 a7 h8 ai
      | true => exact asks_eq1 w v x y hk2 a2 a3 a4 a5 a6 a7 h8 ai
    · rw [decide_eq_false (by omega)] at a2
      rw [decide_eq_false (by omega)] at a3
      rw [decide_eq_false (by omega)] at a4
      rw [decide_eq_false (by omega)] at a5
      rw [decide_eq_true (by omega)] at a6
      rw [decide_eq_true (by omega)] at a7
      rw [decide_eq_false (p := cmpV v x = 0) (by omega)] at ai
      cases e : decide (cmpV v y = 0) with
      | false =>
        rw [e] at ai hy
        cases h8 : holdsC (askC x 8) v with
        | false => exact asks_gt00 w v x y hk2 a2 a3 a4 a5 a6 a7 h8 ai hy
        | true => exact asks_gt10 w v x y hk2 a2 a3 a4 a5 a6 a7 h8 ai hy
      | true =>
        rw [e] at ai hy
        cases h8 : holdsC (askC x 8) v with
        | false => exact asks_gt01 w v x y hk2 a2 a3 a4 a5 a6 a7 h8 ai hy
        | true => exact asks_gt11 w v x y hk2 a2 a3 a4 a5 a6 a7 h8 ai hy
  · obtain ⟨a2, a3, a4, a5, a6, a7, a8⟩ := ask_apart hk
    exact asks_apart w v x y (by simp [hk]) a2 a3 a4 a5 a6 a7 a8

end Go.Proofs.Ytkefppdacigbmaa
