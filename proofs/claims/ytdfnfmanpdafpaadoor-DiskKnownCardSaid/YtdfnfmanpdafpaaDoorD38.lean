/- Disk: no disk at all: Truncate. -/
import Derived.Test.YtdfnfmanpdafpaaDoorD37
namespace Go.Proofs.YtdfnfmanpdafpaaDoor
open Go.RowKit

set_option maxRecDepth 100000 in
set_option maxHeartbeats 8000000 in
theorem truncate_nil (w : World) (n : List UInt8) (z : Int) : Calls Tryd.prog 21 #[.pointer none, .string (strOf n), .int .i64 z] w fun e w' => e = .returned (.int .i64 2) ∧ Ext w w' := by
  obtain ⟨hx0, hb1, hb2⟩ := boxes2 w (.cells #[.pointer none] 25) (.cells #[.string (strOf n)] 9)
  obtain ⟨hx3, hb3⟩ := boxes1 ((w.alloc (.cells #[.pointer none] 25)).alloc (.cells #[.string (strOf n)] 9)) (.cells #[.int .i64 z] 3)
  have HX0 := Lib.hid (hx0.trans hx3)
  have HB1 := Lib.hid (block_later hb1 hx3)
  have HB2 := Lib.hid (block_later hb2 hx3)
  have hsz : ((w.alloc (.cells #[.pointer none] 25)).alloc (.cells #[.string (strOf n)] 9)).heap.size = w.heap.size + 2 := by rw [World.size_alloc, World.size_alloc]
  rw [hsz] at hb3
  have HB3 := Lib.hid hb3
  clear hx0 hb1 hb2 hx3 hb3 hsz
  have hth : ∀ W, Calls Tryd.prog 34 #[.pointer none, .string (strOf n)] W fun e w' => ∃ b1 b2, e = .returned (tqV b1 b2) ∧ Ext W w' := fun W => by
    refine (there_any W none (strOf n)).mono ?_
    rintro e w' ⟨rfl, rfl⟩
    exact ⟨_, _, rfl, (boxes2 W _ _).1⟩
  have HTH := Lib.hid hth
  clear hth
  go_enter Tryd.func21, Tryd.ntmps21
  go_upto_region 1 with fail
  generalize (((w.alloc (.cells #[.pointer none] 25)).alloc (.cells #[.string (strOf n)] 9)).alloc (.cells #[.int .i64 z] 3)) = w2 at *
  obtain ⟨x1, hx1⟩ : ∃ x1, x1 = w.heap.size := ⟨_, rfl⟩
  rw [← hx1] at HB1 HB2 HB3 ⊢
  clear hx1
  have n1 := cell_of_row _ _ 0 _ _ _ HB1.out
  have n2 := cell_of_row _ _ 0 _ _ _ HB2.out
  have n3 := cell_of_row _ _ 0 _ _ _ HB3.out
  refine wp_region_chain 11 [Fact.eq (.pointer none),
      Fact.eq (.func (.func 30) #[.pointer none] #[]),
      Fact.eq (.int .i64 z),
      Fact.eq (.bool (decide (z < 0))),
      Fact.wqF (decide (z < 0)) 1,
      Fact.eq (.pointer none),
      Fact.eq (.string (strOf n)),
      Fact.tqN,
      Fact.eq (.func (.func 40) #[] #[.pointer (some ⟨x1 + 2, 0, none⟩), .pointer (some ⟨x1, 0, none⟩), .pointer (some ⟨x1 + 1, 0, none⟩)]),
      Fact.eq (.pointer none),
      Fact.eq (.func (.func 39) #[.pointer none] #[])]
    [[], [(0, 9)], [], [(2, 11)], [(3, 12)], [], [], [(5, 14), (6, 15)], [], [], [(9, 18)]]
    [(0, 9), (1, 10), (2, 11), (3, 12), (4, 13), (5, 14), (6, 15), (7, 16), (8, 17), (9, 18), (10, 19)] (by kernel_rfl) (by kernel_rfl) ?_ ?_
  · refine ⟨?_, ?_, ?_, ?_, ?_, ?_, ?_, ?_, ?_, ?_, ?_, trivial⟩
    · intro w1 hx1; change wpList _ _ _ _ _ _; have m0 := hx1.cell n1; go_wp2_with fail; exact ⟨rfl, Ext.refl _, rfl, rfl⟩
    · intro w1 hx1; rintro _ rfl; change wpList _ _ _ _ _ _; go_wp2_with fail; exact ⟨rfl, Ext.refl _, rfl, rfl⟩
    · intro w1 hx1; change wpList _ _ _ _ _ _; have m0 := hx1.cell n3; go_wp2_with fail; exact ⟨rfl, Ext.refl _, rfl, rfl⟩
    · intro w1 hx1; rintro _ rfl; change wpList _ _ _ _ _ _; go_wp2_with fail; exact ⟨rfl, Ext.refl _, rfl, rfl⟩
    · intro w1 hx1; rintro _ rfl; change wpList _ _ _ _ _ _; go_wp2_with ((with_reducible refine (wrong_fact _ (decide (z < 0)) 1).mono ?_); rintro e w2 ⟨c1, c2, rfl, g1, g2, hx2⟩); exact ⟨rfl, hx2, rfl, c1, c2, rfl, g1, g2⟩
    · intro w1 hx1; change wpList _ _ _ _ _ _; have m0 := hx1.cell n1; go_wp2_with fail; exact ⟨rfl, Ext.refl _, rfl, rfl⟩
    · intro w1 hx1; change wpList _ _ _ _ _ _; have m0 := hx1.cell n2; go_wp2_with fail; exact ⟨rfl, Ext.refl _, rfl, rfl⟩
    · intro w1 hx1; rintro _ rfl; rintro _ rfl; change wpList _ _ _ _ _ _; go_wp2_with ((with_reducible refine (HTH.out _).mono ?_); rintro e w2 ⟨c1, c2, rfl, hx2⟩); exact ⟨rfl, hx2, rfl, c1, c2, rfl⟩
    · intro w1 hx1; change wpList _ _ _ _ _ _; go_wp2_with fail; exact ⟨rfl, Ext.refl _, rfl, rfl⟩
    · intro w1 hx1; change wpList _ _ _ _ _ _; have m0 := hx1.cell n1; go_wp2_with fail; exact ⟨rfl, Ext.refl _, rfl, rfl⟩
    · intro w1 hx1; rintro _ rfl; change wpList _ _ _ _ _ _; go_wp2_with fail; exact ⟨rfl, Ext.refl _, rfl, rfl⟩
  · intro w1 hx1; rintro _ rfl; rintro _ rfl; rintro _ rfl; rintro _ rfl; intro v13 h13; rintro _ rfl; rintro _ rfl; intro v16 h16; rintro _ rfl; rintro _ rfl; rintro _ rfl; refine depsThen_nil ?_; dsimp only; simp only [Act.put, List.setIfInBounds_toArray, List.set_cons_zero, List.set_cons_succ, List.drop_succ_cons, List.drop_zero]
    replace h13 : (Fact.wqF (decide (z < 0)) 1).p v13 w1 := h13
    replace h16 : (Fact.tqN).p v16 w1 := h16
    obtain ⟨c1, c2, rfl, g1, g2⟩ : ∃ c1 c2, v13 = wqV c1 c2 ∧ w1.heap[c1]? = some (.cells #[.bool (decide (z < 0))] 4 (0, 0)) ∧ w1.heap[c2]? = some (.cells #[.int .i64 1] 26 (0, 0)) := h13
    obtain ⟨c3, c4, rfl⟩ : ∃ c1 c2, v16 = tqV c1 c2 := h16
    have HFQ : Hid (Calls Tryd.prog 33 #[.slice (some ⟨w1.heap.size, 0, none⟩) 5 5] (w1.alloc (.cells #[.func (.func 30) #[.pointer none] #[], wqV c1 c2, tqV c3 c4, .func (.func 40) #[] #[.pointer (some ⟨x1 + 2, 0, none⟩), .pointer (some ⟨x1, 0, none⟩), .pointer (some ⟨x1 + 1, 0, none⟩)], .func (.func 39) #[.pointer none] #[]] 61)) _) := first_nil w1 [wqV c1 c2, tqV c3 c4, .func (.func 40) #[] #[.pointer (some ⟨x1 + 2, 0, none⟩), .pointer (some ⟨x1, 0, none⟩), .pointer (some ⟨x1 + 1, 0, none⟩)], .func (.func 39) #[.pointer none] #[]] 5 rfl (by show 4 ≤ 4; decide)
    have HX1 := Lib.hid (HX0.out.trans hx1)
    clear hx1 n1 n2 n3 HB1 HB2 HB3 HX0 HTH g1 g2
    go_upto_region 2 with (go_at_call 33; (refine HFQ.out.mono ?_); rintro e w3 ⟨rfl, hx⟩; have HX3 := Lib.hid (HX1.out.trans hx); clear hx)
    go_wp2_with fail
    exact bodyPost_ret (v := .int .i64 2) (by simp [results, Tryd.results21, go_sem]) rfl ⟨rfl, HX3.out⟩
end Go.Proofs.YtdfnfmanpdafpaaDoor
