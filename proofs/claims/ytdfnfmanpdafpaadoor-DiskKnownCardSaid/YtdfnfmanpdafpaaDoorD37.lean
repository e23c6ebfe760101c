/- Disk: no disk at all: Append. -/
import Derived.Test.YtdfnfmanpdafpaaDoorD36
namespace Go.Proofs.YtdfnfmanpdafpaaDoor
open Go.RowKit

set_option maxRecDepth 100000 in
set_option maxHeartbeats 8000000 in
theorem append_nil (w : World) (n : List UInt8) (v : Value) (hv : ∃ a k c, v = .slice a k c) : Calls Tryd.prog 24 #[.pointer none, .string (strOf n), v] w fun e w' => e = .returned (.int .i64 2) ∧ Ext w w' := by
  obtain ⟨va, vk, vc, rfl⟩ := hv
  obtain ⟨hx0, hb1, hb2⟩ := boxes2 w (.cells #[.pointer none] 25) (.cells #[.slice va vk vc] 24)
  have HX0 := Lib.hid hx0
  have HB1 := Lib.hid hb1
  have HB2 := Lib.hid hb2
  clear hx0 hb1 hb2
  go_enter Tryd.func24, Tryd.ntmps24
  go_upto_region 1 with fail
  generalize ((w.alloc (.cells #[.pointer none] 25)).alloc (.cells #[.slice va vk vc] 24)) = w2 at *
  obtain ⟨x1, hx1⟩ : ∃ x1, x1 = w.heap.size := ⟨_, rfl⟩
  rw [← hx1] at HB1 HB2 ⊢
  clear hx1
  have n1 := cell_of_row _ _ 0 _ _ _ HB1.out
  have hth : ∀ W, Calls Tryd.prog 34 #[.pointer none, .string (strOf n)] W fun e w' => ∃ b1 b2, e = .returned (tqV b1 b2) ∧ Ext W w' := fun W => by
    refine (there_any W none (strOf n)).mono ?_
    rintro e w' ⟨rfl, rfl⟩
    exact ⟨_, _, rfl, (boxes2 W _ _).1⟩
  have HTH := Lib.hid hth
  clear hth
  refine wp_region_chain 8 [Fact.eq (.pointer none),
      Fact.eq (.func (.func 30) #[.pointer none] #[]),
      Fact.eq (.pointer none),
      Fact.eq (.string (strOf n)),
      Fact.tqN,
      Fact.eq (.func (.func 41) #[] #[.pointer (some ⟨x1 + 1, 0, none⟩), .pointer (some ⟨x1, 0, none⟩)]),
      Fact.eq (.pointer none),
      Fact.eq (.func (.func 39) #[.pointer none] #[])]
    [[], [(0, 8)], [], [], [(2, 10), (3, 11)], [], [], [(6, 14)]]
    [(0, 8), (1, 9), (2, 10), (3, 11), (4, 12), (5, 13), (6, 14), (7, 15)] (by kernel_rfl) (by kernel_rfl) ?_ ?_
  · refine ⟨?_, ?_, ?_, ?_, ?_, ?_, ?_, ?_, trivial⟩
    · intro w1 hx1; change wpList _ _ _ _ _ _; have m0 := hx1.cell n1; go_wp2_with fail; exact ⟨rfl, Ext.refl _, rfl, rfl⟩
    · intro w1 hx1; rintro _ rfl; change wpList _ _ _ _ _ _; go_wp2_with fail; exact ⟨rfl, Ext.refl _, rfl, rfl⟩
    · intro w1 hx1; change wpList _ _ _ _ _ _; have m0 := hx1.cell n1; go_wp2_with fail; exact ⟨rfl, Ext.refl _, rfl, rfl⟩
    · intro w1 hx1; change wpList _ _ _ _ _ _; exact ob_move rfl rfl rfl rfl rfl
    · intro w1 hx1; rintro _ rfl; rintro _ rfl; change wpList _ _ _ _ _ _; go_wp2_with ((with_reducible refine (HTH.out _).mono ?_); rintro e w2 ⟨c1, c2, rfl, hx2⟩); exact ⟨rfl, hx2, rfl, c1, c2, rfl⟩
    · intro w1 hx1; change wpList _ _ _ _ _ _; go_wp2_with fail; exact ⟨rfl, Ext.refl _, rfl, rfl⟩
    · intro w1 hx1; change wpList _ _ _ _ _ _; have m0 := hx1.cell n1; go_wp2_with fail; exact ⟨rfl, Ext.refl _, rfl, rfl⟩
    · intro w1 hx1; rintro _ rfl; change wpList _ _ _ _ _ _; go_wp2_with fail; exact ⟨rfl, Ext.refl _, rfl, rfl⟩
  · intro w1 hx1; rintro _ rfl; rintro _ rfl; rintro _ rfl; rintro _ rfl; intro v12 h12; rintro _ rfl; rintro _ rfl; rintro _ rfl; refine depsThen_nil ?_; dsimp only; simp only [Act.put, List.setIfInBounds_toArray, List.set_cons_zero, List.set_cons_succ, List.drop_succ_cons, List.drop_zero]
    replace h12 : (Fact.tqN).p v12 w1 := h12
    obtain ⟨c1, c2, rfl⟩ : ∃ c1 c2, v12 = tqV c1 c2 := h12
    have HFQ : Hid (Calls Tryd.prog 33 #[.slice (some ⟨w1.heap.size, 0, none⟩) 4 4] (w1.alloc (.cells #[.func (.func 30) #[.pointer none] #[], tqV c1 c2, .func (.func 41) #[] #[.pointer (some ⟨x1 + 1, 0, none⟩), .pointer (some ⟨x1, 0, none⟩)], .func (.func 39) #[.pointer none] #[]] 61)) _) := first_nil w1 [tqV c1 c2, .func (.func 41) #[] #[.pointer (some ⟨x1 + 1, 0, none⟩), .pointer (some ⟨x1, 0, none⟩)], .func (.func 39) #[.pointer none] #[]] 4 rfl (by show 3 ≤ 4; decide)
    have HX1 := Lib.hid (HX0.out.trans hx1)
    clear hx1 n1 HB1 HB2 HX0 HTH
    go_upto_region 2 with (go_at_call 33; (refine HFQ.out.mono ?_); rintro e w3 ⟨rfl, hx⟩; have HX3 := Lib.hid (HX1.out.trans hx); clear hx)
    go_wp2_with fail
    exact bodyPost_ret (v := .int .i64 2) (by simp [results, Tryd.results24, go_sem]) rfl ⟨rfl, HX3.out⟩
end Go.Proofs.YtdfnfmanpdafpaaDoor
