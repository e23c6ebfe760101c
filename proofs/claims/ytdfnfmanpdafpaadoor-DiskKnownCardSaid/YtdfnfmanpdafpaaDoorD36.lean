/- Disk: no disk at all: Used, Create. -/
import Derived.Test.YtdfnfmanpdafpaaDoorD35
namespace Go.Proofs.YtdfnfmanpdafpaaDoor
open Go.RowKit

def Fact.tqN : Fact := ⟨fun v _ => ∃ b1 b2, v = tqV b1 b2, fun _ _ _ _ h => h⟩
set_option maxRecDepth 100000 in
set_option maxHeartbeats 8000000 in
theorem used_nil (w : World) : Calls Tryd.prog 27 #[.pointer none] w fun e w' => e = .returned (.int .i64 0) ∧ Ext w w' := by
  go_enter Tryd.func27, Tryd.ntmps27
  go_wp2_with (go_at_call 9; (with_reducible refine (names_nil _).mono ?_); rintro e w2 ⟨rfl, hx⟩; have HX := Lib.hid hx; clear hx)
  go_loopw [3, 9] (fun u i wr => u = .int .i64 0 ∧ i = .int .i64 0 ∧ Hid (Ext w wr)) (fun _ _ _ => 0)
  case atStart => exact ⟨rfl, rfl, HX.out⟩
  case round =>
    obtain ⟨rfl, rfl, HY⟩ := hrel
    go_wp2_with fail
    exact bodyPost_ret (v := .int .i64 0) (by simp [results, Tryd.results27, go_sem]) rfl ⟨rfl, HY.out⟩
set_option maxRecDepth 100000 in
set_option maxHeartbeats 8000000 in
theorem create_nil (w : World) (n : List UInt8) : Calls Tryd.prog 19 #[.pointer none, .string (strOf n)] w fun e w' => e = .returned (.int .i64 2) ∧ Ext w w' := by
  obtain ⟨hx0, hb1, hb2⟩ := boxes2 w (.cells #[.pointer none] 25) (.cells #[.string (strOf n)] 9)
  have HX0 := Lib.hid hx0
  have HB1 := Lib.hid hb1
  have HB2 := Lib.hid hb2
  clear hx0 hb1 hb2
  go_enter Tryd.func19, Tryd.ntmps19
  go_upto_region 1 with fail
  generalize ((w.alloc (.cells #[.pointer none] 25)).alloc (.cells #[.string (strOf n)] 9)) = w2 at *
  obtain ⟨x1, hx1⟩ : ∃ x1, x1 = w.heap.size := ⟨_, rfl⟩
  rw [← hx1] at HB1 HB2 ⊢
  clear hx1
  have n1 := cell_of_row _ _ 0 _ _ _ HB1.out
  have n2 := cell_of_row _ _ 0 _ _ _ HB2.out
  refine wp_region_chain 10 [Fact.eq (.pointer none),
      Fact.eq (.func (.func 30) #[.pointer none] #[]),
      Fact.eq (.string (strOf n)),
      Fact.eq (.bool (mayN n)),
      Fact.eq (.bool (!mayN n)),
      Fact.wqF (!mayN n) 1,
      Fact.eq (.func (.func 37) #[] #[.pointer (some ⟨x1, 0, none⟩), .pointer (some ⟨x1 + 1, 0, none⟩)]),
      Fact.eq (.func (.func 38) #[] #[.pointer (some ⟨x1, 0, none⟩)]),
      Fact.eq (.pointer none),
      Fact.eq (.func (.func 39) #[.pointer none] #[])]
    [[], [(0, 6)], [], [(2, 8)], [(3, 9)], [(4, 10)], [], [], [], [(8, 14)]]
    [(0, 6), (1, 7), (2, 8), (3, 9), (4, 10), (5, 11), (6, 12), (7, 13), (8, 14), (9, 15)] (by kernel_rfl) (by kernel_rfl) ?_ ?_
  · refine ⟨?_, ?_, ?_, ?_, ?_, ?_, ?_, ?_, ?_, ?_, trivial⟩
    · intro w1 hx1; change wpList _ _ _ _ _ _; have m0 := hx1.cell n1; go_wp2_with fail; exact ⟨rfl, Ext.refl _, rfl, rfl⟩
    · intro w1 hx1; rintro _ rfl; change wpList _ _ _ _ _ _; go_wp2_with fail; exact ⟨rfl, Ext.refl _, rfl, rfl⟩
    · intro w1 hx1; change wpList _ _ _ _ _ _; have m0 := hx1.cell n2; go_wp2_with fail; exact ⟨rfl, Ext.refl _, rfl, rfl⟩
    · intro w1 hx1; rintro _ rfl; change wpList _ _ _ _ _ _; go_wp2_with ((with_reducible refine (may_any _ n).mono ?_); rintro e w2 ⟨rfl, hx2⟩); exact ⟨rfl, hx2, rfl, rfl⟩
    · intro w1 hx1; rintro _ rfl; change wpList _ _ _ _ _ _; go_wp2_with fail; exact ⟨rfl, Ext.refl _, rfl, rfl⟩
    · intro w1 hx1; rintro _ rfl; change wpList _ _ _ _ _ _; go_wp2_with ((with_reducible refine (wrong_fact _ (!mayN n) 1).mono ?_); rintro e w2 ⟨c1, c2, rfl, g1, g2, hx2⟩); exact ⟨rfl, hx2, rfl, c1, c2, rfl, g1, g2⟩
    · intro w1 hx1; change wpList _ _ _ _ _ _; go_wp2_with fail; exact ⟨rfl, Ext.refl _, rfl, rfl⟩
    · intro w1 hx1; change wpList _ _ _ _ _ _; go_wp2_with fail; exact ⟨rfl, Ext.refl _, rfl, rfl⟩
    · intro w1 hx1; change wpList _ _ _ _ _ _; have m0 := hx1.cell n1; go_wp2_with fail; exact ⟨rfl, Ext.refl _, rfl, rfl⟩
    · intro w1 hx1; rintro _ rfl; change wpList _ _ _ _ _ _; go_wp2_with fail; exact ⟨rfl, Ext.refl _, rfl, rfl⟩
  · intro w1 hx1; rintro _ rfl; rintro _ rfl; rintro _ rfl; rintro _ rfl; rintro _ rfl; intro v11 h11; rintro _ rfl; rintro _ rfl; rintro _ rfl; rintro _ rfl; refine depsThen_nil ?_; dsimp only; simp only [Act.put, List.setIfInBounds_toArray, List.set_cons_zero, List.set_cons_succ, List.drop_succ_cons, List.drop_zero]
    replace h11 : (Fact.wqF (!mayN n) 1).p v11 w1 := h11
    obtain ⟨c1, c2, rfl, g1, g2⟩ : ∃ c1 c2, v11 = wqV c1 c2 ∧ w1.heap[c1]? = some (.cells #[.bool (!mayN n)] 4 (0, 0)) ∧ w1.heap[c2]? = some (.cells #[.int .i64 1] 26 (0, 0)) := h11
    have HFQ : Hid (Calls Tryd.prog 33 #[.slice (some ⟨w1.heap.size, 0, none⟩) 5 5] (w1.alloc (.cells #[.func (.func 30) #[.pointer none] #[], wqV c1 c2, .func (.func 37) #[] #[.pointer (some ⟨x1, 0, none⟩), .pointer (some ⟨x1 + 1, 0, none⟩)], .func (.func 38) #[] #[.pointer (some ⟨x1, 0, none⟩)], .func (.func 39) #[.pointer none] #[]] 61)) _) := first_nil w1 [wqV c1 c2, .func (.func 37) #[] #[.pointer (some ⟨x1, 0, none⟩), .pointer (some ⟨x1 + 1, 0, none⟩)], .func (.func 38) #[] #[.pointer (some ⟨x1, 0, none⟩)], .func (.func 39) #[.pointer none] #[]] 5 rfl (by show 4 ≤ 4; decide)
    have HX1 := Lib.hid (HX0.out.trans hx1)
    clear g1 g2 hx1 n1 n2 HB1 HB2 HX0
    go_upto_region 2 with (go_at_call 33; (refine HFQ.out.mono ?_); rintro e w3 ⟨rfl, hx⟩; have HX3 := Lib.hid (HX1.out.trans hx); clear hx)
    go_wp2_with fail
    exact bodyPost_ret (v := .int .i64 2) (by simp [results, Tryd.results19, go_sem]) rfl ⟨rfl, HX3.out⟩
end Go.Proofs.YtdfnfmanpdafpaaDoor
