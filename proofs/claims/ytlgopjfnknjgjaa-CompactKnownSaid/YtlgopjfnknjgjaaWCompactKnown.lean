/- CompactKnown, walked. -/
import Derived.Test.YtlgopjfnknjgjaaD12
namespace Go.Proofs.Ytlgopjfnknjgjaa
open Go.RowKit Go.MapKept

def kC : List (List UInt8) := [[97], [97], [98]]
def uC1 : List IT := [kIt 9 [97], kIt 3 [97], kIt 3 [98]]
def uC2 : List IT := [kIt 9 [97], kIt 9 [97], kIt 3 [98]]
theorem uC1_d : doublesF (uC1.map nkOf) = [3] := by decide
theorem uC1_s : staysI uC1 = [kIt 9 [97], kIt 3 [98]] := by kernel_rfl
theorem uC2_s : staysI uC2 = [kIt 9 [97], kIt 3 [98]] := by kernel_rfl
theorem uC1_b : ∀ x ∈ uC1, x.n < 18446744073709551616 := by intro x hx; simp only [uC1, List.mem_cons, List.not_mem_nil, or_false] at hx; rcases hx with rfl | rfl | rfl <;> decide
theorem uC1_hs : ∀ x ∈ uC1, ∃ a n c, x.h = .slice a n c := by intro x hx; simp only [uC1, List.mem_cons, List.not_mem_nil, or_false] at hx; rcases hx with rfl | rfl | rfl <;> exact ⟨none, 0, 0, rfl⟩
theorem uC2_hs : ∀ x ∈ uC2, ∃ a n c, x.h = .slice a n c := by intro x hx; simp only [uC2, List.mem_cons, List.not_mem_nil, or_false] at hx; rcases hx with rfl | rfl | rfl <;> exact ⟨none, 0, 0, rfl⟩

set_option maxRecDepth 100000 in
set_option maxHeartbeats 8000000 in
theorem compactKnown_walk (w : World) : Calls Try.prog 7 #[] w fun e w' => e = .returned (.bool true) ∧ Ext w w' := by
  have hs : StR (w.alloc (.cells #[.string ⟨#[97]⟩, .string ⟨#[97]⟩, .string ⟨#[98]⟩] 9)) (.slice (some ⟨w.heap.size, 0, none⟩) 3 3) kC := st_lit w kC (by decide)
  have hxa : Ext w (w.alloc (.cells #[.string ⟨#[97]⟩, .string ⟨#[97]⟩, .string ⟨#[98]⟩] 9)) := (Ext.refl w).alloc _
  have HS := Lib.hid hs
  have HA := Lib.hid hxa
  clear hs hxa
  go_enter Try.func7, Try.ntmps7
  go_upto_region 2 with (go_at_call 20; (with_reducible refine (keyed_any _ _ _ HS.out (by decide)).mono ?_); rintro e k1 ⟨v, rfl, h, hx⟩; obtain ⟨g, cap, rfl, hgb⟩ := h.shape (by decide); have HK := Lib.hid h; have HXK := Lib.hid hx; clear h hx)
  have hw1 := own_setN HK.out (i := 0) (by decide) 9
  have hc0 : k1.cell? ⟨g, 0, none⟩ = some (.int .u64 1) := HK.out.cellN (i := 0) (by decide)
  have hc4 : k1.cell? ⟨g, 4, none⟩ = some (.int .u64 2) := HK.out.cellN (i := 1) (by decide)
  have hf0 := own_free HK.out 0
  have hf4 := own_free HK.out 4
  simp only [Nat.zero_mul] at hw1
  have hw2 := own_setN (l := [kIt 9 [97], kIt 2 [97], kIt 3 [98]]) hw1.1 (i := 1) (by decide) 3
  simp only [Nat.one_mul] at hw2
  have hlen : (keyedI kC).length = 3 := rfl
  have hK2 : OwnI (w.alloc (.cells #[.string ⟨#[97]⟩, .string ⟨#[97]⟩, .string ⟨#[98]⟩] 9)).heap.size ((k1.setCell ⟨g, 0, none⟩ (.int .u64 9)).setCell ⟨g, 4, none⟩ (.int .u64 3)) (.slice (some ⟨g, 0, none⟩) 3 cap) uC1 := hw2.1
  have hg2 : Ext w ((k1.setCell ⟨g, 0, none⟩ (.int .u64 9)).setCell ⟨g, 4, none⟩ (.int .u64 3)) := (HA.out.trans HXK.out).grown_none (v := .slice (some ⟨g, 0, none⟩) 3 cap) (grown_trans hw1.2 hw2.2) (fun k hk => by simp only [Value.ownBlock, Option.some.injEq] at hk; subst hk; have := HA.out.size; omega)
  have HK2 := Lib.hid hK2
  have HG2 := Lib.hid hg2
  clear hw1 hw2 hK2 hg2 hlen
  go_upto_region 3 with fail
  clear hc0 hc4 hf0 hf4
  generalize (k1.setCell ⟨g, 0, none⟩ (.int .u64 9)).setCell ⟨g, 4, none⟩ (.int .u64 3) = wa at *
  have HI1 := Lib.hid (HK2.out.item uC1_hs)
  have hdl : (keyedI kC).length = 3 := rfl
  go_upto_region 4 with (first
    | (go_at_call 12; (with_reducible refine (dbl_lit _ _ _ _ HI1.out (by decide) uC1_b uC1_d).mono ?_); rintro e w1 ⟨a1, c1, rfl, h, hx⟩; have HV1 := Lib.hid h; have HX1 := Lib.hid hx; clear h hx)
    | (go_at_call 13; (with_reducible refine (stay_lit _ _ _ _ (HI1.out.ext HX1.out) (by decide) uC1_s).mono ?_); rintro e w2 ⟨a2, c2, rfl, h, hx⟩; have HV2 := Lib.hid h; have HX2 := Lib.hid hx; clear h hx))
  have hK3 := HK2.out.ext (HX1.out.trans HX2.out)
  have hw3 := own_setN hK3 (i := 1) (by decide) 9
  simp only [Nat.one_mul] at hw3
  have hc4 : w2.cell? ⟨g, 4, none⟩ = some (.int .u64 3) := hK3.cellN (i := 1) (by decide)
  have hf4 := own_free hK3 4
  have hK4 : OwnI (w.alloc (.cells #[.string ⟨#[97]⟩, .string ⟨#[97]⟩, .string ⟨#[98]⟩] 9)).heap.size (w2.setCell ⟨g, 4, none⟩ (.int .u64 9)) (.slice (some ⟨g, 0, none⟩) 3 cap) uC2 := hw3.1
  have HG3 := Lib.hid hw3.2
  have HI2 := Lib.hid (hK4.item uC2_hs)
  obtain ⟨g1, rfl, b1, d1⟩ := HV1.out 0 3 rfl
  obtain ⟨g2, rfl, b2, d2⟩ := HV2.out 0 _ rfl
  simp only [Nat.zero_mul, kIt] at d2
  have hgw : g < wa.heap.size := by
    rcases HK2.out.2 with ⟨e, _⟩ | ⟨g', c, cur, e, hb, hg, _⟩
    · cases e
    · cases e; exact (Array.getElem?_eq_some_iff.1 hg).1
  have hgw1 := HX1.out.size
  have d1 := HX2.out.cell d1
  have d1 : (w2.setCell ⟨g, 4, none⟩ (.int .u64 9)).cell? ⟨g1, 0, none⟩ = some (.int .u64 3) := by rw [cell_far _ _ _ _ _ _ (by omega)]; exact d1
  have d2 : (w2.setCell ⟨g, 4, none⟩ (.int .u64 9)).cell? ⟨g2, 0, none⟩ = some (.int .u64 9) := by rw [cell_far _ _ _ _ _ _ (by omega)]; exact d2
  have hx3 : Ext w (w2.setCell ⟨g, 4, none⟩ (.int .u64 9)) := (HG2.out.trans (HX1.out.trans HX2.out)).grown_none (v := .slice (some ⟨g, 0, none⟩) 3 cap) HG3.out (fun k hk => by simp only [Value.ownBlock, Option.some.injEq] at hk; subst hk; have := HA.out.size; omega)
  have HX3 := Lib.hid hx3
  have D1 := Lib.hid d1
  have D2 := Lib.hid d2
  clear b1 b2 d1 d2 hx3 hgw hgw1 hw3 hK3 hK4 HV1 HV2
  go_upto_region 5 with fail
  generalize w2.setCell ⟨g, 4, none⟩ (.int .u64 9) = wb at *
  clear hc4 hf4
  have dbl0 := fun (W : World) => dbl_lit W (.slice none 0 0) [] [] (ItemR.nil W) (by decide) (fun x h => by cases h) rfl
  have sty0 := fun (W : World) => stay_lit W (.slice none 0 0) [] [] (ItemR.nil W) (by decide) rfl
  have DBL := Lib.hid dbl0
  have STY := Lib.hid sty0
  clear dbl0 sty0
  go_upto_region 6 with ((go_at_call 13; (with_reducible refine (stay_lit _ _ _ _ HI2.out (by decide) uC2_s).mono ?_); rintro e w4 ⟨a3, c3, rfl, h, hx⟩; have HX4 := Lib.hid hx; clear h hx))
  have d1 := HX4.out.cell D1.out
  have d2 := HX4.out.cell D2.out
  go_wp2_with (first
    | (go_at_call 12; (with_reducible refine (DBL.out _).mono ?_); rintro e w5 ⟨a4, c4, rfl, h, hx⟩; have HX5 := Lib.hid hx; clear h hx)
    | (go_at_call 13; (with_reducible refine (STY.out _).mono ?_); rintro e w6 ⟨a5, c5, rfl, h, hx⟩; have HX6 := Lib.hid hx; clear h hx)
    | (go_at_call 18; (with_reducible refine (wakes_any _).mono ?_); rintro e w7 ⟨rfl, hx⟩; have HX7 := Lib.hid hx; clear hx))
  go_ret
  exact ⟨rfl, (HX3.out.trans HX4.out).trans (HX5.out.trans (HX6.out.trans HX7.out))⟩
end Go.Proofs.Ytlgopjfnknjgjaa