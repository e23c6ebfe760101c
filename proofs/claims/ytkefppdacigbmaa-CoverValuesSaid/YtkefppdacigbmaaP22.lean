/- The chapter's rows of overlapping: wakes. (Printed by a program.) -/
import Derived.Test.YtkefppdacigbmaaP21
import Derived.Test.YtkefppdacigbmaaP18
namespace Go.Proofs.Ytkefppdacigbmaa
open Go.RowKit

def w5P : List C := [⟨[97], 6, ⟨1, 5, [], false⟩, []⟩]
theorem w5P_ok : ∀ c ∈ w5P, okC c := okL (by kernel_rfl)
def wpreP : List C := [⟨[115], 8, ⟨2, 0, [97, 98], false⟩, []⟩]
theorem wpreP_ok : ∀ c ∈ wpreP, okC c := okL (by kernel_rfl)
def wbxP : List C := [⟨[98], 8, ⟨2, 0, [120], false⟩, []⟩]
theorem wbxP_ok : ∀ c ∈ wbxP, okC c := okL (by kernel_rfl)
def w2P : List C := [⟨[97], 6, ⟨1, 5, [], false⟩, []⟩, ⟨[98], 1, ⟨0, 0, [], false⟩, []⟩]
theorem w2P_ok : ∀ c ∈ w2P, okC c := okL (by kernel_rfl)
def w3P : List C := [⟨[98], 2, ⟨1, 1, [], false⟩, []⟩, ⟨[97], 4, ⟨1, 3, [], false⟩, []⟩]
theorem w3P_ok : ∀ c ∈ w3P, okC c := okL (by kernel_rfl)
def w7P : List C := [⟨[97], 4, ⟨1, 7, [], false⟩, []⟩]
theorem w7P_ok : ∀ c ∈ w7P, okC c := okL (by kernel_rfl)
def w6P : List C := [⟨[97], 4, ⟨1, 6, [], false⟩, []⟩]
theorem w6P_ok : ∀ c ∈ w6P, okC c := okL (by kernel_rfl)
def wa1P : List C := [⟨[97], 2, ⟨1, 1, [], false⟩, []⟩]
theorem wa1P_ok : ∀ c ∈ wa1P, okC c := okL (by kernel_rfl)
def wb1P : List C := [⟨[98], 2, ⟨2, 0, [120], false⟩, []⟩]
theorem wb1P_ok : ∀ c ∈ wb1P, okC c := okL (by kernel_rfl)
def whaP : List C := [⟨[97], 1, ⟨0, 0, [], false⟩, []⟩]
theorem whaP_ok : ∀ c ∈ whaP, okC c := okL (by kernel_rfl)
def wltP : List C := [⟨[115], 4, ⟨2, 0, [97, 98], false⟩, []⟩]
theorem wltP_ok : ∀ c ∈ wltP, okC c := okL (by kernel_rfl)
def wabcP : List C := [⟨[115], 8, ⟨2, 0, [97, 98, 99], false⟩, []⟩]
theorem wabcP_ok : ∀ c ∈ wabcP, okC c := okL (by kernel_rfl)
def wnvP : List C := [⟨[97], 2, ⟨1, 1, [], false⟩, []⟩, ⟨[97], 2, ⟨1, 2, [], false⟩, []⟩]
theorem wnvP_ok : ∀ c ∈ wnvP, okC c := okL (by kernel_rfl)
def wnil : List C := []
theorem wnil_ok : ∀ c ∈ wnil, okC c := okL (by kernel_rfl)
theorem ov_w5P_w7P : overlapsF w5P w7P = true := by kernel_rfl
theorem ov_w5P_w6P : overlapsF w5P w6P = false := by kernel_rfl
theorem ov_wa1P_wb1P : overlapsF wa1P wb1P = true := by kernel_rfl
theorem ov_wa1P_whaP : overlapsF wa1P whaP = true := by kernel_rfl
theorem ov_wpreP_wltP : overlapsF wpreP wltP = false := by kernel_rfl
theorem ov_wpreP_wabcP : overlapsF wpreP wabcP = true := by kernel_rfl
theorem any_w5P : overlapsF w5P [] = true := by kernel_rfl
theorem any_wnvP : overlapsF wnvP [] = false := by kernel_rfl
theorem ex_w5 : exampleF w5P wbxP = [([97], ⟨1, 6, [], false⟩), ([98], ⟨2, 0, [120], false⟩)] := by kernel_rfl
theorem ov_w5P_wbxP : overlapsF w5P wbxP = true := by kernel_rfl
theorem ap_w2 : apartF w2P w3P = some [97] := by kernel_rfl

set_option maxRecDepth 100000 in
set_option maxHeartbeats 16000000 in
theorem wakes06_any (w : World) : Calls Try.prog 47 #[] w fun e w' => e = .returned (.bool true) ∧ Ext w w' := by
  go_enter Try.func47, Try.ntmps47
  have hw := Ext.refl w
  go_wp2_with fail
  refine (con52_any w ⟨#[97]⟩ 6 5).mono ?_
  rintro e w1 ⟨rfl, hx1⟩
  have hw := hw.trans hx1
  clear hx1
  obtain ⟨hx2, hfive⟩ := boxes1 w1 (.cells #[.string ⟨#[97]⟩, .int .i64 6, .int .i64 1, .int .i64 5, .string ⟨#[]⟩, .bool false, .slice none 0 0] 31)
  have hw := hw.trans hx2
  clear hx2
  have Hfive := Lib.hid hfive
  clear hfive
  go_wp2_with fail
  generalize w1.alloc (.cells #[.string ⟨#[97]⟩, .int .i64 6, .int .i64 1, .int .i64 5, .string ⟨#[]⟩, .bool false, .slice none 0 0] 31) = w2 at *
  generalize w1.heap.size = bfive at *
  refine (str49_any w2 ⟨#[115]⟩ 8 ⟨#[97, 98]⟩).mono ?_
  rintro e w3 ⟨rfl, hx3⟩
  have hw := hw.trans hx3
  have Hfive := Lib.hid (block_later Hfive.out hx3)
  clear hx3
  obtain ⟨hx4, hpre⟩ := boxes1 w3 (.cells #[.string ⟨#[115]⟩, .int .i64 8, .int .i64 2, .int .i64 0, .string ⟨#[97, 98]⟩, .bool false, .slice none 0 0] 31)
  have hw := hw.trans hx4
  have Hfive := Lib.hid (block_later Hfive.out hx4)
  clear hx4
  have Hpre := Lib.hid hpre
  clear hpre
  go_wp2_with fail
  generalize w3.alloc (.cells #[.string ⟨#[115]⟩, .int .i64 8, .int .i64 2, .int .i64 0, .string ⟨#[97, 98]⟩, .bool false, .slice none 0 0] 31) = w4 at *
  generalize w3.heap.size = bpre at *
  refine (str49_any w4 ⟨#[98]⟩ 8 ⟨#[120]⟩).mono ?_
  rintro e w5 ⟨rfl, hx5⟩
  have hw := hw.trans hx5
  have Hfive := Lib.hid (block_later Hfive.out hx5)
  have Hpre := Lib.hid (block_later Hpre.out hx5)
  clear hx5
  obtain ⟨hx6, hbx⟩ := boxes1 w5 (.cells #[.string ⟨#[98]⟩, .int .i64 8, .int .i64 2, .int .i64 0, .string ⟨#[120]⟩, .bool false, .slice none 0 0] 31)
  have hw := hw.trans hx6
  have Hfive := Lib.hid (block_later Hfive.out hx6)
  have Hpre := Lib.hid (block_later Hpre.out hx6)
  clear hx6
  have Hbx := Lib.hid hbx
  clear hbx
  go_wp2_with fail
  generalize w5.alloc (.cells #[.string ⟨#[98]⟩, .int .i64 8, .int .i64 2, .int .i64 0, .string ⟨#[120]⟩, .bool false, .slice none 0 0] 31) = w6 at *
  generalize w5.heap.size = bbx at *
  have hp1 : PredR w6 (.slice (some ⟨bfive, 0, none⟩) 1 1) w5P := pred0 w5P Hfive.out (by kernel_rfl) (by decide)
  have hp2 : PredR w6 (.slice (some ⟨bbx, 0, none⟩) 1 1) wbxP := pred0 wbxP Hbx.out (by kernel_rfl) (by decide)
  have hcv := Lib.hid (example_lit (n := 2) hp1 hp2 w5P_ok wbxP_ok ex_w5 ov_w5P_wbxP rfl)
  clear hp1 hp2
  refine (hcv.out).mono ?_
  rintro e w7 ⟨afa, cfa, rfl, fa, hx7⟩
  have hw := hw.trans hx7
  have Hfive := Lib.hid (block_later Hfive.out hx7)
  have Hpre := Lib.hid (block_later Hpre.out hx7)
  have Hbx := Lib.hid (block_later Hbx.out hx7)
  clear hx7
  have FA := Lib.hid fa
  clear fa
  clear hcv
  clear Hbx
  obtain ⟨hx8, he⟩ := boxes1 w7 (.cells #[.string ⟨#[]⟩, .slice afa 2 cfa] 26)
  have hw := hw.trans hx8
  have Hfive := Lib.hid (block_later Hfive.out hx8)
  have Hpre := Lib.hid (block_later Hpre.out hx8)
  have FA := Lib.hid (FA.out.ext hx8)
  clear hx8
  have He := Lib.hid he
  clear he
  go_wp2_with fail
  generalize w7.alloc (.cells #[.string ⟨#[]⟩, .slice afa 2 cfa] 26) = w8 at *
  generalize w7.heap.size = be at *
  refine (con52_any w8 ⟨#[97]⟩ 6 5).mono ?_
  rintro e w9 ⟨rfl, hx9⟩
  have hw := hw.trans hx9
  have Hfive := Lib.hid (block_later Hfive.out hx9)
  have Hpre := Lib.hid (block_later Hpre.out hx9)
  have He := Lib.hid (block_later He.out hx9)
  have FA := Lib.hid (FA.out.ext hx9)
  clear hx9
  obtain ⟨hx10, htwo⟩ := boxes1 w9 (.cells #[.string ⟨#[97]⟩, .int .i64 6, .int .i64 1, .int .i64 5, .string ⟨#[]⟩, .bool false, .slice none 0 0, .string ⟨#[98]⟩, .int .i64 1, .int .i64 0, .int .i64 0, .string ⟨#[]⟩, .bool false, .slice none 0 0] 31)
  have hw := hw.trans hx10
  have Hfive := Lib.hid (block_later Hfive.out hx10)
  have Hpre := Lib.hid (block_later Hpre.out hx10)
  have He := Lib.hid (block_later He.out hx10)
  have FA := Lib.hid (FA.out.ext hx10)
  clear hx10
  have Htwo := Lib.hid htwo
  clear htwo
  go_wp2_with fail
  generalize w9.alloc (.cells #[.string ⟨#[97]⟩, .int .i64 6, .int .i64 1, .int .i64 5, .string ⟨#[]⟩, .bool false, .slice none 0 0, .string ⟨#[98]⟩, .int .i64 1, .int .i64 0, .int .i64 0, .string ⟨#[]⟩, .bool false, .slice none 0 0] 31) = w10 at *
  generalize w9.heap.size = btwo at *
  refine (con52_any w10 ⟨#[98]⟩ 2 1).mono ?_
  rintro e w11 ⟨rfl, hx11⟩
  have hw := hw.trans hx11
  have Hfive := Lib.hid (block_later Hfive.out hx11)
  have Hpre := Lib.hid (block_later Hpre.out hx11)
  have He := Lib.hid (block_later He.out hx11)
  have Htwo := Lib.hid (block_later Htwo.out hx11)
  have FA := Lib.hid (FA.out.ext hx11)
  clear hx11
  go_wp2_with fail
  refine (con52_any w11 ⟨#[97]⟩ 4 3).mono ?_
  rintro e w12 ⟨rfl, hx12⟩
  have hw := hw.trans hx12
  have Hfive := Lib.hid (block_later Hfive.out hx12)
  have Hpre := Lib.hid (block_later Hpre.out hx12)
  have He := Lib.hid (block_later He.out hx12)
  have Htwo := Lib.hid (block_later Htwo.out hx12)
  have FA := Lib.hid (FA.out.ext hx12)
  clear hx12
  obtain ⟨hx13, hthree⟩ := boxes1 w12 (.cells #[.string ⟨#[98]⟩, .int .i64 2, .int .i64 1, .int .i64 1, .string ⟨#[]⟩, .bool false, .slice none 0 0, .string ⟨#[97]⟩, .int .i64 4, .int .i64 1, .int .i64 3, .string ⟨#[]⟩, .bool false, .slice none 0 0] 31)
  have hw := hw.trans hx13
  have Hfive := Lib.hid (block_later Hfive.out hx13)
  have Hpre := Lib.hid (block_later Hpre.out hx13)
  have He := Lib.hid (block_later He.out hx13)
  have Htwo := Lib.hid (block_later Htwo.out hx13)
  have FA := Lib.hid (FA.out.ext hx13)
  clear hx13
  have Hthree := Lib.hid hthree
  clear hthree
  go_wp2_with fail
  generalize w12.alloc (.cells #[.string ⟨#[98]⟩, .int .i64 2, .int .i64 1, .int .i64 1, .string ⟨#[]⟩, .bool false, .slice none 0 0, .string ⟨#[97]⟩, .int .i64 4, .int .i64 1, .int .i64 3, .string ⟨#[]⟩, .bool false, .slice none 0 0] 31) = w13 at *
  generalize w12.heap.size = bthree at *
  have hp1 : PredR w13 (.slice (some ⟨btwo, 0, none⟩) 2 2) w2P := pred0 w2P Htwo.out (by kernel_rfl) (by decide)
  have hp2 : PredR w13 (.slice (some ⟨bthree, 0, none⟩) 2 2) w3P := pred0 w3P Hthree.out (by kernel_rfl) (by decide)
  have hcv := Lib.hid (apart_lit hp1 hp2 w2P_ok w3P_ok ap_w2)
  clear hp1 hp2
  refine (hcv.out).mono ?_
  rintro e w14 ⟨rfl, hx14⟩
  have hw := hw.trans hx14
  have Hfive := Lib.hid (block_later Hfive.out hx14)
  have Hpre := Lib.hid (block_later Hpre.out hx14)
  have He := Lib.hid (block_later He.out hx14)
  have Htwo := Lib.hid (block_later Htwo.out hx14)
  have Hthree := Lib.hid (block_later Hthree.out hx14)
  have FA := Lib.hid (FA.out.ext hx14)
  clear hx14
  clear hcv
  clear Htwo
  clear Hthree
  go_wp2_with fail
  refine (con52_any w14 ⟨#[97]⟩ 4 7).mono ?_
  rintro e w15 ⟨rfl, hx15⟩
  have hw := hw.trans hx15
  have Hfive := Lib.hid (block_later Hfive.out hx15)
  have Hpre := Lib.hid (block_later Hpre.out hx15)
  have He := Lib.hid (block_later He.out hx15)
  have FA := Lib.hid (FA.out.ext hx15)
  clear hx15
  obtain ⟨hx16, hb7⟩ := boxes1 w15 (.cells #[.string ⟨#[97]⟩, .int .i64 4, .int .i64 1, .int .i64 7, .string ⟨#[]⟩, .bool false, .slice none 0 0] 31)
  have hw := hw.trans hx16
  have Hfive := Lib.hid (block_later Hfive.out hx16)
  have Hpre := Lib.hid (block_later Hpre.out hx16)
  have He := Lib.hid (block_later He.out hx16)
  have FA := Lib.hid (FA.out.ext hx16)
  clear hx16
  have Hb7 := Lib.hid hb7
  clear hb7
  go_wp2_with fail
  generalize w15.alloc (.cells #[.string ⟨#[97]⟩, .int .i64 4, .int .i64 1, .int .i64 7, .string ⟨#[]⟩, .bool false, .slice none 0 0] 31) = w16 at *
  generalize w15.heap.size = bb7 at *
  have hp1 : PredR w16 (.slice (some ⟨bfive, 0, none⟩) 1 1) w5P := pred0 w5P Hfive.out (by kernel_rfl) (by decide)
  have hp2 : PredR w16 (.slice (some ⟨bb7, 0, none⟩) 1 1) w7P := pred0 w7P Hb7.out (by kernel_rfl) (by decide)
  have hcv := Lib.hid (overlaps_lit hp1 hp2 w5P_ok w7P_ok ov_w5P_w7P)
  clear hp1 hp2
  refine (hcv.out).mono ?_
  rintro e w17 ⟨rfl, hx17⟩
  have hw := hw.trans hx17
  have Hfive := Lib.hid (block_later Hfive.out hx17)
  have Hpre := Lib.hid (block_later Hpre.out hx17)
  have He := Lib.hid (block_later He.out hx17)
  have Hb7 := Lib.hid (block_later Hb7.out hx17)
  have FA := Lib.hid (FA.out.ext hx17)
  clear hx17
  clear hcv
  clear Hb7
  go_wp2_with fail
  refine (con52_any w17 ⟨#[97]⟩ 4 6).mono ?_
  rintro e w18 ⟨rfl, hx18⟩
  have hw := hw.trans hx18
  have Hfive := Lib.hid (block_later Hfive.out hx18)
  have Hpre := Lib.hid (block_later Hpre.out hx18)
  have He := Lib.hid (block_later He.out hx18)
  have FA := Lib.hid (FA.out.ext hx18)
  clear hx18
  obtain ⟨hx19, hb6⟩ := boxes1 w18 (.cells #[.string ⟨#[97]⟩, .int .i64 4, .int .i64 1, .int .i64 6, .string ⟨#[]⟩, .bool false, .slice none 0 0] 31)
  have hw := hw.trans hx19
  have Hfive := Lib.hid (block_later Hfive.out hx19)
  have Hpre := Lib.hid (block_later Hpre.out hx19)
  have He := Lib.hid (block_later He.out hx19)
  have FA := Lib.hid (FA.out.ext hx19)
  clear hx19
  have Hb6 := Lib.hid hb6
  clear hb6
  go_wp2_with fail
  generalize w18.alloc (.cells #[.string ⟨#[97]⟩, .int .i64 4, .int .i64 1, .int .i64 6, .string ⟨#[]⟩, .bool false, .slice none 0 0] 31) = w19 at *
  generalize w18.heap.size = bb6 at *
  have hp1 : PredR w19 (.slice (some ⟨bfive, 0, none⟩) 1 1) w5P := pred0 w5P Hfive.out (by kernel_rfl) (by decide)
  have hp2 : PredR w19 (.slice (some ⟨bb6, 0, none⟩) 1 1) w6P := pred0 w6P Hb6.out (by kernel_rfl) (by decide)
  have hcv := Lib.hid (overlaps_lit hp1 hp2 w5P_ok w6P_ok ov_w5P_w6P)
  clear hp1 hp2
  refine (hcv.out).mono ?_
  rintro e w20 ⟨rfl, hx20⟩
  have hw := hw.trans hx20
  have Hfive := Lib.hid (block_later Hfive.out hx20)
  have Hpre := Lib.hid (block_later Hpre.out hx20)
  have He := Lib.hid (block_later He.out hx20)
  have Hb6 := Lib.hid (block_later Hb6.out hx20)
  have FA := Lib.hid (FA.out.ext hx20)
  clear hx20
  clear hcv
  clear Hb6
  go_wp2_with fail
  refine (con52_any w20 ⟨#[97]⟩ 2 1).mono ?_
  rintro e w21 ⟨rfl, hx21⟩
  have hw := hw.trans hx21
  have Hfive := Lib.hid (block_later Hfive.out hx21)
  have Hpre := Lib.hid (block_later Hpre.out hx21)
  have He := Lib.hid (block_later He.out hx21)
  have FA := Lib.hid (FA.out.ext hx21)
  clear hx21
  obtain ⟨hx22, ha1⟩ := boxes1 w21 (.cells #[.string ⟨#[97]⟩, .int .i64 2, .int .i64 1, .int .i64 1, .string ⟨#[]⟩, .bool false, .slice none 0 0] 31)
  have hw := hw.trans hx22
  have Hfive := Lib.hid (block_later Hfive.out hx22)
  have Hpre := Lib.hid (block_later Hpre.out hx22)
  have He := Lib.hid (block_later He.out hx22)
  have FA := Lib.hid (FA.out.ext hx22)
  clear hx22
  have Ha1 := Lib.hid ha1
  clear ha1
  go_wp2_with fail
  generalize w21.alloc (.cells #[.string ⟨#[97]⟩, .int .i64 2, .int .i64 1, .int .i64 1, .string ⟨#[]⟩, .bool false, .slice none 0 0] 31) = w22 at *
  generalize w21.heap.size = ba1 at *
  refine (str49_any w22 ⟨#[98]⟩ 2 ⟨#[120]⟩).mono ?_
  rintro e w23 ⟨rfl, hx23⟩
  have hw := hw.trans hx23
  have Hfive := Lib.hid (block_later Hfive.out hx23)
  have Hpre := Lib.hid (block_later Hpre.out hx23)
  have He := Lib.hid (block_later He.out hx23)
  have Ha1 := Lib.hid (block_later Ha1.out hx23)
  have FA := Lib.hid (FA.out.ext hx23)
  clear hx23
  obtain ⟨hx24, hb1⟩ := boxes1 w23 (.cells #[.string ⟨#[98]⟩, .int .i64 2, .int .i64 2, .int .i64 0, .string ⟨#[120]⟩, .bool false, .slice none 0 0] 31)
  have hw := hw.trans hx24
  have Hfive := Lib.hid (block_later Hfive.out hx24)
  have Hpre := Lib.hid (block_later Hpre.out hx24)
  have He := Lib.hid (block_later He.out hx24)
  have Ha1 := Lib.hid (block_later Ha1.out hx24)
  have FA := Lib.hid (FA.out.ext hx24)
  clear hx24
  have Hb1 := Lib.hid hb1
  clear hb1
  go_wp2_with fail
  generalize w23.alloc (.cells #[.string ⟨#[98]⟩, .int .i64 2, .int .i64 2, .int .i64 0, .string ⟨#[120]⟩, .bool false, .slice none 0 0] 31) = w24 at *
  generalize w23.heap.size = bb1 at *
  have hp1 : PredR w24 (.slice (some ⟨ba1, 0, none⟩) 1 1) wa1P := pred0 wa1P Ha1.out (by kernel_rfl) (by decide)
  have hp2 : PredR w24 (.slice (some ⟨bb1, 0, none⟩) 1 1) wb1P := pred0 wb1P Hb1.out (by kernel_rfl) (by decide)
  have hcv := Lib.hid (overlaps_lit hp1 hp2 wa1P_ok wb1P_ok ov_wa1P_wb1P)
  clear hp1 hp2
  refine (hcv.out).mono ?_
  rintro e w25 ⟨rfl, hx25⟩
  have hw := hw.trans hx25
  have Hfive := Lib.hid (block_later Hfive.out hx25)
  have Hpre := Lib.hid (block_later Hpre.out hx25)
  have He := Lib.hid (block_later He.out hx25)
  have Ha1 := Lib.hid (block_later Ha1.out hx25)
  have Hb1 := Lib.hid (block_later Hb1.out hx25)
  have FA := Lib.hid (FA.out.ext hx25)
  clear hx25
  clear hcv
  clear Ha1
  clear Hb1
  go_wp2_with fail
  refine (con52_any w25 ⟨#[97]⟩ 2 1).mono ?_
  rintro e w26 ⟨rfl, hx26⟩
  have hw := hw.trans hx26
  have Hfive := Lib.hid (block_later Hfive.out hx26)
  have Hpre := Lib.hid (block_later Hpre.out hx26)
  have He := Lib.hid (block_later He.out hx26)
  have FA := Lib.hid (FA.out.ext hx26)
  clear hx26
  obtain ⟨hx27, ha2, hha⟩ := boxes2 w26 (.cells #[.string ⟨#[97]⟩, .int .i64 2, .int .i64 1, .int .i64 1, .string ⟨#[]⟩, .bool false, .slice none 0 0] 31) (.cells #[.string ⟨#[97]⟩, .int .i64 1, .int .i64 0, .int .i64 0, .string ⟨#[]⟩, .bool false, .slice none 0 0] 31)
  have hw := hw.trans hx27
  have Hfive := Lib.hid (block_later Hfive.out hx27)
  have Hpre := Lib.hid (block_later Hpre.out hx27)
  have He := Lib.hid (block_later He.out hx27)
  have FA := Lib.hid (FA.out.ext hx27)
  clear hx27
  have Ha2 := Lib.hid ha2
  clear ha2
  have Hha := Lib.hid hha
  clear hha
  go_wp2_with fail
  generalize (w26.alloc (.cells #[.string ⟨#[97]⟩, .int .i64 2, .int .i64 1, .int .i64 1, .string ⟨#[]⟩, .bool false, .slice none 0 0] 31)).alloc (.cells #[.string ⟨#[97]⟩, .int .i64 1, .int .i64 0, .int .i64 0, .string ⟨#[]⟩, .bool false, .slice none 0 0] 31) = w27 at *
  generalize w26.heap.size + 1 = bha at *
  generalize w26.heap.size = ba2 at *
  have hp1 : PredR w27 (.slice (some ⟨ba2, 0, none⟩) 1 1) wa1P := pred0 wa1P Ha2.out (by kernel_rfl) (by decide)
  have hp2 : PredR w27 (.slice (some ⟨bha, 0, none⟩) 1 1) whaP := pred0 whaP Hha.out (by kernel_rfl) (by decide)
  have hcv := Lib.hid (overlaps_lit hp1 hp2 wa1P_ok whaP_ok ov_wa1P_whaP)
  clear hp1 hp2
  refine (hcv.out).mono ?_
  rintro e w28 ⟨rfl, hx28⟩
  have hw := hw.trans hx28
  have Hfive := Lib.hid (block_later Hfive.out hx28)
  have Hpre := Lib.hid (block_later Hpre.out hx28)
  have He := Lib.hid (block_later He.out hx28)
  have Ha2 := Lib.hid (block_later Ha2.out hx28)
  have Hha := Lib.hid (block_later Hha.out hx28)
  have FA := Lib.hid (FA.out.ext hx28)
  clear hx28
  clear hcv
  clear Ha2
  clear Hha
  go_wp2_with fail
  refine (str49_any w28 ⟨#[115]⟩ 4 ⟨#[97, 98]⟩).mono ?_
  rintro e w29 ⟨rfl, hx29⟩
  have hw := hw.trans hx29
  have Hfive := Lib.hid (block_later Hfive.out hx29)
  have Hpre := Lib.hid (block_later Hpre.out hx29)
  have He := Lib.hid (block_later He.out hx29)
  have FA := Lib.hid (FA.out.ext hx29)
  clear hx29
  obtain ⟨hx30, hlt⟩ := boxes1 w29 (.cells #[.string ⟨#[115]⟩, .int .i64 4, .int .i64 2, .int .i64 0, .string ⟨#[97, 98]⟩, .bool false, .slice none 0 0] 31)
  have hw := hw.trans hx30
  have Hfive := Lib.hid (block_later Hfive.out hx30)
  have Hpre := Lib.hid (block_later Hpre.out hx30)
  have He := Lib.hid (block_later He.out hx30)
  have FA := Lib.hid (FA.out.ext hx30)
  clear hx30
  have Hlt := Lib.hid hlt
  clear hlt
  go_wp2_with fail
  generalize w29.alloc (.cells #[.string ⟨#[115]⟩, .int .i64 4, .int .i64 2, .int .i64 0, .string ⟨#[97, 98]⟩, .bool false, .slice none 0 0] 31) = w30 at *
  generalize w29.heap.size = blt at *
  have hp1 : PredR w30 (.slice (some ⟨bpre, 0, none⟩) 1 1) wpreP := pred0 wpreP Hpre.out (by kernel_rfl) (by decide)
  have hp2 : PredR w30 (.slice (some ⟨blt, 0, none⟩) 1 1) wltP := pred0 wltP Hlt.out (by kernel_rfl) (by decide)
  have hcv := Lib.hid (overlaps_lit hp1 hp2 wpreP_ok wltP_ok ov_wpreP_wltP)
  clear hp1 hp2
  refine (hcv.out).mono ?_
  rintro e w31 ⟨rfl, hx31⟩
  have hw := hw.trans hx31
  have Hfive := Lib.hid (block_later Hfive.out hx31)
  have Hpre := Lib.hid (block_later Hpre.out hx31)
  have He := Lib.hid (block_later He.out hx31)
  have Hlt := Lib.hid (block_later Hlt.out hx31)
  have FA := Lib.hid (FA.out.ext hx31)
  clear hx31
  clear hcv
  clear Hlt
  go_wp2_with fail
  refine (str49_any w31 ⟨#[115]⟩ 8 ⟨#[97, 98, 99]⟩).mono ?_
  rintro e w32 ⟨rfl, hx32⟩
  have hw := hw.trans hx32
  have Hfive := Lib.hid (block_later Hfive.out hx32)
  have Hpre := Lib.hid (block_later Hpre.out hx32)
  have He := Lib.hid (block_later He.out hx32)
  have FA := Lib.hid (FA.out.ext hx32)
  clear hx32
  obtain ⟨hx33, habc⟩ := boxes1 w32 (.cells #[.string ⟨#[115]⟩, .int .i64 8, .int .i64 2, .int .i64 0, .string ⟨#[97, 98, 99]⟩, .bool false, .slice none 0 0] 31)
  have hw := hw.trans hx33
  have Hfive := Lib.hid (block_later Hfive.out hx33)
  have Hpre := Lib.hid (block_later Hpre.out hx33)
  have He := Lib.hid (block_later He.out hx33)
  have FA := Lib.hid (FA.out.ext hx33)
  clear hx33
  have Habc := Lib.hid habc
  clear habc
  go_wp2_with fail
  generalize w32.alloc (.cells #[.string ⟨#[115]⟩, .int .i64 8, .int .i64 2, .int .i64 0, .string ⟨#[97, 98, 99]⟩, .bool false, .slice none 0 0] 31) = w33 at *
  generalize w32.heap.size = babc at *
  have hp1 : PredR w33 (.slice (some ⟨bpre, 0, none⟩) 1 1) wpreP := pred0 wpreP Hpre.out (by kernel_rfl) (by decide)
  have hp2 : PredR w33 (.slice (some ⟨babc, 0, none⟩) 1 1) wabcP := pred0 wabcP Habc.out (by kernel_rfl) (by decide)
  have hcv := Lib.hid (overlaps_lit hp1 hp2 wpreP_ok wabcP_ok ov_wpreP_wabcP)
  clear hp1 hp2
  refine (hcv.out).mono ?_
  rintro e w34 ⟨rfl, hx34⟩
  have hw := hw.trans hx34
  have Hfive := Lib.hid (block_later Hfive.out hx34)
  have Hpre := Lib.hid (block_later Hpre.out hx34)
  have He := Lib.hid (block_later He.out hx34)
  have Habc := Lib.hid (block_later Habc.out hx34)
  have FA := Lib.hid (FA.out.ext hx34)
  clear hx34
  clear hcv
  clear Habc
  clear Hpre
  obtain ⟨B1, o1, e1, p0, p1, p2, p3, p4⟩ := AttrR.at FA.out (k := 0) (by decide)
  obtain ⟨B2, o2, e2, q0, q1, q2, q3, q4⟩ := AttrR.at FA.out (k := 1) (by decide)
  subst e1
  simp only [Option.some.injEq, Addr.mk.injEq, and_true] at e2
  obtain ⟨rfl, rfl⟩ := e2
  simp only [Nat.zero_mul, Nat.add_zero, Nat.one_mul, List.getElem_cons_zero, List.getElem_cons_succ] at p0 p1 p2 p3 p4 q0 q1 q2 q3 q4
  have me_1 := cell_of_row _ _ 1 _ _ _ He.out
  have hp1 : PredR w34 (.slice (some ⟨bfive, 0, none⟩) 1 1) w5P := pred0 w5P Hfive.out (by kernel_rfl) (by decide)
  have hcv := Lib.hid (any_lit hp1 w5P_ok any_w5P)
  clear hp1
  go_wp2_with fail
  refine (hcv.out).mono ?_
  rintro e w35 ⟨rfl, hx35⟩
  have hw := hw.trans hx35
  have Hfive := Lib.hid (block_later Hfive.out hx35)
  have He := Lib.hid (block_later He.out hx35)
  have FA := Lib.hid (FA.out.ext hx35)
  clear hx35
  clear hcv
  clear p0 p1 p2 p3 p4 q0 q1 q2 q3 q4 me_1
  clear He
  clear Hfive
  clear FA
  go_wp2_with fail
  refine (con52_any w35 ⟨#[97]⟩ 2 1).mono ?_
  rintro e w36 ⟨rfl, hx36⟩
  have hw := hw.trans hx36
  clear hx36
  go_wp2_with fail
  refine (con52_any w36 ⟨#[97]⟩ 2 2).mono ?_
  rintro e w37 ⟨rfl, hx37⟩
  have hw := hw.trans hx37
  clear hx37
  obtain ⟨hx38, hnv⟩ := boxes1 w37 (.cells #[.string ⟨#[97]⟩, .int .i64 2, .int .i64 1, .int .i64 1, .string ⟨#[]⟩, .bool false, .slice none 0 0, .string ⟨#[97]⟩, .int .i64 2, .int .i64 1, .int .i64 2, .string ⟨#[]⟩, .bool false, .slice none 0 0] 31)
  have hw := hw.trans hx38
  clear hx38
  have Hnv := Lib.hid hnv
  clear hnv
  go_wp2_with fail
  generalize w37.alloc (.cells #[.string ⟨#[97]⟩, .int .i64 2, .int .i64 1, .int .i64 1, .string ⟨#[]⟩, .bool false, .slice none 0 0, .string ⟨#[97]⟩, .int .i64 2, .int .i64 1, .int .i64 2, .string ⟨#[]⟩, .bool false, .slice none 0 0] 31) = w38 at *
  generalize w37.heap.size = bnv at *
  have hp1 : PredR w38 (.slice (some ⟨bnv, 0, none⟩) 2 2) wnvP := pred0 wnvP Hnv.out (by kernel_rfl) (by decide)
  have hcv := Lib.hid (any_lit hp1 wnvP_ok any_wnvP)
  clear hp1
  refine (hcv.out).mono ?_
  rintro e w39 ⟨rfl, hx39⟩
  have hw := hw.trans hx39
  have Hnv := Lib.hid (block_later Hnv.out hx39)
  clear hx39
  clear hcv
  go_wp2_with fail
  go_ret
  exact ⟨rfl, hw⟩
end Go.Proofs.Ytkefppdacigbmaa
