/- OverlapKnown: the chapter's rows, the ends. (Printed by a program.) -/
import Derived.Test.YtkefppdacigbmaaP22
namespace Go.Proofs.Ytkefppdacigbmaa
open Go.RowKit

def obadP : List C := [⟨[97], 10, ⟨0, 0, [], false⟩, []⟩]
theorem obadP_ok : ∀ c ∈ obadP, okC c := okL (by kernel_rfl)
def ogapP : List C := [⟨[97], 6, ⟨2, 0, [120], false⟩, []⟩]
theorem ogapP_ok : ∀ c ∈ ogapP, okC c := okL (by kernel_rfl)
def olowP : List C := [⟨[97], 4, ⟨2, 0, [120, 0], false⟩, []⟩]
theorem olowP_ok : ∀ c ∈ olowP, okC c := okL (by kernel_rfl)
def otruP : List C := [⟨[97], 6, ⟨3, 0, [], true⟩, []⟩]
theorem otruP_ok : ∀ c ∈ otruP, okC c := okL (by kernel_rfl)
def ogeP : List C := [⟨[97], 7, ⟨1, 9223372036854775807, [], false⟩, []⟩]
theorem ogeP_ok : ∀ c ∈ ogeP, okC c := okL (by kernel_rfl)
def one5P : List C := [⟨[97], 3, ⟨1, 5, [], false⟩, []⟩]
theorem one5P_ok : ∀ c ∈ one5P, okC c := okL (by kernel_rfl)
def onemP : List C := [⟨[97], 3, ⟨1, 9223372036854775807, [], false⟩, []⟩]
theorem onemP_ok : ∀ c ∈ onemP, okC c := okL (by kernel_rfl)
theorem ov_ogapP_olowP : overlapsF ogapP olowP = false := by kernel_rfl
theorem ov_ogeP_one5P : overlapsF ogeP one5P = true := by kernel_rfl
theorem ov_ogeP_onemP : overlapsF ogeP onemP = false := by kernel_rfl
theorem any_obadP : overlapsF obadP [] = false := by kernel_rfl
theorem any_otruP : overlapsF otruP [] = false := by kernel_rfl
theorem ex_nil : exampleF [] [] = [] := by kernel_rfl
theorem ov_nil : overlapsF [] [] = true := by kernel_rfl
theorem okC_nil : ∀ c ∈ ([] : List C), okC c := fun c hc => by cases hc

set_option maxRecDepth 100000 in
set_option maxHeartbeats 16000000 in
theorem overlapKnown_walk (w : World) : Calls Try.prog 11 #[] w fun e w' => e = .returned (.bool true) ∧ Ext w w' := by
  go_enter Try.func11, Try.ntmps11
  have hw := Ext.refl w
  obtain ⟨hx1, hbad⟩ := boxes1 w (.cells #[.string ⟨#[97]⟩, .int .i64 10, .int .i64 0, .int .i64 0, .string ⟨#[]⟩, .bool false, .slice none 0 0] 31)
  have hw := hw.trans hx1
  clear hx1
  have Hbad := Lib.hid hbad
  clear hbad
  go_wp2_with fail
  generalize w.alloc (.cells #[.string ⟨#[97]⟩, .int .i64 10, .int .i64 0, .int .i64 0, .string ⟨#[]⟩, .bool false, .slice none 0 0] 31) = w1 at *
  generalize w.heap.size = bbad at *
  refine (str49_any w1 ⟨#[97]⟩ 6 ⟨#[120]⟩).mono ?_
  rintro e w2 ⟨rfl, hx2⟩
  have hw := hw.trans hx2
  have Hbad := Lib.hid (block_later Hbad.out hx2)
  clear hx2
  obtain ⟨hx3, hgap⟩ := boxes1 w2 (.cells #[.string ⟨#[97]⟩, .int .i64 6, .int .i64 2, .int .i64 0, .string ⟨#[120]⟩, .bool false, .slice none 0 0] 31)
  have hw := hw.trans hx3
  have Hbad := Lib.hid (block_later Hbad.out hx3)
  clear hx3
  have Hgap := Lib.hid hgap
  clear hgap
  go_wp2_with fail
  generalize w2.alloc (.cells #[.string ⟨#[97]⟩, .int .i64 6, .int .i64 2, .int .i64 0, .string ⟨#[120]⟩, .bool false, .slice none 0 0] 31) = w3 at *
  generalize w2.heap.size = bgap at *
  refine (str49_any w3 ⟨#[97]⟩ 4 ⟨#[120, 0]⟩).mono ?_
  rintro e w4 ⟨rfl, hx4⟩
  have hw := hw.trans hx4
  have Hbad := Lib.hid (block_later Hbad.out hx4)
  have Hgap := Lib.hid (block_later Hgap.out hx4)
  clear hx4
  obtain ⟨hx5, hlow, htru⟩ := boxes2 w4 (.cells #[.string ⟨#[97]⟩, .int .i64 4, .int .i64 2, .int .i64 0, .string ⟨#[120, 0]⟩, .bool false, .slice none 0 0] 31) (.cells #[.string ⟨#[97]⟩, .int .i64 6, .int .i64 3, .int .i64 0, .string ⟨#[]⟩, .bool true, .slice none 0 0] 31)
  have hw := hw.trans hx5
  have Hbad := Lib.hid (block_later Hbad.out hx5)
  have Hgap := Lib.hid (block_later Hgap.out hx5)
  clear hx5
  have Hlow := Lib.hid hlow
  clear hlow
  have Htru := Lib.hid htru
  clear htru
  go_wp2_with fail
  generalize (w4.alloc (.cells #[.string ⟨#[97]⟩, .int .i64 4, .int .i64 2, .int .i64 0, .string ⟨#[120, 0]⟩, .bool false, .slice none 0 0] 31)).alloc (.cells #[.string ⟨#[97]⟩, .int .i64 6, .int .i64 3, .int .i64 0, .string ⟨#[]⟩, .bool true, .slice none 0 0] 31) = w5 at *
  generalize w4.heap.size + 1 = btru at *
  generalize w4.heap.size = blow at *
  have hp1 : PredR w5 (.slice none 0 0) ([] : List C) := PredR.nil _
  have hp2 : PredR w5 (.slice none 0 0) ([] : List C) := PredR.nil _
  have hcv := Lib.hid (example_lit (n := 0) hp1 hp2 okC_nil okC_nil ex_nil ov_nil rfl)
  clear hp1 hp2
  refine (hcv.out).mono ?_
  rintro e w6 ⟨afa, cfa, rfl, _, hx6⟩
  have hw := hw.trans hx6
  have Hbad := Lib.hid (block_later Hbad.out hx6)
  have Hgap := Lib.hid (block_later Hgap.out hx6)
  have Hlow := Lib.hid (block_later Hlow.out hx6)
  have Htru := Lib.hid (block_later Htru.out hx6)
  clear hx6
  clear hcv
  obtain ⟨hx7, he⟩ := boxes1 w6 (.cells #[.string ⟨#[]⟩, .slice afa 0 cfa] 26)
  have hw := hw.trans hx7
  have Hbad := Lib.hid (block_later Hbad.out hx7)
  have Hgap := Lib.hid (block_later Hgap.out hx7)
  have Hlow := Lib.hid (block_later Hlow.out hx7)
  have Htru := Lib.hid (block_later Htru.out hx7)
  clear hx7
  have He := Lib.hid he
  clear he
  go_wp2_with fail
  generalize w6.alloc (.cells #[.string ⟨#[]⟩, .slice afa 0 cfa] 26) = w7 at *
  generalize w6.heap.size = be at *
  have hp1 : PredR w7 (.slice (some ⟨bbad, 0, none⟩) 1 1) obadP := pred0 obadP Hbad.out (by kernel_rfl) (by decide)
  have hp2 : PredR w7 (.slice none 0 0) ([] : List C) := PredR.nil _
  have hcv := Lib.hid (overlaps_lit hp1 hp2 obadP_ok okC_nil any_obadP)
  clear hp1 hp2
  refine (hcv.out).mono ?_
  rintro e w8 ⟨rfl, hx8⟩
  have hw := hw.trans hx8
  have Hbad := Lib.hid (block_later Hbad.out hx8)
  have Hgap := Lib.hid (block_later Hgap.out hx8)
  have Hlow := Lib.hid (block_later Hlow.out hx8)
  have Htru := Lib.hid (block_later Htru.out hx8)
  have He := Lib.hid (block_later He.out hx8)
  clear hx8
  clear hcv
  have hp1 : PredR w8 (.slice (some ⟨bbad, 0, none⟩) 1 1) obadP := pred0 obadP Hbad.out (by kernel_rfl) (by decide)
  have hcv := Lib.hid (any_lit hp1 obadP_ok any_obadP)
  clear hp1
  go_wp2_with fail
  refine (hcv.out).mono ?_
  rintro e w9 ⟨rfl, hx9⟩
  have hw := hw.trans hx9
  have Hbad := Lib.hid (block_later Hbad.out hx9)
  have Hgap := Lib.hid (block_later Hgap.out hx9)
  have Hlow := Lib.hid (block_later Hlow.out hx9)
  have Htru := Lib.hid (block_later Htru.out hx9)
  have He := Lib.hid (block_later He.out hx9)
  clear hx9
  clear hcv
  have hp1 : PredR w9 (.slice (some ⟨bgap, 0, none⟩) 1 1) ogapP := pred0 ogapP Hgap.out (by kernel_rfl) (by decide)
  have hp2 : PredR w9 (.slice (some ⟨blow, 0, none⟩) 1 1) olowP := pred0 olowP Hlow.out (by kernel_rfl) (by decide)
  have hcv := Lib.hid (overlaps_lit hp1 hp2 ogapP_ok olowP_ok ov_ogapP_olowP)
  clear hp1 hp2
  go_wp2_with fail
  refine (hcv.out).mono ?_
  rintro e w10 ⟨rfl, hx10⟩
  have hw := hw.trans hx10
  have Hbad := Lib.hid (block_later Hbad.out hx10)
  have Hgap := Lib.hid (block_later Hgap.out hx10)
  have Hlow := Lib.hid (block_later Hlow.out hx10)
  have Htru := Lib.hid (block_later Htru.out hx10)
  have He := Lib.hid (block_later He.out hx10)
  clear hx10
  clear hcv
  have hp1 : PredR w10 (.slice (some ⟨btru, 0, none⟩) 1 1) otruP := pred0 otruP Htru.out (by kernel_rfl) (by decide)
  have hcv := Lib.hid (any_lit hp1 otruP_ok any_otruP)
  clear hp1
  go_wp2_with fail
  refine (hcv.out).mono ?_
  rintro e w11 ⟨rfl, hx11⟩
  have hw := hw.trans hx11
  have Hbad := Lib.hid (block_later Hbad.out hx11)
  have Hgap := Lib.hid (block_later Hgap.out hx11)
  have Hlow := Lib.hid (block_later Hlow.out hx11)
  have Htru := Lib.hid (block_later Htru.out hx11)
  have He := Lib.hid (block_later He.out hx11)
  clear hx11
  clear hcv
  clear Hbad
  clear Hgap
  clear Hlow
  clear Htru
  have me_1 := cell_of_row _ _ 1 _ _ _ He.out
  go_wp2_with fail
  refine (con52_any w11 ⟨#[97]⟩ 7 9223372036854775807).mono ?_
  rintro e w12 ⟨rfl, hx12⟩
  have hw := hw.trans hx12
  have He := Lib.hid (block_later He.out hx12)
  clear hx12
  clear me_1
  clear He
  obtain ⟨hx13, hge⟩ := boxes1 w12 (.cells #[.string ⟨#[97]⟩, .int .i64 7, .int .i64 1, .int .i64 9223372036854775807, .string ⟨#[]⟩, .bool false, .slice none 0 0] 31)
  have hw := hw.trans hx13
  clear hx13
  have Hge := Lib.hid hge
  clear hge
  go_wp2_with fail
  generalize w12.alloc (.cells #[.string ⟨#[97]⟩, .int .i64 7, .int .i64 1, .int .i64 9223372036854775807, .string ⟨#[]⟩, .bool false, .slice none 0 0] 31) = w13 at *
  generalize w12.heap.size = bge at *
  refine (con52_any w13 ⟨#[97]⟩ 3 5).mono ?_
  rintro e w14 ⟨rfl, hx14⟩
  have hw := hw.trans hx14
  have Hge := Lib.hid (block_later Hge.out hx14)
  clear hx14
  obtain ⟨hx15, hne⟩ := boxes1 w14 (.cells #[.string ⟨#[97]⟩, .int .i64 3, .int .i64 1, .int .i64 5, .string ⟨#[]⟩, .bool false, .slice none 0 0] 31)
  have hw := hw.trans hx15
  have Hge := Lib.hid (block_later Hge.out hx15)
  clear hx15
  have Hne := Lib.hid hne
  clear hne
  go_wp2_with fail
  generalize w14.alloc (.cells #[.string ⟨#[97]⟩, .int .i64 3, .int .i64 1, .int .i64 5, .string ⟨#[]⟩, .bool false, .slice none 0 0] 31) = w15 at *
  generalize w14.heap.size = bne at *
  have hp1 : PredR w15 (.slice (some ⟨bge, 0, none⟩) 1 1) ogeP := pred0 ogeP Hge.out (by kernel_rfl) (by decide)
  have hp2 : PredR w15 (.slice (some ⟨bne, 0, none⟩) 1 1) one5P := pred0 one5P Hne.out (by kernel_rfl) (by decide)
  have hcv := Lib.hid (overlaps_lit hp1 hp2 ogeP_ok one5P_ok ov_ogeP_one5P)
  clear hp1 hp2
  refine (hcv.out).mono ?_
  rintro e w16 ⟨rfl, hx16⟩
  have hw := hw.trans hx16
  have Hge := Lib.hid (block_later Hge.out hx16)
  have Hne := Lib.hid (block_later Hne.out hx16)
  clear hx16
  clear hcv
  clear Hge
  clear Hne
  go_wp2_with fail
  refine (con52_any w16 ⟨#[97]⟩ 7 9223372036854775807).mono ?_
  rintro e w17 ⟨rfl, hx17⟩
  have hw := hw.trans hx17
  clear hx17
  obtain ⟨hx18, hgf⟩ := boxes1 w17 (.cells #[.string ⟨#[97]⟩, .int .i64 7, .int .i64 1, .int .i64 9223372036854775807, .string ⟨#[]⟩, .bool false, .slice none 0 0] 31)
  have hw := hw.trans hx18
  clear hx18
  have Hgf := Lib.hid hgf
  clear hgf
  go_wp2_with fail
  generalize w17.alloc (.cells #[.string ⟨#[97]⟩, .int .i64 7, .int .i64 1, .int .i64 9223372036854775807, .string ⟨#[]⟩, .bool false, .slice none 0 0] 31) = w18 at *
  generalize w17.heap.size = bgf at *
  refine (con52_any w18 ⟨#[97]⟩ 3 9223372036854775807).mono ?_
  rintro e w19 ⟨rfl, hx19⟩
  have hw := hw.trans hx19
  have Hgf := Lib.hid (block_later Hgf.out hx19)
  clear hx19
  obtain ⟨hx20, hnf⟩ := boxes1 w19 (.cells #[.string ⟨#[97]⟩, .int .i64 3, .int .i64 1, .int .i64 9223372036854775807, .string ⟨#[]⟩, .bool false, .slice none 0 0] 31)
  have hw := hw.trans hx20
  have Hgf := Lib.hid (block_later Hgf.out hx20)
  clear hx20
  have Hnf := Lib.hid hnf
  clear hnf
  go_wp2_with fail
  generalize w19.alloc (.cells #[.string ⟨#[97]⟩, .int .i64 3, .int .i64 1, .int .i64 9223372036854775807, .string ⟨#[]⟩, .bool false, .slice none 0 0] 31) = w20 at *
  generalize w19.heap.size = bnf at *
  have hp1 : PredR w20 (.slice (some ⟨bgf, 0, none⟩) 1 1) ogeP := pred0 ogeP Hgf.out (by kernel_rfl) (by decide)
  have hp2 : PredR w20 (.slice (some ⟨bnf, 0, none⟩) 1 1) onemP := pred0 onemP Hnf.out (by kernel_rfl) (by decide)
  have hcv := Lib.hid (overlaps_lit hp1 hp2 ogeP_ok onemP_ok ov_ogeP_onemP)
  clear hp1 hp2
  refine (hcv.out).mono ?_
  rintro e w21 ⟨rfl, hx21⟩
  have hw := hw.trans hx21
  have Hgf := Lib.hid (block_later Hgf.out hx21)
  have Hnf := Lib.hid (block_later Hnf.out hx21)
  clear hx21
  clear hcv
  clear Hgf
  clear Hnf
  go_wp2_with fail
  refine (wakes06_any w21).mono ?_
  rintro e w22 ⟨rfl, hx22⟩
  have hw := hw.trans hx22
  clear hx22
  go_wp2_with fail
  go_ret
  exact ⟨rfl, hw⟩
end Go.Proofs.Ytkefppdacigbmaa
