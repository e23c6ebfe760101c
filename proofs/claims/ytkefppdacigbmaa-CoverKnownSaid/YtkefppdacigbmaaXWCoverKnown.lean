/- CoverKnown: the chapter's rows, ends of all kinds. (Printed by a program.) -/
import Derived.Test.YtkefppdacigbmaaP18
namespace Go.Proofs.Ytkefppdacigbmaa
open Go.RowKit

theorem Of_lit_no {w : World} {c : C} {sa : Option Addr} {sn sc : Nat} (hs : SetR w (.slice sa sn sc) c.set) (hk : okC c) (hm : mayC c = false) :
    Calls Try.prog 40 #[.agg #[.string (strOf c.name), .int .i64 c.op, .int .i64 c.v.k, .int .i64 c.v.n, .string (strOf c.v.s), .bool c.v.b, .slice sa sn sc]] w fun e w' => ∃ a1 c1 a2 c2 a3 c3, e = .returned (.tuple #[.agg #[.slice a1 0 c1, .slice a2 0 c2, .slice a3 0 c3, .bool false], .int .i64 30]) ∧ Ext w w' := by
  have hn : sn = c.set.length := by
    obtain ⟨_, _, e, _, _⟩ := Row.shape hs
    simp only [Value.slice.injEq] at e
    exact e.2.1
  subst hn
  have h := Of_any w c sa sc hs hk.v.n fun x hx => (hk.set x hx).n
  rw [hm] at h
  refine h.mono ?_
  rintro e w' ⟨v, rfl, hv, hx⟩
  have hR : ofR c = noneR := by unfold ofR; rw [hm]; rfl
  rw [hR] at hv
  obtain ⟨a1, c1, a2, c2, a3, c3, rfl, _, _, _⟩ := hv.ex
  exact ⟨a1, c1, a2, c2, a3, c3, rfl, hx⟩
theorem all_lit (w : World) : Calls Try.prog 38 #[] w fun e w' => ∃ a1 c1 a2 c2 a3 c3, e = .returned (.agg #[.slice a1 allR.i.length c1, .slice a2 allR.s.length c2, .slice a3 allR.b.length c3, .bool allR.odd]) ∧ RgR w' (.agg #[.slice a1 allR.i.length c1, .slice a2 allR.s.length c2, .slice a3 allR.b.length c3, .bool allR.odd]) allR ∧ Ext w w' := by
  refine (all_any w).mono ?_
  rintro e w' ⟨v, rfl, hv, hx⟩
  obtain ⟨a1, c1, a2, c2, a3, c3, rfl, _, _, _⟩ := hv.ex
  exact ⟨a1, c1, a2, c2, a3, c3, rfl, hv, hx⟩
def topP : List C := [⟨[97], 6, ⟨1, 9223372036854775807, [], false⟩, []⟩]
theorem topP_ok : ∀ c ∈ topP, okC c := okL (by kernel_rfl)
def gapP : List C := [⟨[97], 6, ⟨2, 0, [120], false⟩, []⟩, ⟨[97], 4, ⟨2, 0, [120, 0], false⟩, []⟩]
theorem gapP_ok : ∀ c ∈ gapP, okC c := okL (by kernel_rfl)
def boolsP : List C := [⟨[97], 9, ⟨0, 0, [], false⟩, [⟨3, 0, [], false⟩, ⟨3, 0, [], true⟩]⟩]
theorem boolsP_ok : ∀ c ∈ boolsP, okC c := okL (by kernel_rfl)
def hasaP2 : List C := [⟨[97], 1, ⟨0, 0, [], false⟩, []⟩]
theorem hasaP2_ok : ∀ c ∈ hasaP2, okC c := okL (by kernel_rfl)
def leP : List C := [⟨[97], 5, ⟨3, 0, [], true⟩, []⟩]
theorem leP_ok : ∀ c ∈ leP, okC c := okL (by kernel_rfl)
def nilP2 : List C := []
theorem nilP2_ok : ∀ c ∈ nilP2, okC c := okL (by kernel_rfl)
def topC : C := ⟨[97], 6, ⟨1, 9223372036854775807, [], false⟩, []⟩
theorem topC_ok : okC topC := okCB_ok (by kernel_rfl)
theorem topC_may : mayC topC = true := by kernel_rfl
def botC : C := ⟨[97], 4, ⟨1, (-9223372036854775808), [], false⟩, []⟩
theorem botC_ok : okC botC := okCB_ok (by kernel_rfl)
theorem botC_may : mayC botC = true := by kernel_rfl
def ltbC : C := ⟨[97], 4, ⟨3, 0, [], false⟩, []⟩
theorem ltbC_ok : okC ltbC := okCB_ok (by kernel_rfl)
theorem ltbC_may : mayC ltbC = true := by kernel_rfl
def ltsC : C := ⟨[97], 4, ⟨2, 0, [], false⟩, []⟩
theorem ltsC_ok : okC ltsC := okCB_ok (by kernel_rfl)
theorem ltsC_may : mayC ltsC = true := by kernel_rfl
def preC : C := ⟨[97], 8, ⟨2, 0, [255, 255], false⟩, []⟩
theorem preC_ok : okC preC := okCB_ok (by kernel_rfl)
theorem preC_may : mayC preC = true := by kernel_rfl
def nebC : C := ⟨[97], 3, ⟨3, 0, [], false⟩, []⟩
theorem nebC_ok : okC nebC := okCB_ok (by kernel_rfl)
theorem nebC_may : mayC nebC = true := by kernel_rfl
def gemC : C := ⟨[97], 7, ⟨1, (-9223372036854775808), [], false⟩, []⟩
theorem gemC_ok : okC gemC := okCB_ok (by kernel_rfl)
theorem gemC_may : mayC gemC = true := by kernel_rfl
def badC : C := ⟨[97], 10, ⟨0, 0, [], false⟩, []⟩
theorem badC_ok : okC badC := okCB_ok (by kernel_rfl)
theorem badC_may : mayC badC = false := by kernel_rfl
theorem topC_empty : (ofR topC).empty = true := by kernel_rfl
theorem botC_empty : (ofR botC).empty = true := by kernel_rfl
theorem ltbC_empty : (ofR ltbC).empty = true := by kernel_rfl
theorem ltsC_empty : (ofR ltsC).empty = true := by kernel_rfl
theorem neb_some : someR (ofR nebC) = (⟨3, 0, [], true⟩, true) := by kernel_rfl
theorem gem_some : someR (ofR gemC) = (⟨1, -9223372036854775808, [], false⟩, true) := by kernel_rfl
theorem all_some : someR allR = (⟨1, -9223372036854775808, [], false⟩, true) := by kernel_rfl
theorem pre_has : (ofR preC).has ⟨2, 0, [255, 255, 122], false⟩ = true := by kernel_rfl
theorem pre_hasnt : (ofR preC).has ⟨2, 0, [255], false⟩ = false := by kernel_rfl
theorem ctr3 : counterF nilP2 gapP = ([], false) := by kernel_rfl
theorem cv_topP_gapP : coversF topP gapP = true := by kernel_rfl
theorem cv_boolsP_hasaP2 : coversF boolsP hasaP2 = false := by kernel_rfl
theorem cv_leP_boolsP : coversF leP boolsP = true := by kernel_rfl

set_option maxRecDepth 100000 in
set_option maxHeartbeats 16000000 in
theorem coverKnown_walk (w : World) : Calls Try.prog 9 #[] w fun e w' => e = .returned (.bool true) ∧ Ext w w' := by
  go_enter Try.func9, Try.ntmps9
  have hw := Ext.refl w
  go_wp2_with fail
  refine (con39_any w ⟨#[97]⟩ 6 9223372036854775807).mono ?_
  rintro e w1 ⟨rfl, hx1⟩
  have hw := hw.trans hx1
  clear hx1
  go_wp2_with fail
  refine (con39_any w1 ⟨#[97]⟩ 4 (-9223372036854775808)).mono ?_
  rintro e w2 ⟨rfl, hx2⟩
  have hw := hw.trans hx2
  clear hx2
  obtain ⟨hx3, ht, hu⟩ := boxes2 w2 (.cells #[.string ⟨#[97]⟩, .int .i64 6, .int .i64 1, .int .i64 9223372036854775807, .string ⟨#[]⟩, .bool false, .slice none 0 0] 31) (.cells #[.string ⟨#[97]⟩, .int .i64 4, .int .i64 1, .int .i64 (-9223372036854775808), .string ⟨#[]⟩, .bool false, .slice none 0 0] 31)
  have hw := hw.trans hx3
  clear hx3
  have Ht := Lib.hid ht
  clear ht
  have Hu := Lib.hid hu
  clear hu
  have mt_0 := cell_of_row _ _ 0 _ _ _ Ht.out
  have mt_1 := cell_of_row _ _ 1 _ _ _ Ht.out
  have mt_2 := cell_of_row _ _ 2 _ _ _ Ht.out
  have mt_3 := cell_of_row _ _ 3 _ _ _ Ht.out
  have mt_4 := cell_of_row _ _ 4 _ _ _ Ht.out
  have mt_5 := cell_of_row _ _ 5 _ _ _ Ht.out
  have mt_6 := cell_of_row _ _ 6 _ _ _ Ht.out
  go_wp2_with fail
  generalize (w2.alloc (.cells #[.string ⟨#[97]⟩, .int .i64 6, .int .i64 1, .int .i64 9223372036854775807, .string ⟨#[]⟩, .bool false, .slice none 0 0] 31)).alloc (.cells #[.string ⟨#[97]⟩, .int .i64 4, .int .i64 1, .int .i64 (-9223372036854775808), .string ⟨#[]⟩, .bool false, .slice none 0 0] 31) = w3 at *
  generalize w2.heap.size + 1 = bu at *
  generalize w2.heap.size = bt at *
  clear mt_0 mt_1 mt_2 mt_3 mt_4 mt_5 mt_6
  have hof := Lib.hid (Of_lit (c := topC) (SetR.nil w3) topC_ok rfl topC_may)
  go_wp2_with fail
  refine (hof.out).mono ?_
  rintro e w4 ⟨gtop1, gtop2, gtop3, gtop4, gtop5, gtop6, rfl, hrtop, hx4⟩
  have hw := hw.trans hx4
  have Ht := Lib.hid (block_later Ht.out hx4)
  have Hu := Lib.hid (block_later Hu.out hx4)
  clear hx4
  have HRTOP := Lib.hid hrtop
  clear hrtop
  clear hof
  obtain ⟨hx5, hr1⟩ := boxes1 w4 (.cells #[.slice gtop1 (ofR topC).i.length gtop2, .slice gtop3 (ofR topC).s.length gtop4, .slice gtop5 (ofR topC).b.length gtop6, .bool (ofR topC).odd] 57)
  have hw := hw.trans hx5
  have Ht := Lib.hid (block_later Ht.out hx5)
  have Hu := Lib.hid (block_later Hu.out hx5)
  have HRTOP := Lib.hid (HRTOP.out.ext hx5)
  clear hx5
  have Hr1 := Lib.hid hr1
  clear hr1
  have mu_0 := cell_of_row _ _ 0 _ _ _ Hu.out
  have mu_1 := cell_of_row _ _ 1 _ _ _ Hu.out
  have mu_2 := cell_of_row _ _ 2 _ _ _ Hu.out
  have mu_3 := cell_of_row _ _ 3 _ _ _ Hu.out
  have mu_4 := cell_of_row _ _ 4 _ _ _ Hu.out
  have mu_5 := cell_of_row _ _ 5 _ _ _ Hu.out
  have mu_6 := cell_of_row _ _ 6 _ _ _ Hu.out
  go_wp2_with fail
  generalize w4.alloc (.cells #[.slice gtop1 (ofR topC).i.length gtop2, .slice gtop3 (ofR topC).s.length gtop4, .slice gtop5 (ofR topC).b.length gtop6, .bool (ofR topC).odd] 57) = w5 at *
  generalize w4.heap.size = br1 at *
  clear mu_0 mu_1 mu_2 mu_3 mu_4 mu_5 mu_6
  have hof := Lib.hid (Of_lit (c := botC) (SetR.nil w5) botC_ok rfl botC_may)
  go_wp2_with fail
  refine (hof.out).mono ?_
  rintro e w6 ⟨gbot1, gbot2, gbot3, gbot4, gbot5, gbot6, rfl, hrbot, hx6⟩
  have hw := hw.trans hx6
  have Ht := Lib.hid (block_later Ht.out hx6)
  have Hu := Lib.hid (block_later Hu.out hx6)
  have Hr1 := Lib.hid (block_later Hr1.out hx6)
  have HRTOP := Lib.hid (HRTOP.out.ext hx6)
  clear hx6
  have HRBOT := Lib.hid hrbot
  clear hrbot
  clear hof
  obtain ⟨hx7, hr2⟩ := boxes1 w6 (.cells #[.slice gbot1 (ofR botC).i.length gbot2, .slice gbot3 (ofR botC).s.length gbot4, .slice gbot5 (ofR botC).b.length gbot6, .bool (ofR botC).odd] 57)
  have hw := hw.trans hx7
  have Ht := Lib.hid (block_later Ht.out hx7)
  have Hu := Lib.hid (block_later Hu.out hx7)
  have Hr1 := Lib.hid (block_later Hr1.out hx7)
  have HRTOP := Lib.hid (HRTOP.out.ext hx7)
  have HRBOT := Lib.hid (HRBOT.out.ext hx7)
  clear hx7
  have Hr2 := Lib.hid hr2
  clear hr2
  go_wp2_with fail
  generalize w6.alloc (.cells #[.slice gbot1 (ofR botC).i.length gbot2, .slice gbot3 (ofR botC).s.length gbot4, .slice gbot5 (ofR botC).b.length gbot6, .bool (ofR botC).odd] 57) = w7 at *
  generalize w6.heap.size = br2 at *
  clear Hu
  have hof := Lib.hid (Of_lit (c := ltbC) (SetR.nil w7) ltbC_ok rfl ltbC_may)
  go_wp2_with fail
  refine (hof.out).mono ?_
  rintro e w8 ⟨gltb1, gltb2, gltb3, gltb4, gltb5, gltb6, rfl, hrltb, hx8⟩
  have hw := hw.trans hx8
  have Ht := Lib.hid (block_later Ht.out hx8)
  have Hr1 := Lib.hid (block_later Hr1.out hx8)
  have Hr2 := Lib.hid (block_later Hr2.out hx8)
  have HRTOP := Lib.hid (HRTOP.out.ext hx8)
  have HRBOT := Lib.hid (HRBOT.out.ext hx8)
  clear hx8
  have HRLTB := Lib.hid hrltb
  clear hrltb
  clear hof
  obtain ⟨hx9, hr3⟩ := boxes1 w8 (.cells #[.slice gltb1 (ofR ltbC).i.length gltb2, .slice gltb3 (ofR ltbC).s.length gltb4, .slice gltb5 (ofR ltbC).b.length gltb6, .bool (ofR ltbC).odd] 57)
  have hw := hw.trans hx9
  have Ht := Lib.hid (block_later Ht.out hx9)
  have Hr1 := Lib.hid (block_later Hr1.out hx9)
  have Hr2 := Lib.hid (block_later Hr2.out hx9)
  have HRTOP := Lib.hid (HRTOP.out.ext hx9)
  have HRBOT := Lib.hid (HRBOT.out.ext hx9)
  have HRLTB := Lib.hid (HRLTB.out.ext hx9)
  clear hx9
  have Hr3 := Lib.hid hr3
  clear hr3
  go_wp2_with fail
  generalize w8.alloc (.cells #[.slice gltb1 (ofR ltbC).i.length gltb2, .slice gltb3 (ofR ltbC).s.length gltb4, .slice gltb5 (ofR ltbC).b.length gltb6, .bool (ofR ltbC).odd] 57) = w9 at *
  generalize w8.heap.size = br3 at *
  go_wp2_with fail
  refine (str41_any w9 ⟨#[97]⟩ 4 ⟨#[]⟩).mono ?_
  rintro e w10 ⟨rfl, hx10⟩
  have hw := hw.trans hx10
  have Ht := Lib.hid (block_later Ht.out hx10)
  have Hr1 := Lib.hid (block_later Hr1.out hx10)
  have Hr2 := Lib.hid (block_later Hr2.out hx10)
  have Hr3 := Lib.hid (block_later Hr3.out hx10)
  have HRTOP := Lib.hid (HRTOP.out.ext hx10)
  have HRBOT := Lib.hid (HRBOT.out.ext hx10)
  have HRLTB := Lib.hid (HRLTB.out.ext hx10)
  clear hx10
  have hof := Lib.hid (Of_lit (c := ltsC) (SetR.nil w10) ltsC_ok rfl ltsC_may)
  go_wp2_with fail
  refine (hof.out).mono ?_
  rintro e w11 ⟨glts1, glts2, glts3, glts4, glts5, glts6, rfl, hrlts, hx11⟩
  have hw := hw.trans hx11
  have Ht := Lib.hid (block_later Ht.out hx11)
  have Hr1 := Lib.hid (block_later Hr1.out hx11)
  have Hr2 := Lib.hid (block_later Hr2.out hx11)
  have Hr3 := Lib.hid (block_later Hr3.out hx11)
  have HRTOP := Lib.hid (HRTOP.out.ext hx11)
  have HRBOT := Lib.hid (HRBOT.out.ext hx11)
  have HRLTB := Lib.hid (HRLTB.out.ext hx11)
  clear hx11
  have HRLTS := Lib.hid hrlts
  clear hrlts
  clear hof
  obtain ⟨hx12, hr4⟩ := boxes1 w11 (.cells #[.slice glts1 (ofR ltsC).i.length glts2, .slice glts3 (ofR ltsC).s.length glts4, .slice glts5 (ofR ltsC).b.length glts6, .bool (ofR ltsC).odd] 57)
  have hw := hw.trans hx12
  have Ht := Lib.hid (block_later Ht.out hx12)
  have Hr1 := Lib.hid (block_later Hr1.out hx12)
  have Hr2 := Lib.hid (block_later Hr2.out hx12)
  have Hr3 := Lib.hid (block_later Hr3.out hx12)
  have HRTOP := Lib.hid (HRTOP.out.ext hx12)
  have HRBOT := Lib.hid (HRBOT.out.ext hx12)
  have HRLTB := Lib.hid (HRLTB.out.ext hx12)
  have HRLTS := Lib.hid (HRLTS.out.ext hx12)
  clear hx12
  have Hr4 := Lib.hid hr4
  clear hr4
  go_wp2_with fail
  generalize w11.alloc (.cells #[.slice glts1 (ofR ltsC).i.length glts2, .slice glts3 (ofR ltsC).s.length glts4, .slice glts5 (ofR ltsC).b.length glts6, .bool (ofR ltsC).odd] 57) = w12 at *
  generalize w11.heap.size = br4 at *
  go_wp2_with fail
  refine (str41_any w12 ⟨#[97]⟩ 8 ⟨#[255, 255]⟩).mono ?_
  rintro e w13 ⟨rfl, hx13⟩
  have hw := hw.trans hx13
  have Ht := Lib.hid (block_later Ht.out hx13)
  have Hr1 := Lib.hid (block_later Hr1.out hx13)
  have Hr2 := Lib.hid (block_later Hr2.out hx13)
  have Hr3 := Lib.hid (block_later Hr3.out hx13)
  have Hr4 := Lib.hid (block_later Hr4.out hx13)
  have HRTOP := Lib.hid (HRTOP.out.ext hx13)
  have HRBOT := Lib.hid (HRBOT.out.ext hx13)
  have HRLTB := Lib.hid (HRLTB.out.ext hx13)
  have HRLTS := Lib.hid (HRLTS.out.ext hx13)
  clear hx13
  have hof := Lib.hid (Of_lit (c := preC) (SetR.nil w13) preC_ok rfl preC_may)
  go_wp2_with fail
  refine (hof.out).mono ?_
  rintro e w14 ⟨gpre1, gpre2, gpre3, gpre4, gpre5, gpre6, rfl, hrpre, hx14⟩
  have hw := hw.trans hx14
  have Ht := Lib.hid (block_later Ht.out hx14)
  have Hr1 := Lib.hid (block_later Hr1.out hx14)
  have Hr2 := Lib.hid (block_later Hr2.out hx14)
  have Hr3 := Lib.hid (block_later Hr3.out hx14)
  have Hr4 := Lib.hid (block_later Hr4.out hx14)
  have HRTOP := Lib.hid (HRTOP.out.ext hx14)
  have HRBOT := Lib.hid (HRBOT.out.ext hx14)
  have HRLTB := Lib.hid (HRLTB.out.ext hx14)
  have HRLTS := Lib.hid (HRLTS.out.ext hx14)
  clear hx14
  have HRPRE := Lib.hid hrpre
  clear hrpre
  clear hof
  obtain ⟨hx15, hr5⟩ := boxes1 w14 (.cells #[.slice gpre1 (ofR preC).i.length gpre2, .slice gpre3 (ofR preC).s.length gpre4, .slice gpre5 (ofR preC).b.length gpre6, .bool (ofR preC).odd] 57)
  have hw := hw.trans hx15
  have Ht := Lib.hid (block_later Ht.out hx15)
  have Hr1 := Lib.hid (block_later Hr1.out hx15)
  have Hr2 := Lib.hid (block_later Hr2.out hx15)
  have Hr3 := Lib.hid (block_later Hr3.out hx15)
  have Hr4 := Lib.hid (block_later Hr4.out hx15)
  have HRTOP := Lib.hid (HRTOP.out.ext hx15)
  have HRBOT := Lib.hid (HRBOT.out.ext hx15)
  have HRLTB := Lib.hid (HRLTB.out.ext hx15)
  have HRLTS := Lib.hid (HRLTS.out.ext hx15)
  have HRPRE := Lib.hid (HRPRE.out.ext hx15)
  clear hx15
  have Hr5 := Lib.hid hr5
  clear hr5
  go_wp2_with fail
  generalize w14.alloc (.cells #[.slice gpre1 (ofR preC).i.length gpre2, .slice gpre3 (ofR preC).s.length gpre4, .slice gpre5 (ofR preC).b.length gpre6, .bool (ofR preC).odd] 57) = w15 at *
  generalize w14.heap.size = br5 at *
  have hof := Lib.hid (Of_lit (c := nebC) (SetR.nil w15) nebC_ok rfl nebC_may)
  go_wp2_with fail
  refine (hof.out).mono ?_
  rintro e w16 ⟨gneb1, gneb2, gneb3, gneb4, gneb5, gneb6, rfl, hrneb, hx16⟩
  have hw := hw.trans hx16
  have Ht := Lib.hid (block_later Ht.out hx16)
  have Hr1 := Lib.hid (block_later Hr1.out hx16)
  have Hr2 := Lib.hid (block_later Hr2.out hx16)
  have Hr3 := Lib.hid (block_later Hr3.out hx16)
  have Hr4 := Lib.hid (block_later Hr4.out hx16)
  have Hr5 := Lib.hid (block_later Hr5.out hx16)
  have HRTOP := Lib.hid (HRTOP.out.ext hx16)
  have HRBOT := Lib.hid (HRBOT.out.ext hx16)
  have HRLTB := Lib.hid (HRLTB.out.ext hx16)
  have HRLTS := Lib.hid (HRLTS.out.ext hx16)
  have HRPRE := Lib.hid (HRPRE.out.ext hx16)
  clear hx16
  have HRNEB := Lib.hid hrneb
  clear hrneb
  clear hof
  obtain ⟨hx17, hr6⟩ := boxes1 w16 (.cells #[.slice gneb1 (ofR nebC).i.length gneb2, .slice gneb3 (ofR nebC).s.length gneb4, .slice gneb5 (ofR nebC).b.length gneb6, .bool (ofR nebC).odd] 57)
  have hw := hw.trans hx17
  have Ht := Lib.hid (block_later Ht.out hx17)
  have Hr1 := Lib.hid (block_later Hr1.out hx17)
  have Hr2 := Lib.hid (block_later Hr2.out hx17)
  have Hr3 := Lib.hid (block_later Hr3.out hx17)
  have Hr4 := Lib.hid (block_later Hr4.out hx17)
  have Hr5 := Lib.hid (block_later Hr5.out hx17)
  have HRTOP := Lib.hid (HRTOP.out.ext hx17)
  have HRBOT := Lib.hid (HRBOT.out.ext hx17)
  have HRLTB := Lib.hid (HRLTB.out.ext hx17)
  have HRLTS := Lib.hid (HRLTS.out.ext hx17)
  have HRPRE := Lib.hid (HRPRE.out.ext hx17)
  have HRNEB := Lib.hid (HRNEB.out.ext hx17)
  clear hx17
  have Hr6 := Lib.hid hr6
  clear hr6
  go_wp2_with fail
  generalize w16.alloc (.cells #[.slice gneb1 (ofR nebC).i.length gneb2, .slice gneb3 (ofR nebC).s.length gneb4, .slice gneb5 (ofR nebC).b.length gneb6, .bool (ofR nebC).odd] 57) = w17 at *
  generalize w16.heap.size = br6 at *
  go_wp2_with fail
  refine (con39_any w17 ⟨#[97]⟩ 7 (-9223372036854775808)).mono ?_
  rintro e w18 ⟨rfl, hx18⟩
  have hw := hw.trans hx18
  have Ht := Lib.hid (block_later Ht.out hx18)
  have Hr1 := Lib.hid (block_later Hr1.out hx18)
  have Hr2 := Lib.hid (block_later Hr2.out hx18)
  have Hr3 := Lib.hid (block_later Hr3.out hx18)
  have Hr4 := Lib.hid (block_later Hr4.out hx18)
  have Hr5 := Lib.hid (block_later Hr5.out hx18)
  have Hr6 := Lib.hid (block_later Hr6.out hx18)
  have HRTOP := Lib.hid (HRTOP.out.ext hx18)
  have HRBOT := Lib.hid (HRBOT.out.ext hx18)
  have HRLTB := Lib.hid (HRLTB.out.ext hx18)
  have HRLTS := Lib.hid (HRLTS.out.ext hx18)
  have HRPRE := Lib.hid (HRPRE.out.ext hx18)
  have HRNEB := Lib.hid (HRNEB.out.ext hx18)
  clear hx18
  have hof := Lib.hid (Of_lit (c := gemC) (SetR.nil w18) gemC_ok rfl gemC_may)
  go_wp2_with fail
  refine (hof.out).mono ?_
  rintro e w19 ⟨ggem1, ggem2, ggem3, ggem4, ggem5, ggem6, rfl, hrgem, hx19⟩
  have hw := hw.trans hx19
  have Ht := Lib.hid (block_later Ht.out hx19)
  have Hr1 := Lib.hid (block_later Hr1.out hx19)
  have Hr2 := Lib.hid (block_later Hr2.out hx19)
  have Hr3 := Lib.hid (block_later Hr3.out hx19)
  have Hr4 := Lib.hid (block_later Hr4.out hx19)
  have Hr5 := Lib.hid (block_later Hr5.out hx19)
  have Hr6 := Lib.hid (block_later Hr6.out hx19)
  have HRTOP := Lib.hid (HRTOP.out.ext hx19)
  have HRBOT := Lib.hid (HRBOT.out.ext hx19)
  have HRLTB := Lib.hid (HRLTB.out.ext hx19)
  have HRLTS := Lib.hid (HRLTS.out.ext hx19)
  have HRPRE := Lib.hid (HRPRE.out.ext hx19)
  have HRNEB := Lib.hid (HRNEB.out.ext hx19)
  clear hx19
  have HRGEM := Lib.hid hrgem
  clear hrgem
  clear hof
  obtain ⟨hx20, hr7⟩ := boxes1 w19 (.cells #[.slice ggem1 (ofR gemC).i.length ggem2, .slice ggem3 (ofR gemC).s.length ggem4, .slice ggem5 (ofR gemC).b.length ggem6, .bool (ofR gemC).odd] 57)
  have hw := hw.trans hx20
  have Ht := Lib.hid (block_later Ht.out hx20)
  have Hr1 := Lib.hid (block_later Hr1.out hx20)
  have Hr2 := Lib.hid (block_later Hr2.out hx20)
  have Hr3 := Lib.hid (block_later Hr3.out hx20)
  have Hr4 := Lib.hid (block_later Hr4.out hx20)
  have Hr5 := Lib.hid (block_later Hr5.out hx20)
  have Hr6 := Lib.hid (block_later Hr6.out hx20)
  have HRTOP := Lib.hid (HRTOP.out.ext hx20)
  have HRBOT := Lib.hid (HRBOT.out.ext hx20)
  have HRLTB := Lib.hid (HRLTB.out.ext hx20)
  have HRLTS := Lib.hid (HRLTS.out.ext hx20)
  have HRPRE := Lib.hid (HRPRE.out.ext hx20)
  have HRNEB := Lib.hid (HRNEB.out.ext hx20)
  have HRGEM := Lib.hid (HRGEM.out.ext hx20)
  clear hx20
  have Hr7 := Lib.hid hr7
  clear hr7
  have mr1_0 := cell_of_row _ _ 0 _ _ _ Hr1.out
  have mr1_1 := cell_of_row _ _ 1 _ _ _ Hr1.out
  have mr1_2 := cell_of_row _ _ 2 _ _ _ Hr1.out
  have mr1_3 := cell_of_row _ _ 3 _ _ _ Hr1.out
  go_wp2_with fail
  generalize w19.alloc (.cells #[.slice ggem1 (ofR gemC).i.length ggem2, .slice ggem3 (ofR gemC).s.length ggem4, .slice ggem5 (ofR gemC).b.length ggem6, .bool (ofR gemC).odd] 57) = w20 at *
  generalize w19.heap.size = br7 at *
  clear mr1_0 mr1_1 mr1_2 mr1_3
  have hem := Lib.hid (empty_lit HRTOP.out topC_empty)
  go_wp2_with fail
  refine (hem.out).mono ?_
  rintro e w21 ⟨rfl, hx21⟩
  have hw := hw.trans hx21
  have Ht := Lib.hid (block_later Ht.out hx21)
  have Hr1 := Lib.hid (block_later Hr1.out hx21)
  have Hr2 := Lib.hid (block_later Hr2.out hx21)
  have Hr3 := Lib.hid (block_later Hr3.out hx21)
  have Hr4 := Lib.hid (block_later Hr4.out hx21)
  have Hr5 := Lib.hid (block_later Hr5.out hx21)
  have Hr6 := Lib.hid (block_later Hr6.out hx21)
  have Hr7 := Lib.hid (block_later Hr7.out hx21)
  have HRTOP := Lib.hid (HRTOP.out.ext hx21)
  have HRBOT := Lib.hid (HRBOT.out.ext hx21)
  have HRLTB := Lib.hid (HRLTB.out.ext hx21)
  have HRLTS := Lib.hid (HRLTS.out.ext hx21)
  have HRPRE := Lib.hid (HRPRE.out.ext hx21)
  have HRNEB := Lib.hid (HRNEB.out.ext hx21)
  have HRGEM := Lib.hid (HRGEM.out.ext hx21)
  clear hx21
  clear hem
  clear HRTOP
  have mr2_0 := cell_of_row _ _ 0 _ _ _ Hr2.out
  have mr2_1 := cell_of_row _ _ 1 _ _ _ Hr2.out
  have mr2_2 := cell_of_row _ _ 2 _ _ _ Hr2.out
  have mr2_3 := cell_of_row _ _ 3 _ _ _ Hr2.out
  go_wp2_with fail
  clear mr2_0 mr2_1 mr2_2 mr2_3
  have hem := Lib.hid (empty_lit HRBOT.out botC_empty)
  go_wp2_with fail
  refine (hem.out).mono ?_
  rintro e w22 ⟨rfl, hx22⟩
  have hw := hw.trans hx22
  have Ht := Lib.hid (block_later Ht.out hx22)
  have Hr1 := Lib.hid (block_later Hr1.out hx22)
  have Hr2 := Lib.hid (block_later Hr2.out hx22)
  have Hr3 := Lib.hid (block_later Hr3.out hx22)
  have Hr4 := Lib.hid (block_later Hr4.out hx22)
  have Hr5 := Lib.hid (block_later Hr5.out hx22)
  have Hr6 := Lib.hid (block_later Hr6.out hx22)
  have Hr7 := Lib.hid (block_later Hr7.out hx22)
  have HRBOT := Lib.hid (HRBOT.out.ext hx22)
  have HRLTB := Lib.hid (HRLTB.out.ext hx22)
  have HRLTS := Lib.hid (HRLTS.out.ext hx22)
  have HRPRE := Lib.hid (HRPRE.out.ext hx22)
  have HRNEB := Lib.hid (HRNEB.out.ext hx22)
  have HRGEM := Lib.hid (HRGEM.out.ext hx22)
  clear hx22
  clear hem
  clear HRBOT
  have mr3_0 := cell_of_row _ _ 0 _ _ _ Hr3.out
  have mr3_1 := cell_of_row _ _ 1 _ _ _ Hr3.out
  have mr3_2 := cell_of_row _ _ 2 _ _ _ Hr3.out
  have mr3_3 := cell_of_row _ _ 3 _ _ _ Hr3.out
  go_wp2_with fail
  clear mr3_0 mr3_1 mr3_2 mr3_3
  have hem := Lib.hid (empty_lit HRLTB.out ltbC_empty)
  go_wp2_with fail
  refine (hem.out).mono ?_
  rintro e w23 ⟨rfl, hx23⟩
  have hw := hw.trans hx23
  have Ht := Lib.hid (block_later Ht.out hx23)
  have Hr1 := Lib.hid (block_later Hr1.out hx23)
  have Hr2 := Lib.hid (block_later Hr2.out hx23)
  have Hr3 := Lib.hid (block_later Hr3.out hx23)
  have Hr4 := Lib.hid (block_later Hr4.out hx23)
  have Hr5 := Lib.hid (block_later Hr5.out hx23)
  have Hr6 := Lib.hid (block_later Hr6.out hx23)
  have Hr7 := Lib.hid (block_later Hr7.out hx23)
  have HRLTB := Lib.hid (HRLTB.out.ext hx23)
  have HRLTS := Lib.hid (HRLTS.out.ext hx23)
  have HRPRE := Lib.hid (HRPRE.out.ext hx23)
  have HRNEB := Lib.hid (HRNEB.out.ext hx23)
  have HRGEM := Lib.hid (HRGEM.out.ext hx23)
  clear hx23
  clear hem
  clear HRLTB
  have mr4_0 := cell_of_row _ _ 0 _ _ _ Hr4.out
  have mr4_1 := cell_of_row _ _ 1 _ _ _ Hr4.out
  have mr4_2 := cell_of_row _ _ 2 _ _ _ Hr4.out
  have mr4_3 := cell_of_row _ _ 3 _ _ _ Hr4.out
  go_wp2_with fail
  clear mr4_0 mr4_1 mr4_2 mr4_3
  have hem := Lib.hid (empty_lit HRLTS.out ltsC_empty)
  go_wp2_with fail
  refine (hem.out).mono ?_
  rintro e w24 ⟨rfl, hx24⟩
  have hw := hw.trans hx24
  have Ht := Lib.hid (block_later Ht.out hx24)
  have Hr1 := Lib.hid (block_later Hr1.out hx24)
  have Hr2 := Lib.hid (block_later Hr2.out hx24)
  have Hr3 := Lib.hid (block_later Hr3.out hx24)
  have Hr4 := Lib.hid (block_later Hr4.out hx24)
  have Hr5 := Lib.hid (block_later Hr5.out hx24)
  have Hr6 := Lib.hid (block_later Hr6.out hx24)
  have Hr7 := Lib.hid (block_later Hr7.out hx24)
  have HRLTS := Lib.hid (HRLTS.out.ext hx24)
  have HRPRE := Lib.hid (HRPRE.out.ext hx24)
  have HRNEB := Lib.hid (HRNEB.out.ext hx24)
  have HRGEM := Lib.hid (HRGEM.out.ext hx24)
  clear hx24
  clear hem
  clear HRLTS
  have mr6_0 := cell_of_row _ _ 0 _ _ _ Hr6.out
  have mr6_1 := cell_of_row _ _ 1 _ _ _ Hr6.out
  have mr6_2 := cell_of_row _ _ 2 _ _ _ Hr6.out
  have mr6_3 := cell_of_row _ _ 3 _ _ _ Hr6.out
  go_wp2_with fail
  clear mr6_0 mr6_1 mr6_2 mr6_3
  clear Hr1
  clear Hr2
  clear Hr3
  clear Hr4
  have hsm := Lib.hid (some_lit HRNEB.out (good_of nebC) neb_some)
  refine (hsm.out).mono ?_
  rintro e w25 ⟨rfl, hx25⟩
  have hw := hw.trans hx25
  have Ht := Lib.hid (block_later Ht.out hx25)
  have Hr5 := Lib.hid (block_later Hr5.out hx25)
  have Hr6 := Lib.hid (block_later Hr6.out hx25)
  have Hr7 := Lib.hid (block_later Hr7.out hx25)
  have HRPRE := Lib.hid (HRPRE.out.ext hx25)
  have HRNEB := Lib.hid (HRNEB.out.ext hx25)
  have HRGEM := Lib.hid (HRGEM.out.ext hx25)
  clear hx25
  clear hsm
  clear HRNEB
  clear Hr6
  obtain ⟨hx26, hv⟩ := boxes1 w25 (.cells #[.int .i64 3, .int .i64 0, .string (strOf []), .bool true] 28)
  have hw := hw.trans hx26
  have Ht := Lib.hid (block_later Ht.out hx26)
  have Hr5 := Lib.hid (block_later Hr5.out hx26)
  have Hr7 := Lib.hid (block_later Hr7.out hx26)
  have HRPRE := Lib.hid (HRPRE.out.ext hx26)
  have HRGEM := Lib.hid (HRGEM.out.ext hx26)
  clear hx26
  have Hv := Lib.hid hv
  clear hv
  have mr7_0 := cell_of_row _ _ 0 _ _ _ Hr7.out
  have mr7_1 := cell_of_row _ _ 1 _ _ _ Hr7.out
  have mr7_2 := cell_of_row _ _ 2 _ _ _ Hr7.out
  have mr7_3 := cell_of_row _ _ 3 _ _ _ Hr7.out
  go_wp2_with fail
  generalize w25.alloc (.cells #[.int .i64 3, .int .i64 0, .string (strOf []), .bool true] 28) = w26 at *
  generalize w25.heap.size = bv at *
  clear mr7_0 mr7_1 mr7_2 mr7_3
  have hsm := Lib.hid (some_lit HRGEM.out (good_of gemC) gem_some)
  refine (hsm.out).mono ?_
  rintro e w27 ⟨rfl, hx27⟩
  have hw := hw.trans hx27
  have Ht := Lib.hid (block_later Ht.out hx27)
  have Hr5 := Lib.hid (block_later Hr5.out hx27)
  have Hr7 := Lib.hid (block_later Hr7.out hx27)
  have Hv := Lib.hid (block_later Hv.out hx27)
  have HRPRE := Lib.hid (HRPRE.out.ext hx27)
  have HRGEM := Lib.hid (HRGEM.out.ext hx27)
  clear hx27
  clear hsm
  clear HRGEM
  clear Hr7
  obtain ⟨hx28, hx⟩ := boxes1 w27 (.cells #[.int .i64 1, .int .i64 (-9223372036854775808), .string (strOf []), .bool false] 28)
  have hw := hw.trans hx28
  have Ht := Lib.hid (block_later Ht.out hx28)
  have Hr5 := Lib.hid (block_later Hr5.out hx28)
  have Hv := Lib.hid (block_later Hv.out hx28)
  have HRPRE := Lib.hid (HRPRE.out.ext hx28)
  clear hx28
  have Hx := Lib.hid hx
  clear hx
  go_wp2_with fail
  generalize w27.alloc (.cells #[.int .i64 1, .int .i64 (-9223372036854775808), .string (strOf []), .bool false] 28) = w28 at *
  generalize w27.heap.size = bx at *
  refine (all_lit w28).mono ?_
  rintro e w29 ⟨ga1, ga2, ga3, ga4, ga5, ga6, rfl, hall, hx29⟩
  have hw := hw.trans hx29
  have Ht := Lib.hid (block_later Ht.out hx29)
  have Hr5 := Lib.hid (block_later Hr5.out hx29)
  have Hv := Lib.hid (block_later Hv.out hx29)
  have Hx := Lib.hid (block_later Hx.out hx29)
  have HRPRE := Lib.hid (HRPRE.out.ext hx29)
  clear hx29
  have HALL := Lib.hid hall
  clear hall
  have hsm := Lib.hid (some_lit HALL.out good_all all_some)
  go_wp2_with fail
  refine (hsm.out).mono ?_
  rintro e w30 ⟨rfl, hx30⟩
  have hw := hw.trans hx30
  have Ht := Lib.hid (block_later Ht.out hx30)
  have Hr5 := Lib.hid (block_later Hr5.out hx30)
  have Hv := Lib.hid (block_later Hv.out hx30)
  have Hx := Lib.hid (block_later Hx.out hx30)
  have HRPRE := Lib.hid (HRPRE.out.ext hx30)
  have HALL := Lib.hid (HALL.out.ext hx30)
  clear hx30
  clear hsm
  clear HALL
  obtain ⟨hx31, hvy⟩ := boxes1 w30 (.cells #[.int .i64 1, .int .i64 (-9223372036854775808), .string (strOf []), .bool false] 28)
  have hw := hw.trans hx31
  have Ht := Lib.hid (block_later Ht.out hx31)
  have Hr5 := Lib.hid (block_later Hr5.out hx31)
  have Hv := Lib.hid (block_later Hv.out hx31)
  have Hx := Lib.hid (block_later Hx.out hx31)
  have HRPRE := Lib.hid (HRPRE.out.ext hx31)
  clear hx31
  have Hvy := Lib.hid hvy
  clear hvy
  go_wp2_with fail
  generalize w30.alloc (.cells #[.int .i64 1, .int .i64 (-9223372036854775808), .string (strOf []), .bool false] 28) = w31 at *
  generalize w30.heap.size = bvy at *
  have hof := Lib.hid (Of_lit_no (c := badC) (SetR.nil w31) badC_ok badC_may)
  refine (hof.out).mono ?_
  rintro e w32 ⟨gb1, gb2, gb3, gb4, gb5, gb6, rfl, hx32⟩
  have hw := hw.trans hx32
  have Ht := Lib.hid (block_later Ht.out hx32)
  have Hr5 := Lib.hid (block_later Hr5.out hx32)
  have Hv := Lib.hid (block_later Hv.out hx32)
  have Hx := Lib.hid (block_later Hx.out hx32)
  have Hvy := Lib.hid (block_later Hvy.out hx32)
  have HRPRE := Lib.hid (HRPRE.out.ext hx32)
  clear hx32
  clear hof
  obtain ⟨hx33, hr8⟩ := boxes1 w32 (.cells #[.slice gb1 0 gb2, .slice gb3 0 gb4, .slice gb5 0 gb6, .bool false] 57)
  have hw := hw.trans hx33
  have Ht := Lib.hid (block_later Ht.out hx33)
  have Hr5 := Lib.hid (block_later Hr5.out hx33)
  have Hv := Lib.hid (block_later Hv.out hx33)
  have Hx := Lib.hid (block_later Hx.out hx33)
  have Hvy := Lib.hid (block_later Hvy.out hx33)
  have HRPRE := Lib.hid (HRPRE.out.ext hx33)
  clear hx33
  have Hr8 := Lib.hid hr8
  clear hr8
  go_wp2_with fail
  generalize w32.alloc (.cells #[.slice gb1 0 gb2, .slice gb3 0 gb4, .slice gb5 0 gb6, .bool false] 57) = w33 at *
  generalize w32.heap.size = br8 at *
  clear Hr8
  refine (str41_any w33 ⟨#[97]⟩ 6 ⟨#[120]⟩).mono ?_
  rintro e w34 ⟨rfl, hx34⟩
  have hw := hw.trans hx34
  have Ht := Lib.hid (block_later Ht.out hx34)
  have Hr5 := Lib.hid (block_later Hr5.out hx34)
  have Hv := Lib.hid (block_later Hv.out hx34)
  have Hx := Lib.hid (block_later Hx.out hx34)
  have Hvy := Lib.hid (block_later Hvy.out hx34)
  have HRPRE := Lib.hid (HRPRE.out.ext hx34)
  clear hx34
  go_wp2_with fail
  refine (str41_any w34 ⟨#[97]⟩ 4 ⟨#[120, 0]⟩).mono ?_
  rintro e w35 ⟨rfl, hx35⟩
  have hw := hw.trans hx35
  have Ht := Lib.hid (block_later Ht.out hx35)
  have Hr5 := Lib.hid (block_later Hr5.out hx35)
  have Hv := Lib.hid (block_later Hv.out hx35)
  have Hx := Lib.hid (block_later Hx.out hx35)
  have Hvy := Lib.hid (block_later Hvy.out hx35)
  have HRPRE := Lib.hid (HRPRE.out.ext hx35)
  clear hx35
  obtain ⟨hx36, hgap⟩ := boxes1 w35 (.cells #[.string ⟨#[97]⟩, .int .i64 6, .int .i64 2, .int .i64 0, .string ⟨#[120]⟩, .bool false, .slice none 0 0, .string ⟨#[97]⟩, .int .i64 4, .int .i64 2, .int .i64 0, .string ⟨#[120, 0]⟩, .bool false, .slice none 0 0] 31)
  have hw := hw.trans hx36
  have Ht := Lib.hid (block_later Ht.out hx36)
  have Hr5 := Lib.hid (block_later Hr5.out hx36)
  have Hv := Lib.hid (block_later Hv.out hx36)
  have Hx := Lib.hid (block_later Hx.out hx36)
  have Hvy := Lib.hid (block_later Hvy.out hx36)
  have HRPRE := Lib.hid (HRPRE.out.ext hx36)
  clear hx36
  have Hgap := Lib.hid hgap
  clear hgap
  go_wp2_with fail
  generalize w35.alloc (.cells #[.string ⟨#[97]⟩, .int .i64 6, .int .i64 2, .int .i64 0, .string ⟨#[120]⟩, .bool false, .slice none 0 0, .string ⟨#[97]⟩, .int .i64 4, .int .i64 2, .int .i64 0, .string ⟨#[120, 0]⟩, .bool false, .slice none 0 0] 31) = w36 at *
  generalize w35.heap.size = bgap at *
  refine (truth42_any w36 false).mono ?_
  rintro e w37 ⟨rfl, hx37⟩
  have hw := hw.trans hx37
  have Ht := Lib.hid (block_later Ht.out hx37)
  have Hr5 := Lib.hid (block_later Hr5.out hx37)
  have Hv := Lib.hid (block_later Hv.out hx37)
  have Hx := Lib.hid (block_later Hx.out hx37)
  have Hvy := Lib.hid (block_later Hvy.out hx37)
  have Hgap := Lib.hid (block_later Hgap.out hx37)
  have HRPRE := Lib.hid (HRPRE.out.ext hx37)
  clear hx37
  go_wp2_with fail
  refine (truth42_any w37 true).mono ?_
  rintro e w38 ⟨rfl, hx38⟩
  have hw := hw.trans hx38
  have Ht := Lib.hid (block_later Ht.out hx38)
  have Hr5 := Lib.hid (block_later Hr5.out hx38)
  have Hv := Lib.hid (block_later Hv.out hx38)
  have Hx := Lib.hid (block_later Hx.out hx38)
  have Hvy := Lib.hid (block_later Hvy.out hx38)
  have Hgap := Lib.hid (block_later Hgap.out hx38)
  have HRPRE := Lib.hid (HRPRE.out.ext hx38)
  clear hx38
  obtain ⟨hx39, hset, hbools⟩ := boxes2 w38 (.cells #[.int .i64 3, .int .i64 0, .string ⟨#[]⟩, .bool false, .int .i64 3, .int .i64 0, .string ⟨#[]⟩, .bool true] 28) (.cells #[.string ⟨#[97]⟩, .int .i64 9, .int .i64 0, .int .i64 0, .string ⟨#[]⟩, .bool false, .slice (some ⟨w38.heap.size, 0, none⟩) 2 2] 31)
  have hw := hw.trans hx39
  have Ht := Lib.hid (block_later Ht.out hx39)
  have Hr5 := Lib.hid (block_later Hr5.out hx39)
  have Hv := Lib.hid (block_later Hv.out hx39)
  have Hx := Lib.hid (block_later Hx.out hx39)
  have Hvy := Lib.hid (block_later Hvy.out hx39)
  have Hgap := Lib.hid (block_later Hgap.out hx39)
  have HRPRE := Lib.hid (HRPRE.out.ext hx39)
  clear hx39
  have Hset := Lib.hid hset
  clear hset
  have Hbools := Lib.hid hbools
  clear hbools
  go_wp2_with fail
  generalize (w38.alloc (.cells #[.int .i64 3, .int .i64 0, .string ⟨#[]⟩, .bool false, .int .i64 3, .int .i64 0, .string ⟨#[]⟩, .bool true] 28)).alloc (.cells #[.string ⟨#[97]⟩, .int .i64 9, .int .i64 0, .int .i64 0, .string ⟨#[]⟩, .bool false, .slice (some ⟨w38.heap.size, 0, none⟩) 2 2] 31) = w39 at *
  generalize w38.heap.size + 1 = bbools at *
  generalize w38.heap.size = bset at *
  have hp1 : PredR w39 (.slice none 0 0) nilP2 := PredR.nil _
  have hp2 : PredR w39 (.slice (some ⟨bgap, 0, none⟩) 2 2) gapP := pred0 gapP Hgap.out (by kernel_rfl) (by decide)
  have hcv := Lib.hid (counter_lit (n := 0) hp1 hp2 nilP2_ok gapP_ok ctr3 rfl)
  clear hp1 hp2
  refine (hcv.out).mono ?_
  rintro e w40 ⟨afa, cfa, rfl, _, hx40⟩
  have hw := hw.trans hx40
  have Ht := Lib.hid (block_later Ht.out hx40)
  have Hr5 := Lib.hid (block_later Hr5.out hx40)
  have Hv := Lib.hid (block_later Hv.out hx40)
  have Hx := Lib.hid (block_later Hx.out hx40)
  have Hvy := Lib.hid (block_later Hvy.out hx40)
  have Hgap := Lib.hid (block_later Hgap.out hx40)
  have Hset := Lib.hid (block_later Hset.out hx40)
  have Hbools := Lib.hid (block_later Hbools.out hx40)
  have HRPRE := Lib.hid (HRPRE.out.ext hx40)
  clear hx40
  clear hcv
  obtain ⟨hx41, he⟩ := boxes1 w40 (.cells #[.string ⟨#[]⟩, .slice afa 0 cfa] 26)
  have hw := hw.trans hx41
  have Ht := Lib.hid (block_later Ht.out hx41)
  have Hr5 := Lib.hid (block_later Hr5.out hx41)
  have Hv := Lib.hid (block_later Hv.out hx41)
  have Hx := Lib.hid (block_later Hx.out hx41)
  have Hvy := Lib.hid (block_later Hvy.out hx41)
  have Hgap := Lib.hid (block_later Hgap.out hx41)
  have Hset := Lib.hid (block_later Hset.out hx41)
  have Hbools := Lib.hid (block_later Hbools.out hx41)
  have HRPRE := Lib.hid (HRPRE.out.ext hx41)
  clear hx41
  have He := Lib.hid he
  clear he
  have mr5_0 := cell_of_row _ _ 0 _ _ _ Hr5.out
  have mr5_1 := cell_of_row _ _ 1 _ _ _ Hr5.out
  have mr5_2 := cell_of_row _ _ 2 _ _ _ Hr5.out
  have mr5_3 := cell_of_row _ _ 3 _ _ _ Hr5.out
  go_wp2_with fail
  generalize w40.alloc (.cells #[.string ⟨#[]⟩, .slice afa 0 cfa] 26) = w41 at *
  generalize w40.heap.size = be at *
  clear mr5_0 mr5_1 mr5_2 mr5_3
  clear He
  have hh := Lib.hid (has_lit ⟨2, 0, [255, 255, 122], false⟩ HRPRE.out ⟨by decide, by decide⟩ (by decide) pre_has)
  refine (hh.out).mono ?_
  rintro e w42 ⟨rfl, hx42⟩
  have hw := hw.trans hx42
  have Ht := Lib.hid (block_later Ht.out hx42)
  have Hr5 := Lib.hid (block_later Hr5.out hx42)
  have Hv := Lib.hid (block_later Hv.out hx42)
  have Hx := Lib.hid (block_later Hx.out hx42)
  have Hvy := Lib.hid (block_later Hvy.out hx42)
  have Hgap := Lib.hid (block_later Hgap.out hx42)
  have Hset := Lib.hid (block_later Hset.out hx42)
  have Hbools := Lib.hid (block_later Hbools.out hx42)
  have HRPRE := Lib.hid (HRPRE.out.ext hx42)
  clear hx42
  clear hh
  have mr5_0 := cell_of_row _ _ 0 _ _ _ Hr5.out
  have mr5_1 := cell_of_row _ _ 1 _ _ _ Hr5.out
  have mr5_2 := cell_of_row _ _ 2 _ _ _ Hr5.out
  have mr5_3 := cell_of_row _ _ 3 _ _ _ Hr5.out
  go_wp2_with fail
  clear mr5_0 mr5_1 mr5_2 mr5_3
  have hh := Lib.hid (has_lit ⟨2, 0, [255], false⟩ HRPRE.out ⟨by decide, by decide⟩ (by decide) pre_hasnt)
  have mv_3 := cell_of_row _ _ 3 _ _ _ Hv.out
  have mx_1 := cell_of_row _ _ 1 _ _ _ Hx.out
  have mvy_0 := cell_of_row _ _ 0 _ _ _ Hvy.out
  have mt_0 := cell_of_row _ _ 0 _ _ _ Ht.out
  have mt_1 := cell_of_row _ _ 1 _ _ _ Ht.out
  have mt_2 := cell_of_row _ _ 2 _ _ _ Ht.out
  have mt_3 := cell_of_row _ _ 3 _ _ _ Ht.out
  have mt_4 := cell_of_row _ _ 4 _ _ _ Ht.out
  have mt_5 := cell_of_row _ _ 5 _ _ _ Ht.out
  have mt_6 := cell_of_row _ _ 6 _ _ _ Ht.out
  refine (hh.out).mono ?_
  rintro e w43 ⟨rfl, hx43⟩
  have hw := hw.trans hx43
  have Ht := Lib.hid (block_later Ht.out hx43)
  have Hr5 := Lib.hid (block_later Hr5.out hx43)
  have Hv := Lib.hid (block_later Hv.out hx43)
  have Hx := Lib.hid (block_later Hx.out hx43)
  have Hvy := Lib.hid (block_later Hvy.out hx43)
  have Hgap := Lib.hid (block_later Hgap.out hx43)
  have Hset := Lib.hid (block_later Hset.out hx43)
  have Hbools := Lib.hid (block_later Hbools.out hx43)
  have HRPRE := Lib.hid (HRPRE.out.ext hx43)
  clear hx43
  clear hh
  clear HRPRE
  clear Hr5
  clear mv_3 mx_1 mvy_0
  clear mt_0 mt_1 mt_2 mt_3 mt_4 mt_5 mt_6
  have mv_3 := cell_of_row _ _ 3 _ _ _ Hv.out
  have mx_1 := cell_of_row _ _ 1 _ _ _ Hx.out
  have mvy_0 := cell_of_row _ _ 0 _ _ _ Hvy.out
  have mt_0 := cell_of_row _ _ 0 _ _ _ Ht.out
  have mt_1 := cell_of_row _ _ 1 _ _ _ Ht.out
  have mt_2 := cell_of_row _ _ 2 _ _ _ Ht.out
  have mt_3 := cell_of_row _ _ 3 _ _ _ Ht.out
  have mt_4 := cell_of_row _ _ 4 _ _ _ Ht.out
  have mt_5 := cell_of_row _ _ 5 _ _ _ Ht.out
  have mt_6 := cell_of_row _ _ 6 _ _ _ Ht.out
  obtain ⟨hx44, htp⟩ := boxes1 w43 (.cells #[.string ⟨#[97]⟩, .int .i64 6, .int .i64 1, .int .i64 9223372036854775807, .string ⟨#[]⟩, .bool false, .slice none 0 0] 31)
  have hw := hw.trans hx44
  have Ht := Lib.hid (block_later Ht.out hx44)
  have Hv := Lib.hid (block_later Hv.out hx44)
  have Hx := Lib.hid (block_later Hx.out hx44)
  have Hvy := Lib.hid (block_later Hvy.out hx44)
  have Hgap := Lib.hid (block_later Hgap.out hx44)
  have Hset := Lib.hid (block_later Hset.out hx44)
  have Hbools := Lib.hid (block_later Hbools.out hx44)
  clear hx44
  have Htp := Lib.hid htp
  clear htp
  go_wp2_with fail
  generalize w43.alloc (.cells #[.string ⟨#[97]⟩, .int .i64 6, .int .i64 1, .int .i64 9223372036854775807, .string ⟨#[]⟩, .bool false, .slice none 0 0] 31) = w44 at *
  generalize w43.heap.size = btp at *
  clear mv_3 mx_1 mvy_0
  clear mt_0 mt_1 mt_2 mt_3 mt_4 mt_5 mt_6
  clear Hv
  clear Hx
  clear Hvy
  clear Ht
  have hp1 : PredR w44 (.slice (some ⟨btp, 0, none⟩) 1 1) topP := pred0 topP Htp.out (by kernel_rfl) (by decide)
  have hp2 : PredR w44 (.slice (some ⟨bgap, 0, none⟩) 2 2) gapP := pred0 gapP Hgap.out (by kernel_rfl) (by decide)
  have hcv := Lib.hid (covers_lit hp1 hp2 topP_ok gapP_ok cv_topP_gapP)
  clear hp1 hp2
  refine (hcv.out).mono ?_
  rintro e w45 ⟨rfl, hx45⟩
  have hw := hw.trans hx45
  have Hgap := Lib.hid (block_later Hgap.out hx45)
  have Hset := Lib.hid (block_later Hset.out hx45)
  have Hbools := Lib.hid (block_later Hbools.out hx45)
  have Htp := Lib.hid (block_later Htp.out hx45)
  clear hx45
  clear hcv
  obtain ⟨hx46, hha⟩ := boxes1 w45 (.cells #[.string ⟨#[97]⟩, .int .i64 1, .int .i64 0, .int .i64 0, .string ⟨#[]⟩, .bool false, .slice none 0 0] 31)
  have hw := hw.trans hx46
  have Hgap := Lib.hid (block_later Hgap.out hx46)
  have Hset := Lib.hid (block_later Hset.out hx46)
  have Hbools := Lib.hid (block_later Hbools.out hx46)
  have Htp := Lib.hid (block_later Htp.out hx46)
  clear hx46
  have Hha := Lib.hid hha
  clear hha
  go_wp2_with fail
  generalize w45.alloc (.cells #[.string ⟨#[97]⟩, .int .i64 1, .int .i64 0, .int .i64 0, .string ⟨#[]⟩, .bool false, .slice none 0 0] 31) = w46 at *
  generalize w45.heap.size = bha at *
  have hp1 : PredR w46 (.slice (some ⟨bbools, 0, none⟩) 1 1) boolsP := pred_at [⟨⟨[97], 9, ⟨0, 0, [], false⟩, [⟨3, 0, [], false⟩, ⟨3, 0, [], true⟩]⟩, .slice (some ⟨bset, 0, none⟩) 2 2⟩] Hbools.out (by show (1 : Nat) ≤ maxLen; decide) (List.forall_mem_cons.2 ⟨set_at [⟨3, 0, [], false⟩, ⟨3, 0, [], true⟩] Hset.out (by decide), fun _ h => (by cases h)⟩)
  have hp2 : PredR w46 (.slice (some ⟨bha, 0, none⟩) 1 1) hasaP2 := pred0 hasaP2 Hha.out (by kernel_rfl) (by decide)
  have hcv := Lib.hid (covers_lit hp1 hp2 boolsP_ok hasaP2_ok cv_boolsP_hasaP2)
  clear hp1 hp2
  refine (hcv.out).mono ?_
  rintro e w47 ⟨rfl, hx47⟩
  have hw := hw.trans hx47
  have Hgap := Lib.hid (block_later Hgap.out hx47)
  have Hset := Lib.hid (block_later Hset.out hx47)
  have Hbools := Lib.hid (block_later Hbools.out hx47)
  have Htp := Lib.hid (block_later Htp.out hx47)
  have Hha := Lib.hid (block_later Hha.out hx47)
  clear hx47
  clear hcv
  go_wp2_with fail
  refine (truth42_any w47 true).mono ?_
  rintro e w48 ⟨rfl, hx48⟩
  have hw := hw.trans hx48
  have Hgap := Lib.hid (block_later Hgap.out hx48)
  have Hset := Lib.hid (block_later Hset.out hx48)
  have Hbools := Lib.hid (block_later Hbools.out hx48)
  have Htp := Lib.hid (block_later Htp.out hx48)
  have Hha := Lib.hid (block_later Hha.out hx48)
  clear hx48
  obtain ⟨hx49, hle⟩ := boxes1 w48 (.cells #[.string ⟨#[97]⟩, .int .i64 5, .int .i64 3, .int .i64 0, .string ⟨#[]⟩, .bool true, .slice none 0 0] 31)
  have hw := hw.trans hx49
  have Hgap := Lib.hid (block_later Hgap.out hx49)
  have Hset := Lib.hid (block_later Hset.out hx49)
  have Hbools := Lib.hid (block_later Hbools.out hx49)
  have Htp := Lib.hid (block_later Htp.out hx49)
  have Hha := Lib.hid (block_later Hha.out hx49)
  clear hx49
  have Hle := Lib.hid hle
  clear hle
  go_wp2_with fail
  generalize w48.alloc (.cells #[.string ⟨#[97]⟩, .int .i64 5, .int .i64 3, .int .i64 0, .string ⟨#[]⟩, .bool true, .slice none 0 0] 31) = w49 at *
  generalize w48.heap.size = ble at *
  have hp1 : PredR w49 (.slice (some ⟨ble, 0, none⟩) 1 1) leP := pred0 leP Hle.out (by kernel_rfl) (by decide)
  have hp2 : PredR w49 (.slice (some ⟨bbools, 0, none⟩) 1 1) boolsP := pred_at [⟨⟨[97], 9, ⟨0, 0, [], false⟩, [⟨3, 0, [], false⟩, ⟨3, 0, [], true⟩]⟩, .slice (some ⟨bset, 0, none⟩) 2 2⟩] Hbools.out (by show (1 : Nat) ≤ maxLen; decide) (List.forall_mem_cons.2 ⟨set_at [⟨3, 0, [], false⟩, ⟨3, 0, [], true⟩] Hset.out (by decide), fun _ h => (by cases h)⟩)
  have hcv := Lib.hid (covers_lit hp1 hp2 leP_ok boolsP_ok cv_leP_boolsP)
  clear hp1 hp2
  refine (hcv.out).mono ?_
  rintro e w50 ⟨rfl, hx50⟩
  have hw := hw.trans hx50
  have Hgap := Lib.hid (block_later Hgap.out hx50)
  have Hset := Lib.hid (block_later Hset.out hx50)
  have Hbools := Lib.hid (block_later Hbools.out hx50)
  have Htp := Lib.hid (block_later Htp.out hx50)
  have Hha := Lib.hid (block_later Hha.out hx50)
  have Hle := Lib.hid (block_later Hle.out hx50)
  clear hx50
  clear hcv
  go_wp2_with fail
  refine (wakes05_any w50).mono ?_
  rintro e w51 ⟨rfl, hx51⟩
  have hw := hw.trans hx51
  have Hgap := Lib.hid (block_later Hgap.out hx51)
  have Hset := Lib.hid (block_later Hset.out hx51)
  have Hbools := Lib.hid (block_later Hbools.out hx51)
  have Htp := Lib.hid (block_later Htp.out hx51)
  have Hha := Lib.hid (block_later Hha.out hx51)
  have Hle := Lib.hid (block_later Hle.out hx51)
  clear hx51
  go_wp2_with fail
  go_ret
  exact ⟨rfl, hw⟩
end Go.Proofs.Ytkefppdacigbmaa
