/- OverlapApart, walked. (Printed by a program.) -/
import Derived.Test.YtkefppdacigbmaaP23
namespace Go.Proofs.Ytkefppdacigbmaa
open Go.RowKit

theorem pmay_lit {w : World} {vp : Value} {p : List C} (hp : PredR w vp p) {b : Bool} (h : mayP p = b) : Calls Try.prog 19 #[vp] w fun e w' => e = .returned (.bool b) ∧ Ext w w' := by
  have := pmay_any w vp p hp
  rwa [h] at this
set_option maxRecDepth 100000 in
set_option maxHeartbeats 16000000 in
theorem oapart_n1 (w : World) (vp vq : Value) (p q : List C) (hp : PredR w vp p) (hq : PredR w vq q) (kp : ∀ c ∈ p, okC c) (kq : ∀ c ∈ q, okC c) (h : apartF p q = none) (h1 : mayP p = false) :
    Calls Try.prog 10 #[vp, vq] w fun e w' => e = .returned (.bool true) ∧ Ext w w' := by
  obtain ⟨ap, cp, rfl, _, _⟩ := hp.shape
  obtain ⟨aq, cq, rfl, _, _⟩ := hq.shape
  have HA := Lib.hid (apart_lit hp hq kp kq h)
  have H1 := Lib.hid h1
  have HP := Lib.hid hp
  have HQ := Lib.hid hq
  clear h h1 hp hq
  generalize p.length = pl at *
  generalize q.length = ql at *
  have hw := Ext.refl w
  go_enter Try.func10, Try.ntmps10
  go_wp2_with fail
  refine (HA.out).mono ?_
  rintro e w1 ⟨rfl, hx1⟩
  have hw := hw.trans hx1
  have HP := Lib.hid (HP.out.ext hx1)
  have HQ := Lib.hid (HQ.out.ext hx1)
  clear hx1
  clear HA
  obtain ⟨hx2, hn⟩ := boxes1 w1 (.cells #[.string (strOf [])] 9)
  have hw := hw.trans hx2
  have HP := Lib.hid (HP.out.ext hx2)
  have HQ := Lib.hid (HQ.out.ext hx2)
  clear hx2
  have Hn := Lib.hid hn
  clear hn
  go_wp2_with fail
  generalize w1.alloc (.cells #[.string (strOf [])] 9) = w2 at *
  generalize w1.heap.size = bn at *
  have hcv := Lib.hid (pmay_lit HP.out H1.out)
  refine (hcv.out).mono ?_
  rintro e w3 ⟨rfl, hx3⟩
  have hw := hw.trans hx3
  have Hn := Lib.hid (block_later Hn.out hx3)
  have HP := Lib.hid (HP.out.ext hx3)
  have HQ := Lib.hid (HQ.out.ext hx3)
  clear hx3
  clear hcv
  have mn_0 := cell_of_row _ _ 0 _ _ _ Hn.out
  go_wp2_with fail
  refine (wakes06_any w3).mono ?_
  rintro e w4 ⟨rfl, hx4⟩
  have hw := hw.trans hx4
  have Hn := Lib.hid (block_later Hn.out hx4)
  have HP := Lib.hid (HP.out.ext hx4)
  have HQ := Lib.hid (HQ.out.ext hx4)
  clear hx4
  go_wp2_with fail
  go_ret
  exact ⟨rfl, hw⟩

set_option maxRecDepth 100000 in
set_option maxHeartbeats 16000000 in
theorem oapart_n2 (w : World) (vp vq : Value) (p q : List C) (hp : PredR w vp p) (hq : PredR w vq q) (kp : ∀ c ∈ p, okC c) (kq : ∀ c ∈ q, okC c) (h : apartF p q = none) (h1 : mayP p = true) (h2 : mayP q = false) :
    Calls Try.prog 10 #[vp, vq] w fun e w' => e = .returned (.bool true) ∧ Ext w w' := by
  obtain ⟨ap, cp, rfl, _, _⟩ := hp.shape
  obtain ⟨aq, cq, rfl, _, _⟩ := hq.shape
  have HA := Lib.hid (apart_lit hp hq kp kq h)
  have H1 := Lib.hid h1
  have H2 := Lib.hid h2
  have HP := Lib.hid hp
  have HQ := Lib.hid hq
  clear h h1 hp hq h2
  generalize p.length = pl at *
  generalize q.length = ql at *
  have hw := Ext.refl w
  go_enter Try.func10, Try.ntmps10
  go_wp2_with fail
  refine (HA.out).mono ?_
  rintro e w1 ⟨rfl, hx1⟩
  have hw := hw.trans hx1
  have HP := Lib.hid (HP.out.ext hx1)
  have HQ := Lib.hid (HQ.out.ext hx1)
  clear hx1
  clear HA
  obtain ⟨hx2, hn⟩ := boxes1 w1 (.cells #[.string (strOf [])] 9)
  have hw := hw.trans hx2
  have HP := Lib.hid (HP.out.ext hx2)
  have HQ := Lib.hid (HQ.out.ext hx2)
  clear hx2
  have Hn := Lib.hid hn
  clear hn
  go_wp2_with fail
  generalize w1.alloc (.cells #[.string (strOf [])] 9) = w2 at *
  generalize w1.heap.size = bn at *
  have hcv := Lib.hid (pmay_lit HP.out H1.out)
  refine (hcv.out).mono ?_
  rintro e w3 ⟨rfl, hx3⟩
  have hw := hw.trans hx3
  have Hn := Lib.hid (block_later Hn.out hx3)
  have HP := Lib.hid (HP.out.ext hx3)
  have HQ := Lib.hid (HQ.out.ext hx3)
  clear hx3
  clear hcv
  have hcv := Lib.hid (pmay_lit HQ.out H2.out)
  go_wp2_with fail
  refine (hcv.out).mono ?_
  rintro e w4 ⟨rfl, hx4⟩
  have hw := hw.trans hx4
  have Hn := Lib.hid (block_later Hn.out hx4)
  have HP := Lib.hid (HP.out.ext hx4)
  have HQ := Lib.hid (HQ.out.ext hx4)
  clear hx4
  clear hcv
  have mn_0 := cell_of_row _ _ 0 _ _ _ Hn.out
  go_wp2_with fail
  refine (wakes06_any w4).mono ?_
  rintro e w5 ⟨rfl, hx5⟩
  have hw := hw.trans hx5
  have Hn := Lib.hid (block_later Hn.out hx5)
  have HP := Lib.hid (HP.out.ext hx5)
  have HQ := Lib.hid (HQ.out.ext hx5)
  clear hx5
  go_wp2_with fail
  go_ret
  exact ⟨rfl, hw⟩

set_option maxRecDepth 100000 in
set_option maxHeartbeats 16000000 in
theorem oapart_n3 (w : World) (vp vq : Value) (p q : List C) (hp : PredR w vp p) (hq : PredR w vq q) (kp : ∀ c ∈ p, okC c) (kq : ∀ c ∈ q, okC c) (h : apartF p q = none) (h1 : mayP p = true) (h2 : mayP q = true) :
    Calls Try.prog 10 #[vp, vq] w fun e w' => e = .returned (.bool true) ∧ Ext w w' := by
  obtain ⟨ap, cp, rfl, _, _⟩ := hp.shape
  obtain ⟨aq, cq, rfl, _, _⟩ := hq.shape
  have h3 : overlapsF p q = true := by unfold overlapsF; rw [h1, h2, h]; rfl
  have H3 := Lib.hid h3
  clear h3
  have HA := Lib.hid (apart_lit hp hq kp kq h)
  have H1 := Lib.hid h1
  have H2 := Lib.hid h2
  have HP := Lib.hid hp
  have HQ := Lib.hid hq
  clear h h1 hp hq h2
  generalize p.length = pl at *
  generalize q.length = ql at *
  have hw := Ext.refl w
  go_enter Try.func10, Try.ntmps10
  go_wp2_with fail
  refine (HA.out).mono ?_
  rintro e w1 ⟨rfl, hx1⟩
  have hw := hw.trans hx1
  have HP := Lib.hid (HP.out.ext hx1)
  have HQ := Lib.hid (HQ.out.ext hx1)
  clear hx1
  clear HA
  obtain ⟨hx2, hn⟩ := boxes1 w1 (.cells #[.string (strOf [])] 9)
  have hw := hw.trans hx2
  have HP := Lib.hid (HP.out.ext hx2)
  have HQ := Lib.hid (HQ.out.ext hx2)
  clear hx2
  have Hn := Lib.hid hn
  clear hn
  go_wp2_with fail
  generalize w1.alloc (.cells #[.string (strOf [])] 9) = w2 at *
  generalize w1.heap.size = bn at *
  have hcv := Lib.hid (pmay_lit HP.out H1.out)
  refine (hcv.out).mono ?_
  rintro e w3 ⟨rfl, hx3⟩
  have hw := hw.trans hx3
  have Hn := Lib.hid (block_later Hn.out hx3)
  have HP := Lib.hid (HP.out.ext hx3)
  have HQ := Lib.hid (HQ.out.ext hx3)
  clear hx3
  clear hcv
  have hcv := Lib.hid (pmay_lit HQ.out H2.out)
  go_wp2_with fail
  refine (hcv.out).mono ?_
  rintro e w4 ⟨rfl, hx4⟩
  have hw := hw.trans hx4
  have Hn := Lib.hid (block_later Hn.out hx4)
  have HP := Lib.hid (HP.out.ext hx4)
  have HQ := Lib.hid (HQ.out.ext hx4)
  clear hx4
  clear hcv
  have hcv := Lib.hid (overlaps_lit HP.out HQ.out kp kq H3.out)
  go_wp2_with fail
  refine (hcv.out).mono ?_
  rintro e w5 ⟨rfl, hx5⟩
  have hw := hw.trans hx5
  have Hn := Lib.hid (block_later Hn.out hx5)
  have HP := Lib.hid (HP.out.ext hx5)
  have HQ := Lib.hid (HQ.out.ext hx5)
  clear hx5
  clear hcv
  have mn_0 := cell_of_row _ _ 0 _ _ _ Hn.out
  go_wp2_with fail
  refine (wakes06_any w5).mono ?_
  rintro e w6 ⟨rfl, hx6⟩
  have hw := hw.trans hx6
  have Hn := Lib.hid (block_later Hn.out hx6)
  have HP := Lib.hid (HP.out.ext hx6)
  have HQ := Lib.hid (HQ.out.ext hx6)
  clear hx6
  go_wp2_with fail
  go_ret
  exact ⟨rfl, hw⟩

set_option maxRecDepth 100000 in
set_option maxHeartbeats 16000000 in
theorem oapart_y (w : World) (vp vq : Value) (p q : List C) (hp : PredR w vp p) (hq : PredR w vq q) (kp : ∀ c ∈ p, okC c) (kq : ∀ c ∈ q, okC c) (name : List UInt8) (h : apartF p q = some name) :
    Calls Try.prog 10 #[vp, vq] w fun e w' => e = .returned (.bool true) ∧ Ext w w' := by
  obtain ⟨ap, cp, rfl, _, _⟩ := hp.shape
  obtain ⟨aq, cq, rfl, _, _⟩ := hq.shape
  have hs := apart_some h
  have hl1 := may_len hs.1
  have hl2 := may_len hs.2.1
  have h3 : overlapsF p q = false := by unfold overlapsF; rw [h]; simp
  have h4 := apart_only h
  have f1 := few_asked p name
  have f2 := few_asked q name
  have HA := Lib.hid (apart_lit hp hq kp kq h)
  have H1 := Lib.hid hs.1
  have H2 := Lib.hid hs.2.1
  have H3 := Lib.hid h3
  have H4 := Lib.hid h4
  have HE := Lib.hid hs.2.2.1
  have HP := Lib.hid hp
  have HQ := Lib.hid hq
  have HL1 := Lib.hid hl1
  have HL2 := Lib.hid hl2
  have hn : (if mayP p then (0 : Int) else 30) = 0 := by rw [hs.1]; rfl
  have hm : (if mayP q then (0 : Int) else 30) = 0 := by rw [hs.2.1]; rfl
  have HN := Lib.hid hn
  have HM := Lib.hid hm
  clear h hp hq hs hl1 hl2 h3 h4 hn hm
  generalize hr : askedF p name = r at *
  generalize hs : askedF q name = s at *
  have HAnd := Lib.hid (fun W v1 v2 (h1 : RgR W v1 r) (h2 : RgR W v2 s) => andR_any W v1 v2 r s h1 h2 f1.1 f2.1.full (f1.2.mono (by omega)) (f2.2.mono (by omega)))
  have HR := Lib.hid hr
  have HS := Lib.hid hs
  clear hr hs f1 f2
  generalize r.and s = rs at *
  generalize hpl : p.length = pl at *
  generalize hql : q.length = ql at *
  have HPL := Lib.hid hpl
  have HQL := Lib.hid hql
  clear hpl hql
  have hw := Ext.refl w
  go_enter Try.func10, Try.ntmps10
  go_wp2_with fail
  refine (HA.out).mono ?_
  rintro e w1 ⟨rfl, hx1⟩
  have hw := hw.trans hx1
  have HP := Lib.hid (HP.out.ext hx1)
  have HQ := Lib.hid (HQ.out.ext hx1)
  clear hx1
  clear HA
  obtain ⟨hx2, hn⟩ := boxes1 w1 (.cells #[.string (strOf name)] 9)
  have hw := hw.trans hx2
  have HP := Lib.hid (HP.out.ext hx2)
  have HQ := Lib.hid (HQ.out.ext hx2)
  clear hx2
  have Hn := Lib.hid hn
  clear hn
  go_wp2_with fail
  generalize w1.alloc (.cells #[.string (strOf name)] 9) = w2 at *
  generalize w1.heap.size = bn at *
  have hcv := Lib.hid (pmay_lit HP.out H1.out)
  refine (hcv.out).mono ?_
  rintro e w3 ⟨rfl, hx3⟩
  have hw := hw.trans hx3
  have Hn := Lib.hid (block_later Hn.out hx3)
  have HP := Lib.hid (HP.out.ext hx3)
  have HQ := Lib.hid (HQ.out.ext hx3)
  clear hx3
  clear hcv
  have hcv := Lib.hid (pmay_lit HQ.out H2.out)
  go_wp2_with fail
  refine (hcv.out).mono ?_
  rintro e w4 ⟨rfl, hx4⟩
  have hw := hw.trans hx4
  have Hn := Lib.hid (block_later Hn.out hx4)
  have HP := Lib.hid (HP.out.ext hx4)
  have HQ := Lib.hid (HQ.out.ext hx4)
  clear hx4
  clear hcv
  have hcv := Lib.hid (overlaps_lit HP.out HQ.out kp kq H3.out)
  go_wp2_with fail
  refine (hcv.out).mono ?_
  rintro e w5 ⟨rfl, hx5⟩
  have hw := hw.trans hx5
  have Hn := Lib.hid (block_later Hn.out hx5)
  have HP := Lib.hid (HP.out.ext hx5)
  have HQ := Lib.hid (HQ.out.ext hx5)
  clear hx5
  clear hcv
  have mn_0 := cell_of_row _ _ 0 _ _ _ Hn.out
  have hof := Lib.hid (asked_sh name HP.out kp HR.out HN.out)
  go_wp2_with fail
  refine (hof.out).mono ?_
  rintro e w6 ⟨a1, a2, a3, a4, a5, a6, rfl, hrr, hx6⟩
  have hw := hw.trans hx6
  have Hn := Lib.hid (block_later Hn.out hx6)
  have HP := Lib.hid (HP.out.ext hx6)
  have HQ := Lib.hid (HQ.out.ext hx6)
  clear hx6
  have HRR := Lib.hid hrr
  clear hrr
  clear hof mn_0
  obtain ⟨hx7, hr⟩ := boxes1 w6 (.cells #[.slice a1 r.i.length a2, .slice a3 r.s.length a4, .slice a5 r.b.length a6, .bool r.odd] 57)
  have hw := hw.trans hx7
  have Hn := Lib.hid (block_later Hn.out hx7)
  have HP := Lib.hid (HP.out.ext hx7)
  have HQ := Lib.hid (HQ.out.ext hx7)
  have HRR := Lib.hid (HRR.out.ext hx7)
  clear hx7
  have Hr := Lib.hid hr
  clear hr
  have mn_0 := cell_of_row _ _ 0 _ _ _ Hn.out
  go_wp2_with fail
  generalize w6.alloc (.cells #[.slice a1 r.i.length a2, .slice a3 r.s.length a4, .slice a5 r.b.length a6, .bool r.odd] 57) = w7 at *
  generalize w6.heap.size = br at *
  have hof := Lib.hid (asked_sh name HQ.out kq HS.out HM.out)
  refine (hof.out).mono ?_
  rintro e w8 ⟨b1, b2, b3, b4, b5, b6, rfl, hrs, hx8⟩
  have hw := hw.trans hx8
  have Hn := Lib.hid (block_later Hn.out hx8)
  have Hr := Lib.hid (block_later Hr.out hx8)
  have HP := Lib.hid (HP.out.ext hx8)
  have HQ := Lib.hid (HQ.out.ext hx8)
  have HRR := Lib.hid (HRR.out.ext hx8)
  clear hx8
  have HRS := Lib.hid hrs
  clear hrs
  clear hof mn_0
  obtain ⟨hx9, hs⟩ := boxes1 w8 (.cells #[.slice b1 s.i.length b2, .slice b3 s.s.length b4, .slice b5 s.b.length b6, .bool s.odd] 57)
  have hw := hw.trans hx9
  have Hn := Lib.hid (block_later Hn.out hx9)
  have Hr := Lib.hid (block_later Hr.out hx9)
  have HP := Lib.hid (HP.out.ext hx9)
  have HQ := Lib.hid (HQ.out.ext hx9)
  have HRR := Lib.hid (HRR.out.ext hx9)
  have HRS := Lib.hid (HRS.out.ext hx9)
  clear hx9
  have Hs := Lib.hid hs
  clear hs
  have mr_0 := cell_of_row _ _ 0 _ _ _ Hr.out
  have mr_1 := cell_of_row _ _ 1 _ _ _ Hr.out
  have mr_2 := cell_of_row _ _ 2 _ _ _ Hr.out
  have mr_3 := cell_of_row _ _ 3 _ _ _ Hr.out
  have ms_0 := cell_of_row _ _ 0 _ _ _ Hs.out
  have ms_1 := cell_of_row _ _ 1 _ _ _ Hs.out
  have ms_2 := cell_of_row _ _ 2 _ _ _ Hs.out
  have ms_3 := cell_of_row _ _ 3 _ _ _ Hs.out
  go_wp2_with fail
  generalize w8.alloc (.cells #[.slice b1 s.i.length b2, .slice b3 s.s.length b4, .slice b5 s.b.length b6, .bool s.odd] 57) = w9 at *
  generalize w8.heap.size = bs at *
  have hof := Lib.hid (HAnd.out _ _ _ HRR.out HRS.out)
  refine (hof.out).mono ?_
  rintro e w10 ⟨va, rfl, hva, hx10⟩
  have hw := hw.trans hx10
  have Hn := Lib.hid (block_later Hn.out hx10)
  have Hr := Lib.hid (block_later Hr.out hx10)
  have Hs := Lib.hid (block_later Hs.out hx10)
  have HP := Lib.hid (HP.out.ext hx10)
  have HQ := Lib.hid (HQ.out.ext hx10)
  have HRR := Lib.hid (HRR.out.ext hx10)
  have HRS := Lib.hid (HRS.out.ext hx10)
  clear hx10
  clear hof mr_0 mr_1 mr_2 mr_3 ms_0 ms_1 ms_2 ms_3
  have hof := Lib.hid (empty_lit hva HE.out)
  clear hva
  go_wp2_with fail
  refine (hof.out).mono ?_
  rintro e w11 ⟨rfl, hx11⟩
  have hw := hw.trans hx11
  have Hn := Lib.hid (block_later Hn.out hx11)
  have Hr := Lib.hid (block_later Hr.out hx11)
  have Hs := Lib.hid (block_later Hs.out hx11)
  have HP := Lib.hid (HP.out.ext hx11)
  have HQ := Lib.hid (HQ.out.ext hx11)
  have HRR := Lib.hid (HRR.out.ext hx11)
  have HRS := Lib.hid (HRS.out.ext hx11)
  clear hx11
  clear hof
  clear Hr
  clear Hs
  clear HRR
  clear HRS
  have hof := Lib.hid (only48_any _ _ p bn name HP.out (by rw [HPL.out]; exact HL1.out) Hn.out)
  go_wp2_with fail
  refine (hof.out).mono ?_
  rintro e w12 ⟨vo, rfl, hvo, hx12⟩
  have hw := hw.trans hx12
  have Hn := Lib.hid (block_later Hn.out hx12)
  have HP := Lib.hid (HP.out.ext hx12)
  have HQ := Lib.hid (HQ.out.ext hx12)
  clear hx12
  have HVO := Lib.hid hvo
  clear hvo
  clear hof
  have hof := Lib.hid (only48_any _ _ q bn name HQ.out (by rw [HQL.out]; exact HL2.out) Hn.out)
  go_wp2_with fail
  refine (hof.out).mono ?_
  rintro e w13 ⟨vu, rfl, hvu, hx13⟩
  have hw := hw.trans hx13
  have Hn := Lib.hid (block_later Hn.out hx13)
  have HP := Lib.hid (HP.out.ext hx13)
  have HQ := Lib.hid (HQ.out.ext hx13)
  have HVO := Lib.hid (HVO.out.ext hx13)
  clear hx13
  have HVU := Lib.hid hvu
  clear hvu
  clear hof
  have hcv := Lib.hid (overlaps_lit HVO.out HVU.out (fun c hc => kp c (List.mem_filter.1 hc).1) (fun c hc => kq c (List.mem_filter.1 hc).1) H4.out)
  go_wp2_with fail
  refine (hcv.out).mono ?_
  rintro e w14 ⟨rfl, hx14⟩
  have hw := hw.trans hx14
  have Hn := Lib.hid (block_later Hn.out hx14)
  have HP := Lib.hid (HP.out.ext hx14)
  have HQ := Lib.hid (HQ.out.ext hx14)
  have HVO := Lib.hid (HVO.out.ext hx14)
  have HVU := Lib.hid (HVU.out.ext hx14)
  clear hx14
  clear hcv
  go_wp2_with fail
  refine (wakes06_any w14).mono ?_
  rintro e w15 ⟨rfl, hx15⟩
  have hw := hw.trans hx15
  have Hn := Lib.hid (block_later Hn.out hx15)
  have HP := Lib.hid (HP.out.ext hx15)
  have HQ := Lib.hid (HQ.out.ext hx15)
  have HVO := Lib.hid (HVO.out.ext hx15)
  have HVU := Lib.hid (HVU.out.ext hx15)
  clear hx15
  go_wp2_with fail
  go_ret
  exact ⟨rfl, hw⟩

theorem overlapApart_walk (w : World) (vp vq : Value) (p q : List C) (hp : PredR w vp p) (hq : PredR w vq q) (kp : ∀ c ∈ p, okC c) (kq : ∀ c ∈ q, okC c) :
    Calls Try.prog 10 #[vp, vq] w fun e w' => e = .returned (.bool true) ∧ Ext w w' := by
  cases h : apartF p q with
  | some name => exact oapart_y w vp vq p q hp hq kp kq name h
  | none =>
    cases h1 : mayP p with
    | false => exact oapart_n1 w vp vq p q hp hq kp kq h h1
    | true => cases h2 : mayP q with
      | false => exact oapart_n2 w vp vq p q hp hq kp kq h h1 h2
      | true => exact oapart_n3 w vp vq p q hp hq kp kq h h1 h2
end Go.Proofs.Ytkefppdacigbmaa
