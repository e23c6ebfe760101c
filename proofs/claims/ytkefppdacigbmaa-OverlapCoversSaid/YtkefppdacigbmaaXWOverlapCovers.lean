/- OverlapCovers, walked. -/
import Derived.Test.YtkefppdacigbmaaP22
import Derived.Test.YtkefppdacigbmaaP16
namespace Go.Proofs.Ytkefppdacigbmaa
open Go.RowKit

set_option maxRecDepth 100000 in
set_option maxHeartbeats 16000000 in
theorem overlapCovers_walk (w : World) (vp vq vr : Value) (p q r : List C) (hp : PredR w vp p) (hq : PredR w vq q) (hr : PredR w vr r) (kp : ∀ c ∈ p, okC c) (kq : ∀ c ∈ q, okC c) (kr : ∀ c ∈ r, okC c) :
    Calls Try.prog 12 #[vp, vq, vr] w fun e w' => e = .returned (.bool true) ∧ Ext w w' := by
  obtain ⟨ap, cp, rfl, _, _⟩ := hp.shape
  obtain ⟨aq, cq, rfl, _, _⟩ := hq.shape
  obtain ⟨ar, cr, rfl, _, _⟩ := hr.shape
  have OPQ := Lib.hid (fun W (hx : Ext w W) => overlaps_any W _ _ p q (hp.ext hx) (hq.ext hx) kp kq)
  have CRQ := Lib.hid (fun W (hx : Ext w W) => covers_any W _ _ r q (hr.ext hx) (hq.ext hx) kr kq)
  have OPR := Lib.hid (fun W (hx : Ext w W) => overlaps_any W _ _ p r (hp.ext hx) (hr.ext hx) kp kr)
  have CPQ := Lib.hid (fun W (hx : Ext w W) => covers_any W _ _ p q (hp.ext hx) (hq.ext hx) kp kq)
  have AQ := Lib.hid (fun W (hx : Ext w W) => any_lit (hq.ext hx) kq (rfl : overlapsF q [] = _))
  have MP := Lib.hid (fun W (hx : Ext w W) => pmay_any W _ p (hp.ext hx))
  have AP := Lib.hid (fun W (hx : Ext w W) => any_lit (hp.ext hx) kp (rfl : overlapsF p [] = _))
  have MQ := Lib.hid (fun W (hx : Ext w W) => pmay_any W _ q (hq.ext hx))
  have CQP := Lib.hid (fun W (hx : Ext w W) => covers_any W _ _ q p (hq.ext hx) (hp.ext hx) kq kp)
  have l1 := fun h1 h2 => overlap_law1 (p := p) (q := q) (r := r) h1 h2
  have l2 := fun h1 h2 => overlap_law2 (p := p) (q := q) h1 h2
  have l3 := fun h1 h2 => overlap_law3 (p := p) (q := q) h1 h2
  clear hp hq hr kp kq kr
  generalize overlapsF p q = opq at *
  generalize coversF r q = crq at *
  generalize overlapsF p r = opr at *
  generalize coversF p q = cpq at *
  generalize overlapsF q [] = aq1 at *
  generalize overlapsF p [] = ap1 at *
  generalize mayP p = mp at *
  generalize mayP q = mq at *
  generalize coversF q p = cqp at *
  generalize p.length = pl at *
  generalize q.length = ql at *
  generalize r.length = rl at *
  have L1 : Hid (opq = true → crq = true → opr = true) := Lib.hid l1
  have L2 : Hid (cpq = true → aq1 = true → opq = true) := Lib.hid l2
  have L3 : Hid (mp = true → ap1 = false → opq = false ∧ (mq = true → cqp = true)) := Lib.hid l3
  clear l1 l2 l3
  have hw := Ext.refl w
  go_enter Try.func12, Try.ntmps12
  cases opq with
  | false =>
    go_wp2_with fail
    refine (OPQ.out _ hw).mono ?_
    rintro e w1 ⟨rfl, hx⟩
    have hw := hw.trans hx
    clear hx
    cases cpq with
    | false =>
      go_wp2_with fail
      refine (CPQ.out _ hw).mono ?_
      rintro e w2 ⟨rfl, hx⟩
      have hw := hw.trans hx
      clear hx
      cases mp with
      | false =>
        go_wp2_with fail
        refine (MP.out _ hw).mono ?_
        rintro e w3 ⟨rfl, hx⟩
        have hw := hw.trans hx
        clear hx
        go_wp2_with fail
        refine (wakes06_any _).mono ?_
        rintro e w4 ⟨rfl, hx⟩
        have hw := hw.trans hx
        clear hx
        go_wp2_with fail
        go_ret
        exact ⟨rfl, hw⟩
      | true =>
        go_wp2_with fail
        refine (MP.out _ hw).mono ?_
        rintro e w5 ⟨rfl, hx⟩
        have hw := hw.trans hx
        clear hx
        cases ap1 with
        | false =>
          go_wp2_with fail
          refine (AP.out _ hw).mono ?_
          rintro e w6 ⟨rfl, hx⟩
          have hw := hw.trans hx
          clear hx
          go_wp2_with fail
          refine (OPQ.out _ hw).mono ?_
          rintro e w7 ⟨rfl, hx⟩
          have hw := hw.trans hx
          clear hx
          cases mq with
          | false =>
            go_wp2_with fail
            refine (MQ.out _ hw).mono ?_
            rintro e w8 ⟨rfl, hx⟩
            have hw := hw.trans hx
            clear hx
            go_wp2_with fail
            refine (wakes06_any _).mono ?_
            rintro e w9 ⟨rfl, hx⟩
            have hw := hw.trans hx
            clear hx
            go_wp2_with fail
            go_ret
            exact ⟨rfl, hw⟩
          | true =>
            go_wp2_with fail
            refine (MQ.out _ hw).mono ?_
            rintro e w10 ⟨rfl, hx⟩
            have hw := hw.trans hx
            clear hx
            cases cqp with
            | false =>
              have hz := L3.out; simp at hz
            | true =>
              go_wp2_with fail
              refine (CQP.out _ hw).mono ?_
              rintro e w11 ⟨rfl, hx⟩
              have hw := hw.trans hx
              clear hx
              go_wp2_with fail
              refine (wakes06_any _).mono ?_
              rintro e w12 ⟨rfl, hx⟩
              have hw := hw.trans hx
              clear hx
              go_wp2_with fail
              go_ret
              exact ⟨rfl, hw⟩
        | true =>
          go_wp2_with fail
          refine (AP.out _ hw).mono ?_
          rintro e w13 ⟨rfl, hx⟩
          have hw := hw.trans hx
          clear hx
          go_wp2_with fail
          refine (wakes06_any _).mono ?_
          rintro e w14 ⟨rfl, hx⟩
          have hw := hw.trans hx
          clear hx
          go_wp2_with fail
          go_ret
          exact ⟨rfl, hw⟩
    | true =>
      go_wp2_with fail
      refine (CPQ.out _ hw).mono ?_
      rintro e w15 ⟨rfl, hx⟩
      have hw := hw.trans hx
      clear hx
      cases aq1 with
      | false =>
        go_wp2_with fail
        refine (AQ.out _ hw).mono ?_
        rintro e w16 ⟨rfl, hx⟩
        have hw := hw.trans hx
        clear hx
        cases mp with
        | false =>
          go_wp2_with fail
          refine (MP.out _ hw).mono ?_
          rintro e w17 ⟨rfl, hx⟩
          have hw := hw.trans hx
          clear hx
          go_wp2_with fail
          refine (wakes06_any _).mono ?_
          rintro e w18 ⟨rfl, hx⟩
          have hw := hw.trans hx
          clear hx
          go_wp2_with fail
          go_ret
          exact ⟨rfl, hw⟩
        | true =>
          go_wp2_with fail
          refine (MP.out _ hw).mono ?_
          rintro e w19 ⟨rfl, hx⟩
          have hw := hw.trans hx
          clear hx
          cases ap1 with
          | false =>
            go_wp2_with fail
            refine (AP.out _ hw).mono ?_
            rintro e w20 ⟨rfl, hx⟩
            have hw := hw.trans hx
            clear hx
            go_wp2_with fail
            refine (OPQ.out _ hw).mono ?_
            rintro e w21 ⟨rfl, hx⟩
            have hw := hw.trans hx
            clear hx
            cases mq with
            | false =>
              go_wp2_with fail
              refine (MQ.out _ hw).mono ?_
              rintro e w22 ⟨rfl, hx⟩
              have hw := hw.trans hx
              clear hx
              go_wp2_with fail
              refine (wakes06_any _).mono ?_
              rintro e w23 ⟨rfl, hx⟩
              have hw := hw.trans hx
              clear hx
              go_wp2_with fail
              go_ret
              exact ⟨rfl, hw⟩
            | true =>
              go_wp2_with fail
              refine (MQ.out _ hw).mono ?_
              rintro e w24 ⟨rfl, hx⟩
              have hw := hw.trans hx
              clear hx
              cases cqp with
              | false =>
                have hz := L3.out; simp at hz
              | true =>
                go_wp2_with fail
                refine (CQP.out _ hw).mono ?_
                rintro e w25 ⟨rfl, hx⟩
                have hw := hw.trans hx
                clear hx
                go_wp2_with fail
                refine (wakes06_any _).mono ?_
                rintro e w26 ⟨rfl, hx⟩
                have hw := hw.trans hx
                clear hx
                go_wp2_with fail
                go_ret
                exact ⟨rfl, hw⟩
          | true =>
            go_wp2_with fail
            refine (AP.out _ hw).mono ?_
            rintro e w27 ⟨rfl, hx⟩
            have hw := hw.trans hx
            clear hx
            go_wp2_with fail
            refine (wakes06_any _).mono ?_
            rintro e w28 ⟨rfl, hx⟩
            have hw := hw.trans hx
            clear hx
            go_wp2_with fail
            go_ret
            exact ⟨rfl, hw⟩
      | true =>
        go_wp2_with fail
        refine (AQ.out _ hw).mono ?_
        rintro e w29 ⟨rfl, hx⟩
        have hw := hw.trans hx
        clear hx
        have hz := L2.out; simp at hz
  | true =>
    go_wp2_with fail
    refine (OPQ.out _ hw).mono ?_
    rintro e w30 ⟨rfl, hx⟩
    have hw := hw.trans hx
    clear hx
    cases crq with
    | false =>
      go_wp2_with fail
      refine (CRQ.out _ hw).mono ?_
      rintro e w31 ⟨rfl, hx⟩
      have hw := hw.trans hx
      clear hx
      cases cpq with
      | false =>
        go_wp2_with fail
        refine (CPQ.out _ hw).mono ?_
        rintro e w32 ⟨rfl, hx⟩
        have hw := hw.trans hx
        clear hx
        cases mp with
        | false =>
          go_wp2_with fail
          refine (MP.out _ hw).mono ?_
          rintro e w33 ⟨rfl, hx⟩
          have hw := hw.trans hx
          clear hx
          go_wp2_with fail
          refine (wakes06_any _).mono ?_
          rintro e w34 ⟨rfl, hx⟩
          have hw := hw.trans hx
          clear hx
          go_wp2_with fail
          go_ret
          exact ⟨rfl, hw⟩
        | true =>
          go_wp2_with fail
          refine (MP.out _ hw).mono ?_
          rintro e w35 ⟨rfl, hx⟩
          have hw := hw.trans hx
          clear hx
          cases ap1 with
          | false =>
            go_wp2_with fail
            refine (AP.out _ hw).mono ?_
            rintro e w36 ⟨rfl, hx⟩
            have hw := hw.trans hx
            clear hx
            have hz := L3.out; simp at hz
          | true =>
            go_wp2_with fail
            refine (AP.out _ hw).mono ?_
            rintro e w37 ⟨rfl, hx⟩
            have hw := hw.trans hx
            clear hx
            go_wp2_with fail
            refine (wakes06_any _).mono ?_
            rintro e w38 ⟨rfl, hx⟩
            have hw := hw.trans hx
            clear hx
            go_wp2_with fail
            go_ret
            exact ⟨rfl, hw⟩
      | true =>
        go_wp2_with fail
        refine (CPQ.out _ hw).mono ?_
        rintro e w39 ⟨rfl, hx⟩
        have hw := hw.trans hx
        clear hx
        cases aq1 with
        | false =>
          go_wp2_with fail
          refine (AQ.out _ hw).mono ?_
          rintro e w40 ⟨rfl, hx⟩
          have hw := hw.trans hx
          clear hx
          cases mp with
          | false =>
            go_wp2_with fail
            refine (MP.out _ hw).mono ?_
            rintro e w41 ⟨rfl, hx⟩
            have hw := hw.trans hx
            clear hx
            go_wp2_with fail
            refine (wakes06_any _).mono ?_
            rintro e w42 ⟨rfl, hx⟩
            have hw := hw.trans hx
            clear hx
            go_wp2_with fail
            go_ret
            exact ⟨rfl, hw⟩
          | true =>
            go_wp2_with fail
            refine (MP.out _ hw).mono ?_
            rintro e w43 ⟨rfl, hx⟩
            have hw := hw.trans hx
            clear hx
            cases ap1 with
            | false =>
              go_wp2_with fail
              refine (AP.out _ hw).mono ?_
              rintro e w44 ⟨rfl, hx⟩
              have hw := hw.trans hx
              clear hx
              have hz := L3.out; simp at hz
            | true =>
              go_wp2_with fail
              refine (AP.out _ hw).mono ?_
              rintro e w45 ⟨rfl, hx⟩
              have hw := hw.trans hx
              clear hx
              go_wp2_with fail
              refine (wakes06_any _).mono ?_
              rintro e w46 ⟨rfl, hx⟩
              have hw := hw.trans hx
              clear hx
              go_wp2_with fail
              go_ret
              exact ⟨rfl, hw⟩
        | true =>
          go_wp2_with fail
          refine (AQ.out _ hw).mono ?_
          rintro e w47 ⟨rfl, hx⟩
          have hw := hw.trans hx
          clear hx
          go_wp2_with fail
          refine (OPQ.out _ hw).mono ?_
          rintro e w48 ⟨rfl, hx⟩
          have hw := hw.trans hx
          clear hx
          cases mp with
          | false =>
            go_wp2_with fail
            refine (MP.out _ hw).mono ?_
            rintro e w49 ⟨rfl, hx⟩
            have hw := hw.trans hx
            clear hx
            go_wp2_with fail
            refine (wakes06_any _).mono ?_
            rintro e w50 ⟨rfl, hx⟩
            have hw := hw.trans hx
            clear hx
            go_wp2_with fail
            go_ret
            exact ⟨rfl, hw⟩
          | true =>
            go_wp2_with fail
            refine (MP.out _ hw).mono ?_
            rintro e w51 ⟨rfl, hx⟩
            have hw := hw.trans hx
            clear hx
            cases ap1 with
            | false =>
              go_wp2_with fail
              refine (AP.out _ hw).mono ?_
              rintro e w52 ⟨rfl, hx⟩
              have hw := hw.trans hx
              clear hx
              have hz := L3.out; simp at hz
            | true =>
              go_wp2_with fail
              refine (AP.out _ hw).mono ?_
              rintro e w53 ⟨rfl, hx⟩
              have hw := hw.trans hx
              clear hx
              go_wp2_with fail
              refine (wakes06_any _).mono ?_
              rintro e w54 ⟨rfl, hx⟩
              have hw := hw.trans hx
              clear hx
              go_wp2_with fail
              go_ret
              exact ⟨rfl, hw⟩
    | true =>
      go_wp2_with fail
      refine (CRQ.out _ hw).mono ?_
      rintro e w55 ⟨rfl, hx⟩
      have hw := hw.trans hx
      clear hx
      cases opr with
      | false =>
        have hz := L1.out; simp at hz
      | true =>
        go_wp2_with fail
        refine (OPR.out _ hw).mono ?_
        rintro e w56 ⟨rfl, hx⟩
        have hw := hw.trans hx
        clear hx
        cases cpq with
        | false =>
          go_wp2_with fail
          refine (CPQ.out _ hw).mono ?_
          rintro e w57 ⟨rfl, hx⟩
          have hw := hw.trans hx
          clear hx
          cases mp with
          | false =>
            go_wp2_with fail
            refine (MP.out _ hw).mono ?_
            rintro e w58 ⟨rfl, hx⟩
            have hw := hw.trans hx
            clear hx
            go_wp2_with fail
            refine (wakes06_any _).mono ?_
            rintro e w59 ⟨rfl, hx⟩
            have hw := hw.trans hx
            clear hx
            go_wp2_with fail
            go_ret
            exact ⟨rfl, hw⟩
          | true =>
            go_wp2_with fail
            refine (MP.out _ hw).mono ?_
            rintro e w60 ⟨rfl, hx⟩
            have hw := hw.trans hx
            clear hx
            cases ap1 with
            | false =>
              go_wp2_with fail
              refine (AP.out _ hw).mono ?_
              rintro e w61 ⟨rfl, hx⟩
              have hw := hw.trans hx
              clear hx
              have hz := L3.out; simp at hz
            | true =>
              go_wp2_with fail
              refine (AP.out _ hw).mono ?_
              rintro e w62 ⟨rfl, hx⟩
              have hw := hw.trans hx
              clear hx
              go_wp2_with fail
              refine (wakes06_any _).mono ?_
              rintro e w63 ⟨rfl, hx⟩
              have hw := hw.trans hx
              clear hx
              go_wp2_with fail
              go_ret
              exact ⟨rfl, hw⟩
        | true =>
          go_wp2_with fail
          refine (CPQ.out _ hw).mono ?_
          rintro e w64 ⟨rfl, hx⟩
          have hw := hw.trans hx
          clear hx
          cases aq1 with
          | false =>
            go_wp2_with fail
            refine (AQ.out _ hw).mono ?_
            rintro e w65 ⟨rfl, hx⟩
            have hw := hw.trans hx
            clear hx
            cases mp with
            | false =>
              go_wp2_with fail
              refine (MP.out _ hw).mono ?_
              rintro e w66 ⟨rfl, hx⟩
              have hw := hw.trans hx
              clear hx
              go_wp2_with fail
              refine (wakes06_any _).mono ?_
              rintro e w67 ⟨rfl, hx⟩
              have hw := hw.trans hx
              clear hx
              go_wp2_with fail
              go_ret
              exact ⟨rfl, hw⟩
            | true =>
              go_wp2_with fail
              refine (MP.out _ hw).mono ?_
              rintro e w68 ⟨rfl, hx⟩
              have hw := hw.trans hx
              clear hx
              cases ap1 with
              | false =>
                go_wp2_with fail
                refine (AP.out _ hw).mono ?_
                rintro e w69 ⟨rfl, hx⟩
                have hw := hw.trans hx
                clear hx
                have hz := L3.out; simp at hz
              | true =>
                go_wp2_with fail
                refine (AP.out _ hw).mono ?_
                rintro e w70 ⟨rfl, hx⟩
                have hw := hw.trans hx
                clear hx
                go_wp2_with fail
                refine (wakes06_any _).mono ?_
                rintro e w71 ⟨rfl, hx⟩
                have hw := hw.trans hx
                clear hx
                go_wp2_with fail
                go_ret
                exact ⟨rfl, hw⟩
          | true =>
            go_wp2_with fail
            refine (AQ.out _ hw).mono ?_
            rintro e w72 ⟨rfl, hx⟩
            have hw := hw.trans hx
            clear hx
            go_wp2_with fail
            refine (OPQ.out _ hw).mono ?_
            rintro e w73 ⟨rfl, hx⟩
            have hw := hw.trans hx
            clear hx
            cases mp with
            | false =>
              go_wp2_with fail
              refine (MP.out _ hw).mono ?_
              rintro e w74 ⟨rfl, hx⟩
              have hw := hw.trans hx
              clear hx
              go_wp2_with fail
              refine (wakes06_any _).mono ?_
              rintro e w75 ⟨rfl, hx⟩
              have hw := hw.trans hx
              clear hx
              go_wp2_with fail
              go_ret
              exact ⟨rfl, hw⟩
            | true =>
              go_wp2_with fail
              refine (MP.out _ hw).mono ?_
              rintro e w76 ⟨rfl, hx⟩
              have hw := hw.trans hx
              clear hx
              cases ap1 with
              | false =>
                go_wp2_with fail
                refine (AP.out _ hw).mono ?_
                rintro e w77 ⟨rfl, hx⟩
                have hw := hw.trans hx
                clear hx
                have hz := L3.out; simp at hz
              | true =>
                go_wp2_with fail
                refine (AP.out _ hw).mono ?_
                rintro e w78 ⟨rfl, hx⟩
                have hw := hw.trans hx
                clear hx
                go_wp2_with fail
                refine (wakes06_any _).mono ?_
                rintro e w79 ⟨rfl, hx⟩
                have hw := hw.trans hx
                clear hx
                go_wp2_with fail
                go_ret
                exact ⟨rfl, hw⟩
end Go.Proofs.Ytkefppdacigbmaa
