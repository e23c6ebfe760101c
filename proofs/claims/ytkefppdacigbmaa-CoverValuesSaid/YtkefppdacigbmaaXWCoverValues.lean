/- CoverValues, walked. (Printed by a program.) -/
import Derived.Test.YtkefppdacigbmaaP18
import Derived.Test.YtkefppdacigbmaaP23
import Derived.Test.YtkefppdacigbmaaP20
namespace Go.Proofs.Ytkefppdacigbmaa
open Go.RowKit

theorem asked_ok {w : World} {vp : Value} {p : List C} (name : List UInt8) (hp : PredR w vp p) (hok : ∀ c ∈ p, okC c) {r : Rg} (hr : askedF p name = r) {n : Int} (hn : (if mayP p then (0 : Int) else 30) = n) :
    Calls Try.prog 30 #[vp, .string (strOf name)] w fun e w' => ∃ a1 a2 a3 a4 a5 a6, e = .returned (.tuple #[.agg #[.slice a1 r.i.length a2, .slice a3 r.s.length a4, .slice a5 r.b.length a6, .bool r.odd], .int .i64 n]) ∧ RgR w' (.agg #[.slice a1 r.i.length a2, .slice a3 r.s.length a4, .slice a5 r.b.length a6, .bool r.odd]) r ∧ Ext w w' := by
  refine (asked_any w vp p name hp hok).mono ?_
  rw [hr, hn]
  rintro e w' ⟨v, rfl, hv, hx⟩
  obtain ⟨a1, c1, a2, c2, a3, c3, rfl, _, _, _⟩ := hv.ex
  exact ⟨a1, c1, a2, c2, a3, c3, rfl, hv, hx⟩

set_option maxRecDepth 100000 in
set_option maxHeartbeats 16000000 in
theorem coverValues_bad (w : World) (ap aq : Option Addr) (cp cq : Nat) (p q : List C) (name : List UInt8) (v : V) (hp : PredR w (.slice ap p.length cp) p) (hq : PredR w (.slice aq q.length cq) q) (kp : ∀ c ∈ p, okC c) (kq : ∀ c ∈ q, okC c)
    (hm : mayP p = false ∨ mayP q = false) :
    Calls Try.prog 8 #[.slice ap p.length cp, .slice aq q.length cq, .string (strOf name), .agg #[.int .i64 v.k, .int .i64 v.n, .string (strOf v.s), .bool v.b]] w fun e w' => e = .returned (.bool true) ∧ Ext w w' := by
  have hn : ∃ n m : Int, (if mayP p then (0 : Int) else 30) = n ∧ (if mayP q then (0 : Int) else 30) = m ∧ ((n = 30) ∨ (n = 0 ∧ m = 30)) := by
    rcases hm with h | h
    · exact ⟨30, _, by rw [h]; rfl, rfl, .inl rfl⟩
    · cases h1 : mayP p with
      | true => exact ⟨0, 30, rfl, by rw [h]; rfl, .inr ⟨rfl, rfl⟩⟩
      | false => exact ⟨30, _, rfl, rfl, .inl rfl⟩
  obtain ⟨n, m, hn, hm', hc⟩ := hn
  have HP := Lib.hid hp
  have HQ := Lib.hid hq
  have HN := Lib.hid hn
  have HM := Lib.hid hm'
  clear hp hq hn hm' hm
  generalize hr : askedF p name = r
  generalize hs : askedF q name = s
  have HR := Lib.hid hr
  have HS := Lib.hid hs
  clear hr hs
  rcases hc with rfl | ⟨rfl, rfl⟩
  · have hw := Ext.refl w
    go_enter Try.func8, Try.ntmps8
    obtain ⟨hx1, hv⟩ := boxes1 w (.cells #[.int .i64 v.k, .int .i64 v.n, .string (strOf v.s), .bool v.b] 28)
    have hw := hw.trans hx1
    have HP := Lib.hid (HP.out.ext hx1)
    have HQ := Lib.hid (HQ.out.ext hx1)
    clear hx1
    have Hv := Lib.hid hv
    clear hv
    go_wp2_with fail
    generalize w.alloc (.cells #[.int .i64 v.k, .int .i64 v.n, .string (strOf v.s), .bool v.b] 28) = w1 at *
    generalize w.heap.size = bv at *
    have hof := Lib.hid (asked_ok name HP.out kp HR.out HN.out)
    refine (hof.out).mono ?_
    rintro e w2 ⟨a1, a2, a3, a4, a5, a6, rfl, _, hx2⟩
    have hw := hw.trans hx2
    have Hv := Lib.hid (block_later Hv.out hx2)
    have HP := Lib.hid (HP.out.ext hx2)
    have HQ := Lib.hid (HQ.out.ext hx2)
    clear hx2
    clear hof
    obtain ⟨hx3, hr⟩ := boxes1 w2 (.cells #[.slice a1 r.i.length a2, .slice a3 r.s.length a4, .slice a5 r.b.length a6, .bool r.odd] 57)
    have hw := hw.trans hx3
    have Hv := Lib.hid (block_later Hv.out hx3)
    have HP := Lib.hid (HP.out.ext hx3)
    have HQ := Lib.hid (HQ.out.ext hx3)
    clear hx3
    have Hr := Lib.hid hr
    clear hr
    go_wp2_with fail
    generalize w2.alloc (.cells #[.slice a1 r.i.length a2, .slice a3 r.s.length a4, .slice a5 r.b.length a6, .bool r.odd] 57) = w3 at *
    generalize w2.heap.size = br at *
    have hof := Lib.hid (asked_ok name HQ.out kq HS.out HM.out)
    refine (hof.out).mono ?_
    rintro e w4 ⟨b1, b2, b3, b4, b5, b6, rfl, _, hx4⟩
    have hw := hw.trans hx4
    have Hv := Lib.hid (block_later Hv.out hx4)
    have Hr := Lib.hid (block_later Hr.out hx4)
    have HP := Lib.hid (HP.out.ext hx4)
    have HQ := Lib.hid (HQ.out.ext hx4)
    clear hx4
    clear hof
    obtain ⟨hx5, hs⟩ := boxes1 w4 (.cells #[.slice b1 s.i.length b2, .slice b3 s.s.length b4, .slice b5 s.b.length b6, .bool s.odd] 57)
    have hw := hw.trans hx5
    have Hv := Lib.hid (block_later Hv.out hx5)
    have Hr := Lib.hid (block_later Hr.out hx5)
    have HP := Lib.hid (HP.out.ext hx5)
    have HQ := Lib.hid (HQ.out.ext hx5)
    clear hx5
    have Hs := Lib.hid hs
    clear hs
    go_wp2_with fail
    generalize w4.alloc (.cells #[.slice b1 s.i.length b2, .slice b3 s.s.length b4, .slice b5 s.b.length b6, .bool s.odd] 57) = w5 at *
    generalize w4.heap.size = bs at *
    refine (wakes05_any w5).mono ?_
    rintro e w6 ⟨rfl, hx6⟩
    have hw := hw.trans hx6
    have Hv := Lib.hid (block_later Hv.out hx6)
    have Hr := Lib.hid (block_later Hr.out hx6)
    have Hs := Lib.hid (block_later Hs.out hx6)
    have HP := Lib.hid (HP.out.ext hx6)
    have HQ := Lib.hid (HQ.out.ext hx6)
    clear hx6
    go_wp2_with fail
    go_ret
    exact ⟨rfl, hw⟩
  · have hw := Ext.refl w
    go_enter Try.func8, Try.ntmps8
    obtain ⟨hx1, hv⟩ := boxes1 w (.cells #[.int .i64 v.k, .int .i64 v.n, .string (strOf v.s), .bool v.b] 28)
    have hw := hw.trans hx1
    have HP := Lib.hid (HP.out.ext hx1)
    have HQ := Lib.hid (HQ.out.ext hx1)
    clear hx1
    have Hv := Lib.hid hv
    clear hv
    go_wp2_with fail
    generalize w.alloc (.cells #[.int .i64 v.k, .int .i64 v.n, .string (strOf v.s), .bool v.b] 28) = w1 at *
    generalize w.heap.size = bv at *
    have hof := Lib.hid (asked_ok name HP.out kp HR.out HN.out)
    refine (hof.out).mono ?_
    rintro e w2 ⟨a1, a2, a3, a4, a5, a6, rfl, _, hx2⟩
    have hw := hw.trans hx2
    have Hv := Lib.hid (block_later Hv.out hx2)
    have HP := Lib.hid (HP.out.ext hx2)
    have HQ := Lib.hid (HQ.out.ext hx2)
    clear hx2
    clear hof
    obtain ⟨hx3, hr⟩ := boxes1 w2 (.cells #[.slice a1 r.i.length a2, .slice a3 r.s.length a4, .slice a5 r.b.length a6, .bool r.odd] 57)
    have hw := hw.trans hx3
    have Hv := Lib.hid (block_later Hv.out hx3)
    have HP := Lib.hid (HP.out.ext hx3)
    have HQ := Lib.hid (HQ.out.ext hx3)
    clear hx3
    have Hr := Lib.hid hr
    clear hr
    go_wp2_with fail
    generalize w2.alloc (.cells #[.slice a1 r.i.length a2, .slice a3 r.s.length a4, .slice a5 r.b.length a6, .bool r.odd] 57) = w3 at *
    generalize w2.heap.size = br at *
    have hof := Lib.hid (asked_ok name HQ.out kq HS.out HM.out)
    refine (hof.out).mono ?_
    rintro e w4 ⟨b1, b2, b3, b4, b5, b6, rfl, _, hx4⟩
    have hw := hw.trans hx4
    have Hv := Lib.hid (block_later Hv.out hx4)
    have Hr := Lib.hid (block_later Hr.out hx4)
    have HP := Lib.hid (HP.out.ext hx4)
    have HQ := Lib.hid (HQ.out.ext hx4)
    clear hx4
    clear hof
    obtain ⟨hx5, hs⟩ := boxes1 w4 (.cells #[.slice b1 s.i.length b2, .slice b3 s.s.length b4, .slice b5 s.b.length b6, .bool s.odd] 57)
    have hw := hw.trans hx5
    have Hv := Lib.hid (block_later Hv.out hx5)
    have Hr := Lib.hid (block_later Hr.out hx5)
    have HP := Lib.hid (HP.out.ext hx5)
    have HQ := Lib.hid (HQ.out.ext hx5)
    clear hx5
    have Hs := Lib.hid hs
    clear hs
    go_wp2_with fail
    generalize w4.alloc (.cells #[.slice b1 s.i.length b2, .slice b3 s.s.length b4, .slice b5 s.b.length b6, .bool s.odd] 57) = w5 at *
    generalize w4.heap.size = bs at *
    refine (wakes05_any w5).mono ?_
    rintro e w6 ⟨rfl, hx6⟩
    have hw := hw.trans hx6
    have Hv := Lib.hid (block_later Hv.out hx6)
    have Hr := Lib.hid (block_later Hr.out hx6)
    have Hs := Lib.hid (block_later Hs.out hx6)
    have HP := Lib.hid (HP.out.ext hx6)
    have HQ := Lib.hid (HQ.out.ext hx6)
    clear hx6
    go_wp2_with fail
    go_ret
    exact ⟨rfl, hw⟩


set_option maxRecDepth 100000 in
set_option maxHeartbeats 64000000 in
theorem coverValues_yes (w : World) (ap aq : Option Addr) (cp cq : Nat) (p q : List C) (name : List UInt8) (v : V) (hp : PredR w (.slice ap p.length cp) p) (hq : PredR w (.slice aq q.length cq) q) (kp : ∀ c ∈ p, okC c) (kq : ∀ c ∈ q, okC c)
    (hmp : mayP p = true) (hmq : mayP q = true) (hvn : okN v.n) (hvs : v.s.length ≤ 140737488355328) :
    Calls Try.prog 8 #[.slice ap p.length cp, .slice aq q.length cq, .string (strOf name), .agg #[.int .i64 v.k, .int .i64 v.n, .string (strOf v.s), .bool v.b]] w fun e w' => e = .returned (.bool true) ∧ Ext w w' := by
  have hn : (if mayP p then (0 : Int) else 30) = 0 := by rw [hmp]; rfl
  have hm' : (if mayP q then (0 : Int) else 30) = 0 := by rw [hmq]; rfl
  have g1 := good_asked p name
  have g2 := good_asked q name
  have f1 := few_asked p name
  have f2 := few_asked q name
  have s1 := short_asked p name
  have s2 := short_asked q name
  generalize hr : askedF p name = r at *
  generalize hs : askedF q name = s at *
  have gm := g1.and g2
  have gl := g1.minus g2
  have sm := s1.and s2
  have sl := s1.minus s2
  have V1 := values_law g1 g2
  have V2 := values_some g1 g2
  have X1 := some_short gl sl
  have X2 := some_short gm sm
  have rm := f1.1.and f2.1.full
  have fm := Few.and f1.1 f2.1.full f1.2 f2.2
  have rl := f1.1.minus f2.1.full
  have fl := Few.minus f1.1 f2.1.full f1.2 f2.2
  have rms := rm.and f2.1.full
  have fms := Few.and rm f2.1.full fm f2.2
  have rbk := rms.minus rl.full
  have fbk := Few.minus rms rl.full fms fl
  have HAnd := Lib.hid (fun W v1 v2 (h1 : RgR W v1 r) (h2 : RgR W v2 s) => andR_any W v1 v2 r s h1 h2 f1.1 f2.1.full (f1.2.mono (by omega)) (f2.2.mono (by omega)))
  have HMin := Lib.hid (fun W v1 v2 (h1 : RgR W v1 r) (h2 : RgR W v2 s) => minusR_any W v1 v2 r s h1 h2 f1.1 f2.1.full (f1.2.mono (by omega)) (f2.2.mono (by omega)))
  have HWrs := Lib.hid (fun W v1 v2 (h1 : RgR W v1 r) (h2 : RgR W v2 s) => within_any W v1 v2 r s h1 h2 f1.1 f2.1.full (f1.2.mono (by omega)) (f2.2.mono (by omega)))
  have HWmr := Lib.hid (fun W v1 v2 (h1 : RgR W v1 (r.and s)) (h2 : RgR W v2 r) => within_any W v1 v2 _ _ h1 h2 rm f1.1.full (fm.mono (by omega)) (f1.2.mono (by omega)))
  have HWms := Lib.hid (fun W v1 v2 (h1 : RgR W v1 (r.and s)) (h2 : RgR W v2 s) => within_any W v1 v2 _ _ h1 h2 rm f2.1.full (fm.mono (by omega)) (f2.2.mono (by omega)))
  have HWlr := Lib.hid (fun W v1 v2 (h1 : RgR W v1 (r.minus s)) (h2 : RgR W v2 r) => within_any W v1 v2 _ _ h1 h2 rl f1.1.full (fl.mono (by omega)) (f1.2.mono (by omega)))
  have HAls := Lib.hid (fun W v1 v2 (h1 : RgR W v1 (r.minus s)) (h2 : RgR W v2 s) => andR_any W v1 v2 _ _ h1 h2 rl f2.1.full (fl.mono (by omega)) (f2.2.mono (by omega)))
  have HAms := Lib.hid (fun W v1 v2 (h1 : RgR W v1 (r.and s)) (h2 : RgR W v2 s) => andR_any W v1 v2 _ _ h1 h2 rm f2.1.full (fm.mono (by omega)) (f2.2.mono (by omega)))
  have HMbk := Lib.hid (fun W v1 v2 (h1 : RgR W v1 ((r.and s).and s)) (h2 : RgR W v2 (r.minus s)) => minusR_any W v1 v2 _ _ h1 h2 rms rl.full (fms.mono (by omega)) (fl.mono (by omega)))
  have HWbm := Lib.hid (fun W v1 v2 (h1 : RgR W v1 (((r.and s).and s).minus (r.minus s))) (h2 : RgR W v2 (r.and s)) => within_any W v1 v2 _ _ h1 h2 rbk rm.full (fbk.mono (by omega)) (fm.mono (by omega)))
  have HWmb := Lib.hid (fun W v1 v2 (h1 : RgR W v1 (r.and s)) (h2 : RgR W v2 (((r.and s).and s).minus (r.minus s))) => within_any W v1 v2 _ _ h1 h2 rm rbk.full (fm.mono (by omega)) (fbk.mono (by omega)))
  have HWra := Lib.hid (fun W v1 v2 (h1 : RgR W v1 r) (h2 : RgR W v2 allR) => within_any W v1 v2 _ _ h1 h2 f1.1 rises_all.full (f1.2.mono (by omega)) (few_all.mono (by omega)))
  have HMra := Lib.hid (fun W v1 v2 (h1 : RgR W v1 r) (h2 : RgR W v2 allR) => minusR_any W v1 v2 _ _ h1 h2 f1.1 rises_all.full (f1.2.mono (by omega)) (few_all.mono (by omega)))
  have HSl := Lib.hid (fun W v1 (h1 : RgR W v1 (r.minus s)) => some_any W v1 _ h1 gl)
  have HSm := Lib.hid (fun W v1 (h1 : RgR W v1 (r.and s)) => some_any W v1 _ h1 gm)
  have hm_has := has_and r s v
  have hl_has := has_minus r s v
  have hE : r.within s = (r.minus s).empty := rfl
  rw [hE] at HWrs
  rw [V1.1.1] at HWmr
  rw [V1.1.2.1] at HWms
  rw [V1.1.2.2.1] at HWlr
  rw [V1.2.1] at HWbm
  rw [V1.2.2.1] at HWmb
  rw [V1.2.2.2.1] at HWra
  have hEn := V1.1.2.2.2
  have hEa := V1.2.2.2.2
  have hx2 := V2.1
  have hxe := V2.2.1
  have hy2 := V2.2.2.1
  have hye := V2.2.2.2
  have HP := Lib.hid hp
  have HQ := Lib.hid hq
  have HN := Lib.hid hn
  have HM := Lib.hid hm'
  have HR := Lib.hid hr
  have HS := Lib.hid hs
  clear hp hq hn hm' hr hs hmp hmq g1 g2 f1 f2 s1 s2 sm sl V1 V2 rm fm rl fl rms fms rbk fbk hE
  generalize r.minus allR = ra at *
  generalize (r.minus s).and s = n0 at *
  generalize ((r.and s).and s).minus (r.minus s) = bk at *
  generalize (r.and s).and s = ms at *
  generalize r.and s = m at *
  generalize r.minus s = l at *
  generalize hA : r.has v = A at *
  generalize hB : s.has v = B at *
  generalize hEe : l.empty = E at *
  generalize hFe : m.empty = F at *
  generalize hsl : someR l = sl at *
  generalize hsm : someR m = sm' at *
  obtain ⟨⟨xk, xn, xs, xb⟩, xi⟩ := sl
  obtain ⟨⟨yk, yn, ys, yb⟩, yi⟩ := sm'
  simp only at hx2 hxe hy2 hye X1 X2
  subst hx2 hy2
  have HGl := Lib.hid gl
  have HGm := Lib.hid gm
  have HXl := Lib.hid hsl
  have HYm := Lib.hid hsm
  have Hxn : RowKit.Hid (okN (V.mk xk xn xs xb).n) := Lib.hid ⟨X1.2.1, X1.2.2⟩
  have Hxs : RowKit.Hid ((V.mk xk xn xs xb).s.length ≤ 140737488355328) := Lib.hid (Nat.le_trans X1.1 (by decide))
  have Hyn : RowKit.Hid (okN (V.mk yk yn ys yb).n) := Lib.hid ⟨X2.2.1, X2.2.2⟩
  have Hys : RowKit.Hid ((V.mk yk yn ys yb).s.length ≤ 140737488355328) := Lib.hid (Nat.le_trans X2.1 (by decide))
  have HEH := Lib.hid hEe
  have HFH := Lib.hid hFe
  have HMH := Lib.hid hm_has
  have HLH := Lib.hid hl_has
  have HAH := Lib.hid hA
  have HBH := Lib.hid hB
  have HEn := Lib.hid hEn
  have HEa := Lib.hid hEa
  replace hxe := Lib.hid hxe
  replace hye := Lib.hid hye
  have HVn := Lib.hid hvn
  have HVs := Lib.hid hvs
  clear X1 X2 hsl hsm gl gm hEe hFe hm_has hl_has hA hB hEn hEa hvn hvs
  have hw := Ext.refl w
  go_enter Try.func8, Try.ntmps8
  obtain ⟨hx1, hv⟩ := boxes1 w (.cells #[.int .i64 v.k, .int .i64 v.n, .string (strOf v.s), .bool v.b] 28)
  have hw := hw.trans hx1
  have HP := Lib.hid (HP.out.ext hx1)
  have HQ := Lib.hid (HQ.out.ext hx1)
  clear hx1
  have Hv := Lib.hid hv
  clear hv
  go_wp2_with fail
  generalize w.alloc (.cells #[.int .i64 v.k, .int .i64 v.n, .string (strOf v.s), .bool v.b] 28) = w1 at *
  generalize w.heap.size = bv at *
  have hof := Lib.hid (asked_ok name HP.out kp HR.out HN.out)
  refine (hof.out).mono ?_
  rintro e w2 ⟨a1, a2, a3, a4, a5, a6, rfl, hrr, hx2⟩
  have hw := hw.trans hx2
  have Hv := Lib.hid (block_later Hv.out hx2)
  have HP := Lib.hid (HP.out.ext hx2)
  have HQ := Lib.hid (HQ.out.ext hx2)
  clear hx2
  have HRR := Lib.hid hrr
  clear hrr
  clear hof
  clear HP
  obtain ⟨hx3, hr⟩ := boxes1 w2 (.cells #[.slice a1 r.i.length a2, .slice a3 r.s.length a4, .slice a5 r.b.length a6, .bool r.odd] 57)
  have hw := hw.trans hx3
  have Hv := Lib.hid (block_later Hv.out hx3)
  have HQ := Lib.hid (HQ.out.ext hx3)
  have HRR := Lib.hid (HRR.out.ext hx3)
  clear hx3
  have Hr := Lib.hid hr
  clear hr
  go_wp2_with fail
  generalize w2.alloc (.cells #[.slice a1 r.i.length a2, .slice a3 r.s.length a4, .slice a5 r.b.length a6, .bool r.odd] 57) = w3 at *
  generalize w2.heap.size = br at *
  have hof := Lib.hid (asked_ok name HQ.out kq HS.out HM.out)
  refine (hof.out).mono ?_
  rintro e w4 ⟨b1, b2, b3, b4, b5, b6, rfl, hrs, hx4⟩
  have hw := hw.trans hx4
  have Hv := Lib.hid (block_later Hv.out hx4)
  have Hr := Lib.hid (block_later Hr.out hx4)
  have HQ := Lib.hid (HQ.out.ext hx4)
  have HRR := Lib.hid (HRR.out.ext hx4)
  clear hx4
  have HRS := Lib.hid hrs
  clear hrs
  clear hof HR HS HN HM kp kq
  clear HQ
  obtain ⟨hx5, hs⟩ := boxes1 w4 (.cells #[.slice b1 s.i.length b2, .slice b3 s.s.length b4, .slice b5 s.b.length b6, .bool s.odd] 57)
  have hw := hw.trans hx5
  have Hv := Lib.hid (block_later Hv.out hx5)
  have Hr := Lib.hid (block_later Hr.out hx5)
  have HRR := Lib.hid (HRR.out.ext hx5)
  have HRS := Lib.hid (HRS.out.ext hx5)
  clear hx5
  have Hs := Lib.hid hs
  clear hs
  go_upto_region 5 with fail
  generalize w4.alloc (.cells #[.slice b1 s.i.length b2, .slice b3 s.s.length b4, .slice b5 s.b.length b6, .bool s.odd] 57) = w5 at *
  generalize w4.heap.size = bs at *
  refine wp_region_boxesV 8 [6, 7] [Fact.eq (.agg #[.slice a1 r.i.length a2, .slice a3 r.s.length a4, .slice a5 r.b.length a6, .bool r.odd]),
      Fact.eq (.agg #[.slice b1 s.i.length b2, .slice b3 s.s.length b4, .slice b5 s.b.length b6, .bool s.odd]),
      Fact.rg m,
      Fact.eq (.agg #[.slice a1 r.i.length a2, .slice a3 r.s.length a4, .slice a5 r.b.length a6, .bool r.odd]),
      Fact.eq (.agg #[.slice b1 s.i.length b2, .slice b3 s.s.length b4, .slice b5 s.b.length b6, .bool s.odd]),
      Fact.rg l,
      Fact.box w5.heap.size z57 57,
      Fact.box w5.heap.size z57 57]
    [[], [], [(0, 40), (1, 41)], [], [], [(3, 43), (4, 44)], [], []]
    [(0, 40), (1, 41), (2, 42), (3, 43), (4, 44), (5, 45), (6, 13), (7, 14)] (by kernel_rfl) (by kernel_rfl) (by kernel_rfl) ?_ ?_ ?_ ?_
  · refine ⟨?_, ?_, ?_, ?_, ?_, ?_, ?_, ?_, trivial⟩
    · intro w1 hx1; change wpList _ _ _ _ _ _; have m0 := cell_of_row _ _ 0 _ _ _ (block_later Hr.out hx1); have m1 := cell_of_row _ _ 1 _ _ _ (block_later Hr.out hx1); have m2 := cell_of_row _ _ 2 _ _ _ (block_later Hr.out hx1); have m3 := cell_of_row _ _ 3 _ _ _ (block_later Hr.out hx1); go_wp2_with fail; exact ⟨rfl, Ext.refl _, rfl, rfl⟩
    · intro w1 hx1; change wpList _ _ _ _ _ _; have m0 := cell_of_row _ _ 0 _ _ _ (block_later Hs.out hx1); have m1 := cell_of_row _ _ 1 _ _ _ (block_later Hs.out hx1); have m2 := cell_of_row _ _ 2 _ _ _ (block_later Hs.out hx1); have m3 := cell_of_row _ _ 3 _ _ _ (block_later Hs.out hx1); go_wp2_with fail; exact ⟨rfl, Ext.refl _, rfl, rfl⟩
    · intro w1 hx1; rintro _ rfl; rintro _ rfl; change wpList _ _ _ _ _ _; go_wp2_with fail; refine (HAnd.out w1 _ _ (HRR.out.ext hx1) (HRS.out.ext hx1)).mono ?_; rintro e w2 ⟨va, rfl, hA2, hx2⟩; go_wp2_with fail; exact ⟨rfl, hx2, rfl, hA2⟩
    · intro w1 hx1; change wpList _ _ _ _ _ _; have m0 := cell_of_row _ _ 0 _ _ _ (block_later Hr.out hx1); have m1 := cell_of_row _ _ 1 _ _ _ (block_later Hr.out hx1); have m2 := cell_of_row _ _ 2 _ _ _ (block_later Hr.out hx1); have m3 := cell_of_row _ _ 3 _ _ _ (block_later Hr.out hx1); go_wp2_with fail; exact ⟨rfl, Ext.refl _, rfl, rfl⟩
    · intro w1 hx1; change wpList _ _ _ _ _ _; have m0 := cell_of_row _ _ 0 _ _ _ (block_later Hs.out hx1); have m1 := cell_of_row _ _ 1 _ _ _ (block_later Hs.out hx1); have m2 := cell_of_row _ _ 2 _ _ _ (block_later Hs.out hx1); have m3 := cell_of_row _ _ 3 _ _ _ (block_later Hs.out hx1); go_wp2_with fail; exact ⟨rfl, Ext.refl _, rfl, rfl⟩
    · intro w1 hx1; rintro _ rfl; rintro _ rfl; change wpList _ _ _ _ _ _; go_wp2_with fail; refine (HMin.out w1 _ _ (HRR.out.ext hx1) (HRS.out.ext hx1)).mono ?_; rintro e w2 ⟨va, rfl, hA2, hx2⟩; go_wp2_with fail; exact ⟨rfl, hx2, rfl, hA2⟩
    · intro w1 hx1; change wpList _ _ _ _ _ _; go_wp2_with fail; exact ⟨rfl, (Ext.refl _).alloc _, rfl, _, rfl, hx1.size, (boxes1 w1 _).2⟩
    · intro w1 hx1; change wpList _ _ _ _ _ _; go_wp2_with fail; exact ⟨rfl, (Ext.refl _).alloc _, rfl, _, rfl, hx1.size, (boxes1 w1 _).2⟩
  · intro i hi; simp only [List.mem_cons, List.not_mem_nil, or_false] at hi; rcases hi with rfl | rfl <;> exact ⟨_, _, _, rfl, rfl, ⟨_, rfl⟩, rfl, zero57, by decide⟩
  · intro i hi; simp only [List.mem_cons, List.not_mem_nil, or_false] at hi; rcases hi with rfl | rfl <;> rintro v w ⟨b, rfl, _, hb⟩ <;> exact ⟨b, rfl, (Array.getElem?_eq_some_iff.1 hb).1⟩
  · intro w1 hx1; rintro _ rfl; rintro _ rfl; intro v42 h42; rintro _ rfl; rintro _ rfl; intro v45 h45; intro v13 h13; intro v14 h14; refine depsThenV_nil ?_; intro hap; have hne_13_14 : v13 ≠ v14 := hap (6, v13) (by simp) (7, v14) (by simp) (by show (6 : Nat) ∈ [6, 7]; decide) (by show (7 : Nat) ∈ [6, 7]; decide) (by show (6 : Nat) ≠ 7; decide); clear hap; dsimp only; simp only [Act.put, List.setIfInBounds_toArray, List.set_cons_zero, List.set_cons_succ, List.drop_succ_cons, List.drop_zero]
    replace h42 : (Fact.rg m).p v42 w1 := h42
    replace h45 : (Fact.rg l).p v45 w1 := h45
    replace h13 : (Fact.box w5.heap.size z57 57).p v13 w1 := h13
    replace h14 : (Fact.box w5.heap.size z57 57).p v14 w1 := h14
    have hrm : RgR w1 v42 m := h42
    have hrl : RgR w1 v45 l := h45
    clear h42 h45
    obtain ⟨c1, c2, c3, c4, c5, c6, rfl, _, _, _⟩ := hrm.ex
    obtain ⟨d1, d2, d3, d4, d5, d6, rfl, _, _, _⟩ := hrl.ex
    obtain ⟨bm, rfl, hbm, hb13⟩ := h13
    obtain ⟨bl, rfl, hbl, hb14⟩ := h14
    have hne : bm ≠ bl := fun e => hne_13_14 (by rw [e])
    clear hne_13_14
    obtain ⟨hxf, e13, e14, e14b, hrm2, hrl2⟩ := two_filled (cm := #[.slice c1 m.i.length c2, .slice c3 m.s.length c4, .slice c5 m.b.length c6, .bool m.odd]) (cl := #[.slice d1 l.i.length d2, .slice d3 l.s.length d4, .slice d5 l.b.length d6, .bool l.odd]) hx1 hbm hbl hne hb13 hb14 hrm hrl
    have H13 := Lib.hid hb13
    have H14 := Lib.hid e14b
    have Hm := Lib.hid e13
    have Hl := Lib.hid e14
    clear hb13 hb14 e13 e14 e14b hrm hrl hx1 hbm hbl hne
    go_upto_region 6 with (first | (refine wpList_store_whole 57 (.tmp 13) (.tmp 42) rfl rfl bm rfl #[.slice c1 m.i.length c2, .slice c3 m.s.length c4, .slice c5 m.b.length c6, .bool m.odd] rfl _ 57 H13.out rfl info57s (by simp [Value.oneCell']) ?_) | (refine wpList_store_whole 57 (.tmp 14) (.tmp 45) rfl rfl bl rfl #[.slice d1 l.i.length d2, .slice d3 l.s.length d4, .slice d5 l.b.length d6, .bool l.odd] rfl _ 57 H14.out rfl info57s (by simp [Value.oneCell']) ?_))
    clear H13 H14
    generalize (w1.setRow bm #[.slice c1 m.i.length c2, .slice c3 m.s.length c4, .slice c5 m.b.length c6, .bool m.odd]).setRow bl #[.slice d1 l.i.length d2, .slice d3 l.s.length d4, .slice d5 l.b.length d6, .bool l.odd] = w6 at *
    have hw := hw.trans hxf
    have Hv := Lib.hid (block_later Hv.out hxf)
    have Hr := Lib.hid (block_later Hr.out hxf)
    have Hs := Lib.hid (block_later Hs.out hxf)
    have HRR := Lib.hid (HRR.out.ext hxf)
    have HRS := Lib.hid (HRS.out.ext hxf)
    clear hxf
    have HRM := Lib.hid hrm2
    have HRL := Lib.hid hrl2
    clear hrm2 hrl2
    refine wp_region_facts [Fact.eq (.agg #[.slice c1 m.i.length c2, .slice c3 m.s.length c4, .slice c5 m.b.length c6, .bool m.odd]),
        Fact.eq (.agg #[.int .i64 v.k, .int .i64 v.n, .string (strOf v.s), .bool v.b]),
        Fact.eq (.bool (A && B)),
        Fact.eq (.agg #[.slice a1 r.i.length a2, .slice a3 r.s.length a4, .slice a5 r.b.length a6, .bool r.odd]),
        Fact.eq (.agg #[.int .i64 v.k, .int .i64 v.n, .string (strOf v.s), .bool v.b]),
        Fact.eq (.bool A),
        Fact.eq (.bool A),
        Fact.eq (bif A then .agg #[.slice b1 s.i.length b2, .slice b3 s.s.length b4, .slice b5 s.b.length b6, .bool s.odd] else undef),
        Fact.eq (bif A then .agg #[.int .i64 v.k, .int .i64 v.n, .string (strOf v.s), .bool v.b] else undef),
        Fact.eq (bif A then .bool B else undef),
        Fact.eq (.bool (A && B)),
        Fact.eq (.bool false),
        Fact.eq (.bool false),
        Fact.eq (.agg #[.slice d1 l.i.length d2, .slice d3 l.s.length d4, .slice d5 l.b.length d6, .bool l.odd]),
        Fact.eq (.agg #[.int .i64 v.k, .int .i64 v.n, .string (strOf v.s), .bool v.b]),
        Fact.eq (.bool (A && !B)),
        Fact.eq (.agg #[.slice a1 r.i.length a2, .slice a3 r.s.length a4, .slice a5 r.b.length a6, .bool r.odd]),
        Fact.eq (.agg #[.int .i64 v.k, .int .i64 v.n, .string (strOf v.s), .bool v.b]),
        Fact.eq (.bool A),
        Fact.eq (.bool A),
        Fact.eq (bif A then .agg #[.slice b1 s.i.length b2, .slice b3 s.s.length b4, .slice b5 s.b.length b6, .bool s.odd] else undef),
        Fact.eq (bif A then .agg #[.int .i64 v.k, .int .i64 v.n, .string (strOf v.s), .bool v.b] else undef),
        Fact.eq (bif A then .bool B else undef),
        Fact.eq (bif A then .bool (!B) else undef),
        Fact.eq (.bool (A && !B)),
        Fact.eq (.bool false),
        Fact.eq (.bool false),
        Fact.eq (.bool false),
        Fact.eq (.agg #[.slice a1 r.i.length a2, .slice a3 r.s.length a4, .slice a5 r.b.length a6, .bool r.odd]),
        Fact.eq (.agg #[.slice b1 s.i.length b2, .slice b3 s.s.length b4, .slice b5 s.b.length b6, .bool s.odd]),
        Fact.eq (.bool E),
        Fact.eq (.agg #[.slice d1 l.i.length d2, .slice d3 l.s.length d4, .slice d5 l.b.length d6, .bool l.odd]),
        Fact.eq (.bool E),
        Fact.eq (.bool false),
        Fact.eq (.bool false),
        Fact.eq (.bool false),
        Fact.eq (.agg #[.slice c1 m.i.length c2, .slice c3 m.s.length c4, .slice c5 m.b.length c6, .bool m.odd]),
        Fact.eq (.agg #[.slice a1 r.i.length a2, .slice a3 r.s.length a4, .slice a5 r.b.length a6, .bool r.odd]),
        Fact.eq (.bool true),
        Fact.eq (.bool false),
        Fact.eq (.bool false),
        Fact.eq (.bool false),
        Fact.eq (.agg #[.slice c1 m.i.length c2, .slice c3 m.s.length c4, .slice c5 m.b.length c6, .bool m.odd]),
        Fact.eq (.agg #[.slice b1 s.i.length b2, .slice b3 s.s.length b4, .slice b5 s.b.length b6, .bool s.odd]),
        Fact.eq (.bool true),
        Fact.eq (.bool false),
        Fact.eq (.bool false),
        Fact.eq (.bool false),
        Fact.eq (.agg #[.slice d1 l.i.length d2, .slice d3 l.s.length d4, .slice d5 l.b.length d6, .bool l.odd]),
        Fact.eq (.agg #[.slice a1 r.i.length a2, .slice a3 r.s.length a4, .slice a5 r.b.length a6, .bool r.odd]),
        Fact.eq (.bool true),
        Fact.eq (.bool false),
        Fact.eq (.bool false),
        Fact.eq (.bool false),
        Fact.eq (.agg #[.slice d1 l.i.length d2, .slice d3 l.s.length d4, .slice d5 l.b.length d6, .bool l.odd]),
        Fact.eq (.agg #[.slice b1 s.i.length b2, .slice b3 s.s.length b4, .slice b5 s.b.length b6, .bool s.odd]),
        Fact.rg n0,
        Fact.eq (.bool true),
        Fact.eq (.bool false),
        Fact.eq (.bool false)]
      [[], [], [(0, 46), (1, 47)], [], [], [(3, 49), (4, 50)], [(5, 51)], [(6, 52)], [(6, 52)], [(7, 53), (8, 54), (6, 52)], [(6, 52), (9, 55)], [(2, 48), (10, 56)], [(11, 57)], [(12, 58)], [(12, 58)], [(13, 59), (14, 60), (12, 58)], [(12, 58)], [(12, 58)], [(16, 62), (17, 63), (12, 58)], [(18, 64), (12, 58)], [(19, 65)], [(19, 65)], [(20, 66), (21, 67), (19, 65)], [(22, 68), (19, 65)], [(19, 65), (23, 69), (12, 58)], [(15, 61), (24, 70), (12, 58)], [(12, 58), (25, 71)], [(26, 72)], [(27, 73)], [(27, 73)], [(28, 74), (29, 75), (27, 73)], [(27, 73)], [(31, 77), (27, 73)], [(30, 76), (32, 78), (27, 73)], [(27, 73), (33, 79)], [(34, 80)], [(35, 81)], [(35, 81)], [(36, 82), (37, 83), (35, 81)], [(38, 84), (35, 81)], [(35, 81), (39, 85)], [(40, 86)], [(41, 87)], [(41, 87)], [(42, 88), (43, 89), (41, 87)], [(44, 90), (41, 87)], [(41, 87), (45, 91)], [(46, 92)], [(47, 93)], [(47, 93)], [(48, 94), (49, 95), (47, 93)], [(50, 96), (47, 93)], [(47, 93), (51, 97)], [(52, 98)], [(53, 99)], [(53, 99)], [(54, 100), (55, 101), (53, 99)], [(56, 102), (53, 99)], [(57, 103), (53, 99)], [(53, 99), (58, 104)]]
      [(0, 46), (1, 47), (2, 48), (3, 49), (4, 50), (5, 51), (6, 52), (7, 53), (8, 54), (9, 55), (10, 56), (11, 57), (12, 58), (13, 59), (14, 60), (15, 61), (16, 62), (17, 63), (18, 64), (19, 65), (20, 66), (21, 67), (22, 68), (23, 69), (24, 70), (25, 71), (26, 72), (27, 73), (28, 74), (29, 75), (30, 76), (31, 77), (32, 78), (33, 79), (34, 80), (35, 81), (36, 82), (37, 83), (38, 84), (39, 85), (40, 86), (41, 87), (42, 88), (43, 89), (44, 90), (45, 91), (46, 92), (47, 93), (48, 94), (49, 95), (50, 96), (51, 97), (52, 98), (53, 99), (54, 100), (55, 101), (56, 102), (57, 103), (58, 104), (59, 105)] (by kernel_rfl) (by kernel_rfl) ?_ ?_
    · refine ⟨?_, ?_, ?_, ?_, ?_, ?_, ?_, ?_, ?_, ?_, ?_, ?_, ?_, ?_, ?_, ?_, ?_, ?_, ?_, ?_, ?_, ?_, ?_, ?_, ?_, ?_, ?_, ?_, ?_, ?_, ?_, ?_, ?_, ?_, ?_, ?_, ?_, ?_, ?_, ?_, ?_, ?_, ?_, ?_, ?_, ?_, ?_, ?_, ?_, ?_, ?_, ?_, ?_, ?_, ?_, ?_, ?_, ?_, ?_, ?_, trivial⟩
      · intro w1 hx1; change wpList _ _ _ _ _ _; have m0 := cell_of_row _ _ 0 _ _ _ (block_later Hm.out hx1); have m1 := cell_of_row _ _ 1 _ _ _ (block_later Hm.out hx1); have m2 := cell_of_row _ _ 2 _ _ _ (block_later Hm.out hx1); have m3 := cell_of_row _ _ 3 _ _ _ (block_later Hm.out hx1); go_wp2_with fail; exact ⟨rfl, Ext.refl _, rfl, rfl⟩
      · intro w1 hx1; change wpList _ _ _ _ _ _; have m0 := cell_of_row _ _ 0 _ _ _ (block_later Hv.out hx1); have m1 := cell_of_row _ _ 1 _ _ _ (block_later Hv.out hx1); have m2 := cell_of_row _ _ 2 _ _ _ (block_later Hv.out hx1); have m3 := cell_of_row _ _ 3 _ _ _ (block_later Hv.out hx1); go_wp2_with fail; exact ⟨rfl, Ext.refl _, rfl, rfl⟩
      · intro w1 hx1; rintro _ rfl; rintro _ rfl; change wpList _ _ _ _ _ _; go_wp2_with fail; refine (has_lit v (HRM.out.ext hx1) HVn.out HVs.out HMH.out).mono ?_; rintro e w2 ⟨rfl, hx2⟩; go_wp2_with fail; exact ⟨rfl, hx2, rfl, rfl⟩
      · intro w1 hx1; change wpList _ _ _ _ _ _; have m0 := cell_of_row _ _ 0 _ _ _ (block_later Hr.out hx1); have m1 := cell_of_row _ _ 1 _ _ _ (block_later Hr.out hx1); have m2 := cell_of_row _ _ 2 _ _ _ (block_later Hr.out hx1); have m3 := cell_of_row _ _ 3 _ _ _ (block_later Hr.out hx1); go_wp2_with fail; exact ⟨rfl, Ext.refl _, rfl, rfl⟩
      · intro w1 hx1; change wpList _ _ _ _ _ _; have m0 := cell_of_row _ _ 0 _ _ _ (block_later Hv.out hx1); have m1 := cell_of_row _ _ 1 _ _ _ (block_later Hv.out hx1); have m2 := cell_of_row _ _ 2 _ _ _ (block_later Hv.out hx1); have m3 := cell_of_row _ _ 3 _ _ _ (block_later Hv.out hx1); go_wp2_with fail; exact ⟨rfl, Ext.refl _, rfl, rfl⟩
      · intro w1 hx1; rintro _ rfl; rintro _ rfl; change wpList _ _ _ _ _ _; go_wp2_with fail; refine (has_lit v (HRR.out.ext hx1) HVn.out HVs.out HAH.out).mono ?_; rintro e w2 ⟨rfl, hx2⟩; go_wp2_with fail; exact ⟨rfl, hx2, rfl, rfl⟩
      · intro w1 hx1; rintro _ rfl; change wpList _ _ _ _ _ _; exact ob_move rfl rfl rfl rfl rfl
      · intro w1 hx1; rintro _ rfl; change wpList _ _ _ _ _ _; cases A; exact ob_skip rfl rfl rfl rfl; have m0 := cell_of_row _ _ 0 _ _ _ (block_later Hs.out hx1); have m1 := cell_of_row _ _ 1 _ _ _ (block_later Hs.out hx1); have m2 := cell_of_row _ _ 2 _ _ _ (block_later Hs.out hx1); have m3 := cell_of_row _ _ 3 _ _ _ (block_later Hs.out hx1); go_wp2_with fail; exact ⟨rfl, Ext.refl _, rfl, rfl⟩
      · intro w1 hx1; rintro _ rfl; change wpList _ _ _ _ _ _; cases A; exact ob_skip rfl rfl rfl rfl; have m0 := cell_of_row _ _ 0 _ _ _ (block_later Hv.out hx1); have m1 := cell_of_row _ _ 1 _ _ _ (block_later Hv.out hx1); have m2 := cell_of_row _ _ 2 _ _ _ (block_later Hv.out hx1); have m3 := cell_of_row _ _ 3 _ _ _ (block_later Hv.out hx1); go_wp2_with fail; exact ⟨rfl, Ext.refl _, rfl, rfl⟩
      · intro w1 hx1; rintro _ rfl; rintro _ rfl; rintro _ rfl; change wpList _ _ _ _ _ _; cases A; exact ob_skip rfl rfl rfl rfl; go_wp2_with fail; refine (has_lit v (HRS.out.ext hx1) HVn.out HVs.out HBH.out).mono ?_; rintro e w2 ⟨rfl, hx2⟩; go_wp2_with fail; exact ⟨rfl, hx2, rfl, rfl⟩
      · intro w1 hx1; rintro _ rfl; rintro _ rfl; change wpList _ _ _ _ _ _; cases A <;> exact ob_pick rfl rfl rfl rfl rfl rfl
      · intro w1 hx1; rintro _ rfl; rintro _ rfl; change wpList _ _ _ _ _ _; cases A <;> cases B <;> (go_wp2_with fail; exact ⟨rfl, Ext.refl _, rfl, rfl⟩)
      · intro w1 hx1; rintro _ rfl; change wpList _ _ _ _ _ _; exact ob_move rfl rfl rfl rfl rfl
      · intro w1 hx1; rintro _ rfl; change wpList _ _ _ _ _ _; have m0 := cell_of_row _ _ 0 _ _ _ (block_later Hl.out hx1); have m1 := cell_of_row _ _ 1 _ _ _ (block_later Hl.out hx1); have m2 := cell_of_row _ _ 2 _ _ _ (block_later Hl.out hx1); have m3 := cell_of_row _ _ 3 _ _ _ (block_later Hl.out hx1); go_wp2_with fail; exact ⟨rfl, Ext.refl _, rfl, rfl⟩
      · intro w1 hx1; rintro _ rfl; change wpList _ _ _ _ _ _; have m0 := cell_of_row _ _ 0 _ _ _ (block_later Hv.out hx1); have m1 := cell_of_row _ _ 1 _ _ _ (block_later Hv.out hx1); have m2 := cell_of_row _ _ 2 _ _ _ (block_later Hv.out hx1); have m3 := cell_of_row _ _ 3 _ _ _ (block_later Hv.out hx1); go_wp2_with fail; exact ⟨rfl, Ext.refl _, rfl, rfl⟩
      · intro w1 hx1; rintro _ rfl; rintro _ rfl; rintro _ rfl; change wpList _ _ _ _ _ _; go_wp2_with fail; refine (has_lit v (HRL.out.ext hx1) HVn.out HVs.out HLH.out).mono ?_; rintro e w2 ⟨rfl, hx2⟩; go_wp2_with fail; exact ⟨rfl, hx2, rfl, rfl⟩
      · intro w1 hx1; rintro _ rfl; change wpList _ _ _ _ _ _; have m0 := cell_of_row _ _ 0 _ _ _ (block_later Hr.out hx1); have m1 := cell_of_row _ _ 1 _ _ _ (block_later Hr.out hx1); have m2 := cell_of_row _ _ 2 _ _ _ (block_later Hr.out hx1); have m3 := cell_of_row _ _ 3 _ _ _ (block_later Hr.out hx1); go_wp2_with fail; exact ⟨rfl, Ext.refl _, rfl, rfl⟩
      · intro w1 hx1; rintro _ rfl; change wpList _ _ _ _ _ _; have m0 := cell_of_row _ _ 0 _ _ _ (block_later Hv.out hx1); have m1 := cell_of_row _ _ 1 _ _ _ (block_later Hv.out hx1); have m2 := cell_of_row _ _ 2 _ _ _ (block_later Hv.out hx1); have m3 := cell_of_row _ _ 3 _ _ _ (block_later Hv.out hx1); go_wp2_with fail; exact ⟨rfl, Ext.refl _, rfl, rfl⟩
      · intro w1 hx1; rintro _ rfl; rintro _ rfl; rintro _ rfl; change wpList _ _ _ _ _ _; go_wp2_with fail; refine (has_lit v (HRR.out.ext hx1) HVn.out HVs.out HAH.out).mono ?_; rintro e w2 ⟨rfl, hx2⟩; go_wp2_with fail; exact ⟨rfl, hx2, rfl, rfl⟩
      · intro w1 hx1; rintro _ rfl; rintro _ rfl; change wpList _ _ _ _ _ _; exact ob_move rfl rfl rfl rfl rfl
      · intro w1 hx1; rintro _ rfl; change wpList _ _ _ _ _ _; cases A; exact ob_skip rfl rfl rfl rfl; have m0 := cell_of_row _ _ 0 _ _ _ (block_later Hs.out hx1); have m1 := cell_of_row _ _ 1 _ _ _ (block_later Hs.out hx1); have m2 := cell_of_row _ _ 2 _ _ _ (block_later Hs.out hx1); have m3 := cell_of_row _ _ 3 _ _ _ (block_later Hs.out hx1); go_wp2_with fail; exact ⟨rfl, Ext.refl _, rfl, rfl⟩
      · intro w1 hx1; rintro _ rfl; change wpList _ _ _ _ _ _; cases A; exact ob_skip rfl rfl rfl rfl; have m0 := cell_of_row _ _ 0 _ _ _ (block_later Hv.out hx1); have m1 := cell_of_row _ _ 1 _ _ _ (block_later Hv.out hx1); have m2 := cell_of_row _ _ 2 _ _ _ (block_later Hv.out hx1); have m3 := cell_of_row _ _ 3 _ _ _ (block_later Hv.out hx1); go_wp2_with fail; exact ⟨rfl, Ext.refl _, rfl, rfl⟩
      · intro w1 hx1; rintro _ rfl; rintro _ rfl; rintro _ rfl; change wpList _ _ _ _ _ _; cases A; exact ob_skip rfl rfl rfl rfl; go_wp2_with fail; refine (has_lit v (HRS.out.ext hx1) HVn.out HVs.out HBH.out).mono ?_; rintro e w2 ⟨rfl, hx2⟩; go_wp2_with fail; exact ⟨rfl, hx2, rfl, rfl⟩
      · intro w1 hx1; rintro _ rfl; rintro _ rfl; change wpList _ _ _ _ _ _; cases A; exact ob_skip rfl rfl rfl rfl; cases B <;> (go_wp2_with fail; exact ⟨rfl, Ext.refl _, rfl, rfl⟩)
      · intro w1 hx1; rintro _ rfl; rintro _ rfl; rintro _ rfl; change wpList _ _ _ _ _ _; cases A <;> exact ob_pick rfl rfl rfl rfl rfl rfl
      · intro w1 hx1; rintro _ rfl; rintro _ rfl; rintro _ rfl; change wpList _ _ _ _ _ _; cases A <;> cases B <;> (go_wp2_with fail; exact ⟨rfl, Ext.refl _, rfl, rfl⟩)
      · intro w1 hx1; rintro _ rfl; rintro _ rfl; change wpList _ _ _ _ _ _; exact ob_pick rfl rfl rfl rfl rfl rfl
      · intro w1 hx1; rintro _ rfl; change wpList _ _ _ _ _ _; exact ob_move rfl rfl rfl rfl rfl
      · intro w1 hx1; rintro _ rfl; change wpList _ _ _ _ _ _; have m0 := cell_of_row _ _ 0 _ _ _ (block_later Hr.out hx1); have m1 := cell_of_row _ _ 1 _ _ _ (block_later Hr.out hx1); have m2 := cell_of_row _ _ 2 _ _ _ (block_later Hr.out hx1); have m3 := cell_of_row _ _ 3 _ _ _ (block_later Hr.out hx1); go_wp2_with fail; exact ⟨rfl, Ext.refl _, rfl, rfl⟩
      · intro w1 hx1; rintro _ rfl; change wpList _ _ _ _ _ _; have m0 := cell_of_row _ _ 0 _ _ _ (block_later Hs.out hx1); have m1 := cell_of_row _ _ 1 _ _ _ (block_later Hs.out hx1); have m2 := cell_of_row _ _ 2 _ _ _ (block_later Hs.out hx1); have m3 := cell_of_row _ _ 3 _ _ _ (block_later Hs.out hx1); go_wp2_with fail; exact ⟨rfl, Ext.refl _, rfl, rfl⟩
      · intro w1 hx1; rintro _ rfl; rintro _ rfl; rintro _ rfl; change wpList _ _ _ _ _ _; go_wp2_with fail; refine (HWrs.out w1 _ _ (HRR.out.ext hx1) (HRS.out.ext hx1)).mono ?_; rintro e w2 ⟨rfl, hx2⟩; go_wp2_with fail; exact ⟨rfl, hx2, rfl, rfl⟩
      · intro w1 hx1; rintro _ rfl; change wpList _ _ _ _ _ _; have m0 := cell_of_row _ _ 0 _ _ _ (block_later Hl.out hx1); have m1 := cell_of_row _ _ 1 _ _ _ (block_later Hl.out hx1); have m2 := cell_of_row _ _ 2 _ _ _ (block_later Hl.out hx1); have m3 := cell_of_row _ _ 3 _ _ _ (block_later Hl.out hx1); go_wp2_with fail; exact ⟨rfl, Ext.refl _, rfl, rfl⟩
      · intro w1 hx1; rintro _ rfl; rintro _ rfl; change wpList _ _ _ _ _ _; go_wp2_with fail; refine (empty_lit (HRL.out.ext hx1) HEH.out).mono ?_; rintro e w2 ⟨rfl, hx2⟩; go_wp2_with fail; exact ⟨rfl, hx2, rfl, rfl⟩
      · intro w1 hx1; rintro _ rfl; rintro _ rfl; rintro _ rfl; change wpList _ _ _ _ _ _; cases E <;> (go_wp2_with fail; exact ⟨rfl, Ext.refl _, rfl, rfl⟩)
      · intro w1 hx1; rintro _ rfl; rintro _ rfl; change wpList _ _ _ _ _ _; exact ob_pick rfl rfl rfl rfl rfl rfl
      · intro w1 hx1; rintro _ rfl; change wpList _ _ _ _ _ _; exact ob_move rfl rfl rfl rfl rfl
      · intro w1 hx1; rintro _ rfl; change wpList _ _ _ _ _ _; have m0 := cell_of_row _ _ 0 _ _ _ (block_later Hm.out hx1); have m1 := cell_of_row _ _ 1 _ _ _ (block_later Hm.out hx1); have m2 := cell_of_row _ _ 2 _ _ _ (block_later Hm.out hx1); have m3 := cell_of_row _ _ 3 _ _ _ (block_later Hm.out hx1); go_wp2_with fail; exact ⟨rfl, Ext.refl _, rfl, rfl⟩
      · intro w1 hx1; rintro _ rfl; change wpList _ _ _ _ _ _; have m0 := cell_of_row _ _ 0 _ _ _ (block_later Hr.out hx1); have m1 := cell_of_row _ _ 1 _ _ _ (block_later Hr.out hx1); have m2 := cell_of_row _ _ 2 _ _ _ (block_later Hr.out hx1); have m3 := cell_of_row _ _ 3 _ _ _ (block_later Hr.out hx1); go_wp2_with fail; exact ⟨rfl, Ext.refl _, rfl, rfl⟩
      · intro w1 hx1; rintro _ rfl; rintro _ rfl; rintro _ rfl; change wpList _ _ _ _ _ _; go_wp2_with fail; refine (HWmr.out w1 _ _ (HRM.out.ext hx1) (HRR.out.ext hx1)).mono ?_; rintro e w2 ⟨rfl, hx2⟩; go_wp2_with fail; exact ⟨rfl, hx2, rfl, rfl⟩
      · intro w1 hx1; rintro _ rfl; rintro _ rfl; change wpList _ _ _ _ _ _; go_wp2_with fail; exact ⟨rfl, Ext.refl _, rfl, rfl⟩
      · intro w1 hx1; rintro _ rfl; rintro _ rfl; change wpList _ _ _ _ _ _; exact ob_pick rfl rfl rfl rfl rfl rfl
      · intro w1 hx1; rintro _ rfl; change wpList _ _ _ _ _ _; exact ob_move rfl rfl rfl rfl rfl
      · intro w1 hx1; rintro _ rfl; change wpList _ _ _ _ _ _; have m0 := cell_of_row _ _ 0 _ _ _ (block_later Hm.out hx1); have m1 := cell_of_row _ _ 1 _ _ _ (block_later Hm.out hx1); have m2 := cell_of_row _ _ 2 _ _ _ (block_later Hm.out hx1); have m3 := cell_of_row _ _ 3 _ _ _ (block_later Hm.out hx1); go_wp2_with fail; exact ⟨rfl, Ext.refl _, rfl, rfl⟩
      · intro w1 hx1; rintro _ rfl; change wpList _ _ _ _ _ _; have m0 := cell_of_row _ _ 0 _ _ _ (block_later Hs.out hx1); have m1 := cell_of_row _ _ 1 _ _ _ (block_later Hs.out hx1); have m2 := cell_of_row _ _ 2 _ _ _ (block_later Hs.out hx1); have m3 := cell_of_row _ _ 3 _ _ _ (block_later Hs.out hx1); go_wp2_with fail; exact ⟨rfl, Ext.refl _, rfl, rfl⟩
      · intro w1 hx1; rintro _ rfl; rintro _ rfl; rintro _ rfl; change wpList _ _ _ _ _ _; go_wp2_with fail; refine (HWms.out w1 _ _ (HRM.out.ext hx1) (HRS.out.ext hx1)).mono ?_; rintro e w2 ⟨rfl, hx2⟩; go_wp2_with fail; exact ⟨rfl, hx2, rfl, rfl⟩
      · intro w1 hx1; rintro _ rfl; rintro _ rfl; change wpList _ _ _ _ _ _; go_wp2_with fail; exact ⟨rfl, Ext.refl _, rfl, rfl⟩
      · intro w1 hx1; rintro _ rfl; rintro _ rfl; change wpList _ _ _ _ _ _; exact ob_pick rfl rfl rfl rfl rfl rfl
      · intro w1 hx1; rintro _ rfl; change wpList _ _ _ _ _ _; exact ob_move rfl rfl rfl rfl rfl
      · intro w1 hx1; rintro _ rfl; change wpList _ _ _ _ _ _; have m0 := cell_of_row _ _ 0 _ _ _ (block_later Hl.out hx1); have m1 := cell_of_row _ _ 1 _ _ _ (block_later Hl.out hx1); have m2 := cell_of_row _ _ 2 _ _ _ (block_later Hl.out hx1); have m3 := cell_of_row _ _ 3 _ _ _ (block_later Hl.out hx1); go_wp2_with fail; exact ⟨rfl, Ext.refl _, rfl, rfl⟩
      · intro w1 hx1; rintro _ rfl; change wpList _ _ _ _ _ _; have m0 := cell_of_row _ _ 0 _ _ _ (block_later Hr.out hx1); have m1 := cell_of_row _ _ 1 _ _ _ (block_later Hr.out hx1); have m2 := cell_of_row _ _ 2 _ _ _ (block_later Hr.out hx1); have m3 := cell_of_row _ _ 3 _ _ _ (block_later Hr.out hx1); go_wp2_with fail; exact ⟨rfl, Ext.refl _, rfl, rfl⟩
      · intro w1 hx1; rintro _ rfl; rintro _ rfl; rintro _ rfl; change wpList _ _ _ _ _ _; go_wp2_with fail; refine (HWlr.out w1 _ _ (HRL.out.ext hx1) (HRR.out.ext hx1)).mono ?_; rintro e w2 ⟨rfl, hx2⟩; go_wp2_with fail; exact ⟨rfl, hx2, rfl, rfl⟩
      · intro w1 hx1; rintro _ rfl; rintro _ rfl; change wpList _ _ _ _ _ _; go_wp2_with fail; exact ⟨rfl, Ext.refl _, rfl, rfl⟩
      · intro w1 hx1; rintro _ rfl; rintro _ rfl; change wpList _ _ _ _ _ _; exact ob_pick rfl rfl rfl rfl rfl rfl
      · intro w1 hx1; rintro _ rfl; change wpList _ _ _ _ _ _; exact ob_move rfl rfl rfl rfl rfl
      · intro w1 hx1; rintro _ rfl; change wpList _ _ _ _ _ _; have m0 := cell_of_row _ _ 0 _ _ _ (block_later Hl.out hx1); have m1 := cell_of_row _ _ 1 _ _ _ (block_later Hl.out hx1); have m2 := cell_of_row _ _ 2 _ _ _ (block_later Hl.out hx1); have m3 := cell_of_row _ _ 3 _ _ _ (block_later Hl.out hx1); go_wp2_with fail; exact ⟨rfl, Ext.refl _, rfl, rfl⟩
      · intro w1 hx1; rintro _ rfl; change wpList _ _ _ _ _ _; have m0 := cell_of_row _ _ 0 _ _ _ (block_later Hs.out hx1); have m1 := cell_of_row _ _ 1 _ _ _ (block_later Hs.out hx1); have m2 := cell_of_row _ _ 2 _ _ _ (block_later Hs.out hx1); have m3 := cell_of_row _ _ 3 _ _ _ (block_later Hs.out hx1); go_wp2_with fail; exact ⟨rfl, Ext.refl _, rfl, rfl⟩
      · intro w1 hx1; rintro _ rfl; rintro _ rfl; rintro _ rfl; change wpList _ _ _ _ _ _; go_wp2_with fail; refine (HAls.out w1 _ _ (HRL.out.ext hx1) (HRS.out.ext hx1)).mono ?_; rintro e w2 ⟨va, rfl, hA2, hx2⟩; go_wp2_with fail; exact ⟨rfl, hx2, rfl, hA2⟩
      · intro w1 hx1; intro v102 h102; rintro _ rfl; change wpList _ _ _ _ _ _; go_wp2_with fail; refine (empty_lit (show RgR w1 v102 n0 from h102) HEn.out).mono ?_; rintro e w2 ⟨rfl, hx2⟩; go_wp2_with fail; exact ⟨rfl, hx2, rfl, rfl⟩
      · intro w1 hx1; rintro _ rfl; rintro _ rfl; change wpList _ _ _ _ _ _; go_wp2_with fail; exact ⟨rfl, Ext.refl _, rfl, rfl⟩
      · intro w1 hx1; rintro _ rfl; rintro _ rfl; change wpList _ _ _ _ _ _; exact ob_pick rfl rfl rfl rfl rfl rfl
    · intro w1 hx1; rintro _ rfl; rintro _ rfl; rintro _ rfl; rintro _ rfl; rintro _ rfl; rintro _ rfl; rintro _ rfl; rintro _ rfl; rintro _ rfl; rintro _ rfl; rintro _ rfl; rintro _ rfl; rintro _ rfl; rintro _ rfl; rintro _ rfl; rintro _ rfl; rintro _ rfl; rintro _ rfl; rintro _ rfl; rintro _ rfl; rintro _ rfl; rintro _ rfl; rintro _ rfl; rintro _ rfl; rintro _ rfl; rintro _ rfl; rintro _ rfl; rintro _ rfl; rintro _ rfl; rintro _ rfl; rintro _ rfl; rintro _ rfl; rintro _ rfl; rintro _ rfl; rintro _ rfl; rintro _ rfl; rintro _ rfl; rintro _ rfl; rintro _ rfl; rintro _ rfl; rintro _ rfl; rintro _ rfl; rintro _ rfl; rintro _ rfl; rintro _ rfl; rintro _ rfl; rintro _ rfl; rintro _ rfl; rintro _ rfl; rintro _ rfl; rintro _ rfl; rintro _ rfl; rintro _ rfl; rintro _ rfl; rintro _ rfl; rintro _ rfl; intro v102 h102; rintro _ rfl; rintro _ rfl; rintro _ rfl; refine depsThen_nil ?_; dsimp only; simp only [Act.put, List.setIfInBounds_toArray, List.set_cons_zero, List.set_cons_succ]
      replace h102 : (Fact.rg n0).p v102 w1 := h102
      clear h102
      generalize hqw7 : w1 = w7 at *
      clear hqw7
      have hw := hw.trans hx1
      have Hv := Lib.hid (block_later Hv.out hx1)
      have Hr := Lib.hid (block_later Hr.out hx1)
      have Hs := Lib.hid (block_later Hs.out hx1)
      have Hm := Lib.hid (block_later Hm.out hx1)
      have Hl := Lib.hid (block_later Hl.out hx1)
      have HRR := Lib.hid (HRR.out.ext hx1)
      have HRS := Lib.hid (HRS.out.ext hx1)
      have HRM := Lib.hid (HRM.out.ext hx1)
      have HRL := Lib.hid (HRL.out.ext hx1)
      clear hx1
      have ml_0 := cell_of_row _ _ 0 _ _ _ Hl.out
      have ml_1 := cell_of_row _ _ 1 _ _ _ Hl.out
      have ml_2 := cell_of_row _ _ 2 _ _ _ Hl.out
      have ml_3 := cell_of_row _ _ 3 _ _ _ Hl.out
      have hsm := Lib.hid (some_lit (h := HRL.out) HGl.out (hs := HXl.out))
      go_wp2_with fail
      refine (hsm.out).mono ?_
      rintro e w8 ⟨rfl, hx8⟩
      have hw := hw.trans hx8
      have Hv := Lib.hid (block_later Hv.out hx8)
      have Hr := Lib.hid (block_later Hr.out hx8)
      have Hs := Lib.hid (block_later Hs.out hx8)
      have Hm := Lib.hid (block_later Hm.out hx8)
      have Hl := Lib.hid (block_later Hl.out hx8)
      have HRR := Lib.hid (HRR.out.ext hx8)
      have HRS := Lib.hid (HRS.out.ext hx8)
      have HRM := Lib.hid (HRM.out.ext hx8)
      have HRL := Lib.hid (HRL.out.ext hx8)
      clear hx8
      clear hsm
      clear ml_0 ml_1 ml_2 ml_3
      cases E with
      | false =>
        have hxr := Lib.hid (hxe.out rfl).1
        have hxs := Lib.hid (hxe.out rfl).2
        obtain ⟨hx9, hx⟩ := boxes1 w8 (.cells #[.int .i64 xk, .int .i64 xn, .string (strOf xs), .bool xb] 28)
        have hw := hw.trans hx9
        have Hv := Lib.hid (block_later Hv.out hx9)
        have Hr := Lib.hid (block_later Hr.out hx9)
        have Hs := Lib.hid (block_later Hs.out hx9)
        have Hm := Lib.hid (block_later Hm.out hx9)
        have Hl := Lib.hid (block_later Hl.out hx9)
        have HRR := Lib.hid (HRR.out.ext hx9)
        have HRS := Lib.hid (HRS.out.ext hx9)
        have HRM := Lib.hid (HRM.out.ext hx9)
        have HRL := Lib.hid (HRL.out.ext hx9)
        clear hx9
        have Hx := Lib.hid hx
        clear hx
        have ml_0 := cell_of_row _ _ 0 _ _ _ Hl.out
        have ml_1 := cell_of_row _ _ 1 _ _ _ Hl.out
        have ml_2 := cell_of_row _ _ 2 _ _ _ Hl.out
        have ml_3 := cell_of_row _ _ 3 _ _ _ Hl.out
        go_wp2_with fail
        generalize w8.alloc (.cells #[.int .i64 xk, .int .i64 xn, .string (strOf xs), .bool xb] 28) = w9 at *
        generalize w8.heap.size = bx at *
        clear ml_0 ml_1 ml_2 ml_3
        have hem := Lib.hid (empty_lit HRL.out HEH.out)
        refine (hem.out).mono ?_
        rintro e w10 ⟨rfl, hx10⟩
        have hw := hw.trans hx10
        have Hv := Lib.hid (block_later Hv.out hx10)
        have Hr := Lib.hid (block_later Hr.out hx10)
        have Hs := Lib.hid (block_later Hs.out hx10)
        have Hm := Lib.hid (block_later Hm.out hx10)
        have Hl := Lib.hid (block_later Hl.out hx10)
        have Hx := Lib.hid (block_later Hx.out hx10)
        have HRR := Lib.hid (HRR.out.ext hx10)
        have HRS := Lib.hid (HRS.out.ext hx10)
        have HRM := Lib.hid (HRM.out.ext hx10)
        have HRL := Lib.hid (HRL.out.ext hx10)
        clear hx10
        clear hem
        have mr_0 := cell_of_row _ _ 0 _ _ _ Hr.out
        have mr_1 := cell_of_row _ _ 1 _ _ _ Hr.out
        have mr_2 := cell_of_row _ _ 2 _ _ _ Hr.out
        have mr_3 := cell_of_row _ _ 3 _ _ _ Hr.out
        have mx_0 := cell_of_row _ _ 0 _ _ _ Hx.out
        have mx_1 := cell_of_row _ _ 1 _ _ _ Hx.out
        have mx_2 := cell_of_row _ _ 2 _ _ _ Hx.out
        have mx_3 := cell_of_row _ _ 3 _ _ _ Hx.out
        go_wp2_with fail
        refine (has_lit ⟨xk, xn, xs, xb⟩ HRR.out Hxn.out Hxs.out hxr.out).mono ?_
        rintro e w11 ⟨rfl, hx11⟩
        have hw := hw.trans hx11
        have Hv := Lib.hid (block_later Hv.out hx11)
        have Hr := Lib.hid (block_later Hr.out hx11)
        have Hs := Lib.hid (block_later Hs.out hx11)
        have Hm := Lib.hid (block_later Hm.out hx11)
        have Hl := Lib.hid (block_later Hl.out hx11)
        have Hx := Lib.hid (block_later Hx.out hx11)
        have HRR := Lib.hid (HRR.out.ext hx11)
        have HRS := Lib.hid (HRS.out.ext hx11)
        have HRM := Lib.hid (HRM.out.ext hx11)
        have HRL := Lib.hid (HRL.out.ext hx11)
        clear hx11
        clear mr_0 mr_1 mr_2 mr_3
        clear mx_0 mx_1 mx_2 mx_3
        have ms_0 := cell_of_row _ _ 0 _ _ _ Hs.out
        have ms_1 := cell_of_row _ _ 1 _ _ _ Hs.out
        have ms_2 := cell_of_row _ _ 2 _ _ _ Hs.out
        have ms_3 := cell_of_row _ _ 3 _ _ _ Hs.out
        have mx_0 := cell_of_row _ _ 0 _ _ _ Hx.out
        have mx_1 := cell_of_row _ _ 1 _ _ _ Hx.out
        have mx_2 := cell_of_row _ _ 2 _ _ _ Hx.out
        have mx_3 := cell_of_row _ _ 3 _ _ _ Hx.out
        go_wp2_with fail
        refine (has_lit ⟨xk, xn, xs, xb⟩ HRS.out Hxn.out Hxs.out hxs.out).mono ?_
        rintro e w12 ⟨rfl, hx12⟩
        have hw := hw.trans hx12
        have Hv := Lib.hid (block_later Hv.out hx12)
        have Hr := Lib.hid (block_later Hr.out hx12)
        have Hs := Lib.hid (block_later Hs.out hx12)
        have Hm := Lib.hid (block_later Hm.out hx12)
        have Hl := Lib.hid (block_later Hl.out hx12)
        have Hx := Lib.hid (block_later Hx.out hx12)
        have HRR := Lib.hid (HRR.out.ext hx12)
        have HRS := Lib.hid (HRS.out.ext hx12)
        have HRM := Lib.hid (HRM.out.ext hx12)
        have HRL := Lib.hid (HRL.out.ext hx12)
        clear hx12
        clear ms_0 ms_1 ms_2 ms_3
        clear mx_0 mx_1 mx_2 mx_3
        have mm_0 := cell_of_row _ _ 0 _ _ _ Hm.out
        have mm_1 := cell_of_row _ _ 1 _ _ _ Hm.out
        have mm_2 := cell_of_row _ _ 2 _ _ _ Hm.out
        have mm_3 := cell_of_row _ _ 3 _ _ _ Hm.out
        have hsm := Lib.hid (some_lit (h := HRM.out) HGm.out (hs := HYm.out))
        go_wp2_with fail
        refine (hsm.out).mono ?_
        rintro e w13 ⟨rfl, hx13⟩
        have hw := hw.trans hx13
        have Hv := Lib.hid (block_later Hv.out hx13)
        have Hr := Lib.hid (block_later Hr.out hx13)
        have Hs := Lib.hid (block_later Hs.out hx13)
        have Hm := Lib.hid (block_later Hm.out hx13)
        have Hl := Lib.hid (block_later Hl.out hx13)
        have Hx := Lib.hid (block_later Hx.out hx13)
        have HRR := Lib.hid (HRR.out.ext hx13)
        have HRS := Lib.hid (HRS.out.ext hx13)
        have HRM := Lib.hid (HRM.out.ext hx13)
        have HRL := Lib.hid (HRL.out.ext hx13)
        clear hx13
        clear hsm
        clear mm_0 mm_1 mm_2 mm_3
        clear Hx
        cases F with
        | false =>
          have hyr := Lib.hid (hye.out rfl).1
          have hys := Lib.hid (hye.out rfl).2
          obtain ⟨hx14, hyb⟩ := boxes1 w13 (.cells #[.int .i64 yk, .int .i64 yn, .string (strOf ys), .bool yb] 28)
          have hw := hw.trans hx14
          have Hv := Lib.hid (block_later Hv.out hx14)
          have Hr := Lib.hid (block_later Hr.out hx14)
          have Hs := Lib.hid (block_later Hs.out hx14)
          have Hm := Lib.hid (block_later Hm.out hx14)
          have Hl := Lib.hid (block_later Hl.out hx14)
          have HRR := Lib.hid (HRR.out.ext hx14)
          have HRS := Lib.hid (HRS.out.ext hx14)
          have HRM := Lib.hid (HRM.out.ext hx14)
          have HRL := Lib.hid (HRL.out.ext hx14)
          clear hx14
          have Hyb := Lib.hid hyb
          clear hyb
          have mm_0 := cell_of_row _ _ 0 _ _ _ Hm.out
          have mm_1 := cell_of_row _ _ 1 _ _ _ Hm.out
          have mm_2 := cell_of_row _ _ 2 _ _ _ Hm.out
          have mm_3 := cell_of_row _ _ 3 _ _ _ Hm.out
          go_wp2_with fail
          generalize w13.alloc (.cells #[.int .i64 yk, .int .i64 yn, .string (strOf ys), .bool yb] 28) = w14 at *
          generalize w13.heap.size = byb at *
          clear mm_0 mm_1 mm_2 mm_3
          have hem := Lib.hid (empty_lit HRM.out HFH.out)
          refine (hem.out).mono ?_
          rintro e w15 ⟨rfl, hx15⟩
          have hw := hw.trans hx15
          have Hv := Lib.hid (block_later Hv.out hx15)
          have Hr := Lib.hid (block_later Hr.out hx15)
          have Hs := Lib.hid (block_later Hs.out hx15)
          have Hm := Lib.hid (block_later Hm.out hx15)
          have Hl := Lib.hid (block_later Hl.out hx15)
          have Hyb := Lib.hid (block_later Hyb.out hx15)
          have HRR := Lib.hid (HRR.out.ext hx15)
          have HRS := Lib.hid (HRS.out.ext hx15)
          have HRM := Lib.hid (HRM.out.ext hx15)
          have HRL := Lib.hid (HRL.out.ext hx15)
          clear hx15
          clear hem
          have mr_0 := cell_of_row _ _ 0 _ _ _ Hr.out
          have mr_1 := cell_of_row _ _ 1 _ _ _ Hr.out
          have mr_2 := cell_of_row _ _ 2 _ _ _ Hr.out
          have mr_3 := cell_of_row _ _ 3 _ _ _ Hr.out
          have myb_0 := cell_of_row _ _ 0 _ _ _ Hyb.out
          have myb_1 := cell_of_row _ _ 1 _ _ _ Hyb.out
          have myb_2 := cell_of_row _ _ 2 _ _ _ Hyb.out
          have myb_3 := cell_of_row _ _ 3 _ _ _ Hyb.out
          go_wp2_with fail
          refine (has_lit ⟨yk, yn, ys, yb⟩ HRR.out Hyn.out Hys.out hyr.out).mono ?_
          rintro e w16 ⟨rfl, hx16⟩
          have hw := hw.trans hx16
          have Hv := Lib.hid (block_later Hv.out hx16)
          have Hr := Lib.hid (block_later Hr.out hx16)
          have Hs := Lib.hid (block_later Hs.out hx16)
          have Hm := Lib.hid (block_later Hm.out hx16)
          have Hl := Lib.hid (block_later Hl.out hx16)
          have Hyb := Lib.hid (block_later Hyb.out hx16)
          have HRR := Lib.hid (HRR.out.ext hx16)
          have HRS := Lib.hid (HRS.out.ext hx16)
          have HRM := Lib.hid (HRM.out.ext hx16)
          have HRL := Lib.hid (HRL.out.ext hx16)
          clear hx16
          clear mr_0 mr_1 mr_2 mr_3
          clear myb_0 myb_1 myb_2 myb_3
          have ms_0 := cell_of_row _ _ 0 _ _ _ Hs.out
          have ms_1 := cell_of_row _ _ 1 _ _ _ Hs.out
          have ms_2 := cell_of_row _ _ 2 _ _ _ Hs.out
          have ms_3 := cell_of_row _ _ 3 _ _ _ Hs.out
          have myb_0 := cell_of_row _ _ 0 _ _ _ Hyb.out
          have myb_1 := cell_of_row _ _ 1 _ _ _ Hyb.out
          have myb_2 := cell_of_row _ _ 2 _ _ _ Hyb.out
          have myb_3 := cell_of_row _ _ 3 _ _ _ Hyb.out
          go_wp2_with fail
          refine (has_lit ⟨yk, yn, ys, yb⟩ HRS.out Hyn.out Hys.out hys.out).mono ?_
          rintro e w17 ⟨rfl, hx17⟩
          have hw := hw.trans hx17
          have Hv := Lib.hid (block_later Hv.out hx17)
          have Hr := Lib.hid (block_later Hr.out hx17)
          have Hs := Lib.hid (block_later Hs.out hx17)
          have Hm := Lib.hid (block_later Hm.out hx17)
          have Hl := Lib.hid (block_later Hl.out hx17)
          have Hyb := Lib.hid (block_later Hyb.out hx17)
          have HRR := Lib.hid (HRR.out.ext hx17)
          have HRS := Lib.hid (HRS.out.ext hx17)
          have HRM := Lib.hid (HRM.out.ext hx17)
          have HRL := Lib.hid (HRL.out.ext hx17)
          clear hx17
          clear ms_0 ms_1 ms_2 ms_3
          clear myb_0 myb_1 myb_2 myb_3
          clear Hyb
          go_upto_region 14 with fail
          refine wp_region_boxesV 6 [5] [Fact.eq (.agg #[.slice c1 m.i.length c2, .slice c3 m.s.length c4, .slice c5 m.b.length c6, .bool m.odd]),
              Fact.eq (.agg #[.slice b1 s.i.length b2, .slice b3 s.s.length b4, .slice b5 s.b.length b6, .bool s.odd]),
              Fact.rg ms,
              Fact.eq (.agg #[.slice d1 l.i.length d2, .slice d3 l.s.length d4, .slice d5 l.b.length d6, .bool l.odd]),
              Fact.rg bk,
              Fact.box w17.heap.size z57 57]
            [[], [], [(0, 153), (1, 154)], [], [(2, 155), (3, 156)], []]
            [(0, 153), (1, 154), (2, 155), (3, 156), (4, 157), (5, 19)] (by kernel_rfl) (by kernel_rfl) (by kernel_rfl) ?_ ?_ ?_ ?_
          · refine ⟨?_, ?_, ?_, ?_, ?_, ?_, trivial⟩
            · intro w1 hx1; change wpList _ _ _ _ _ _; have m0 := cell_of_row _ _ 0 _ _ _ (block_later Hm.out hx1); have m1 := cell_of_row _ _ 1 _ _ _ (block_later Hm.out hx1); have m2 := cell_of_row _ _ 2 _ _ _ (block_later Hm.out hx1); have m3 := cell_of_row _ _ 3 _ _ _ (block_later Hm.out hx1); go_wp2_with fail; exact ⟨rfl, Ext.refl _, rfl, rfl⟩
            · intro w1 hx1; change wpList _ _ _ _ _ _; have m0 := cell_of_row _ _ 0 _ _ _ (block_later Hs.out hx1); have m1 := cell_of_row _ _ 1 _ _ _ (block_later Hs.out hx1); have m2 := cell_of_row _ _ 2 _ _ _ (block_later Hs.out hx1); have m3 := cell_of_row _ _ 3 _ _ _ (block_later Hs.out hx1); go_wp2_with fail; exact ⟨rfl, Ext.refl _, rfl, rfl⟩
            · intro w1 hx1; rintro _ rfl; rintro _ rfl; change wpList _ _ _ _ _ _; go_wp2_with fail; refine (HAms.out w1 _ _ (HRM.out.ext hx1) (HRS.out.ext hx1)).mono ?_; rintro e w2 ⟨va, rfl, hA2, hx2⟩; go_wp2_with fail; exact ⟨rfl, hx2, rfl, hA2⟩
            · intro w1 hx1; change wpList _ _ _ _ _ _; have m0 := cell_of_row _ _ 0 _ _ _ (block_later Hl.out hx1); have m1 := cell_of_row _ _ 1 _ _ _ (block_later Hl.out hx1); have m2 := cell_of_row _ _ 2 _ _ _ (block_later Hl.out hx1); have m3 := cell_of_row _ _ 3 _ _ _ (block_later Hl.out hx1); go_wp2_with fail; exact ⟨rfl, Ext.refl _, rfl, rfl⟩
            · intro w1 hx1; intro v155 h155; rintro _ rfl; change wpList _ _ _ _ _ _; go_wp2_with fail; refine (HMbk.out w1 _ _ (show RgR w1 v155 ms from h155) (HRL.out.ext hx1)).mono ?_; rintro e w2 ⟨va, rfl, hA2, hx2⟩; go_wp2_with fail; exact ⟨rfl, hx2, rfl, hA2⟩
            · intro w1 hx1; change wpList _ _ _ _ _ _; go_wp2_with fail; exact ⟨rfl, (Ext.refl _).alloc _, rfl, _, rfl, hx1.size, (boxes1 w1 _).2⟩
          · intro i hi; simp only [List.mem_cons, List.not_mem_nil, or_false] at hi; rcases hi with rfl <;> exact ⟨_, _, _, rfl, rfl, ⟨_, rfl⟩, rfl, zero57, by decide⟩
          · intro i hi; simp only [List.mem_cons, List.not_mem_nil, or_false] at hi; rcases hi with rfl <;> rintro v w ⟨b, rfl, _, hb⟩ <;> exact ⟨b, rfl, (Array.getElem?_eq_some_iff.1 hb).1⟩
          · intro w1 hx1; rintro _ rfl; rintro _ rfl; intro v155 h155; rintro _ rfl; intro v157 h157; intro v19 h19; refine depsThenV_nil ?_; intro hap; clear hap; dsimp only; simp only [Act.put, List.setIfInBounds_toArray, List.set_cons_zero, List.set_cons_succ, List.drop_succ_cons, List.drop_zero]
            replace h155 : (Fact.rg ms).p v155 w1 := h155
            replace h157 : (Fact.rg bk).p v157 w1 := h157
            replace h19 : (Fact.box w17.heap.size z57 57).p v19 w1 := h19
            have hrk : RgR w1 v157 bk := h157
            clear h157 h155
            obtain ⟨e1, e2, e3, e4, e5, e6, rfl, _, _, _⟩ := hrk.ex
            obtain ⟨bkk, rfl, hbk, hb19⟩ := h19
            obtain ⟨hxf, e19, hrk2⟩ := one_filled (cm := #[.slice e1 bk.i.length e2, .slice e3 bk.s.length e4, .slice e5 bk.b.length e6, .bool bk.odd]) hx1 hbk hb19 hrk
            have H19 := Lib.hid hb19
            have Hkk := Lib.hid e19
            clear hb19 e19 hrk hx1 hbk
            obtain ⟨hxz, hz⟩ := boxes1 (w1.setRow bkk #[.slice e1 bk.i.length e2, .slice e3 bk.s.length e4, .slice e5 bk.b.length e6, .bool bk.odd]) (.cells #[.slice none 0 0, .slice none 0 0, .slice none 0 0, .bool false] 57)
            have hxf := hxf.trans hxz
            have hzs : (w1.setRow bkk #[.slice e1 bk.i.length e2, .slice e3 bk.s.length e4, .slice e5 bk.b.length e6, .bool bk.odd]).heap.size = w1.heap.size := by simp
            rw [hzs] at hz
            clear hzs
            have Hz := Lib.hid hz
            have Hkk := Lib.hid (block_later Hkk.out hxz)
            have hrk2 := hrk2.ext hxz
            clear hz hxz
            go_upto_region 16 with (refine wpList_store_whole 57 (.tmp 19) (.tmp 157) rfl rfl bkk rfl #[.slice e1 bk.i.length e2, .slice e3 bk.s.length e4, .slice e5 bk.b.length e6, .bool bk.odd] rfl _ 57 H19.out rfl info57s (by simp [Value.oneCell']) ?_)
            clear H19
            generalize (w1.setRow bkk #[.slice e1 bk.i.length e2, .slice e3 bk.s.length e4, .slice e5 bk.b.length e6, .bool bk.odd]).alloc (.cells #[.slice none 0 0, .slice none 0 0, .slice none 0 0, .bool false] 57) = w18 at *
            generalize w1.heap.size = bz at *
            have hw := hw.trans hxf
            have Hv := Lib.hid (block_later Hv.out hxf)
            have Hr := Lib.hid (block_later Hr.out hxf)
            have Hs := Lib.hid (block_later Hs.out hxf)
            have Hm := Lib.hid (block_later Hm.out hxf)
            have Hl := Lib.hid (block_later Hl.out hxf)
            have HRR := Lib.hid (HRR.out.ext hxf)
            have HRS := Lib.hid (HRS.out.ext hxf)
            have HRM := Lib.hid (HRM.out.ext hxf)
            have HRL := Lib.hid (HRL.out.ext hxf)
            clear hxf
            have HRK := Lib.hid hrk2
            clear hrk2
            refine wp_region_facts [Fact.eq (.agg #[.slice e1 bk.i.length e2, .slice e3 bk.s.length e4, .slice e5 bk.b.length e6, .bool bk.odd]),
                Fact.eq (.agg #[.slice c1 m.i.length c2, .slice c3 m.s.length c4, .slice c5 m.b.length c6, .bool m.odd]),
                Fact.eq (.bool true),
                Fact.eq (.bool true),
                Fact.eq (.agg #[.slice c1 m.i.length c2, .slice c3 m.s.length c4, .slice c5 m.b.length c6, .bool m.odd]),
                Fact.eq (.agg #[.slice e1 bk.i.length e2, .slice e3 bk.s.length e4, .slice e5 bk.b.length e6, .bool bk.odd]),
                Fact.eq (.bool true),
                Fact.eq (.bool true),
                Fact.eq (.bool true),
                Fact.eq (.agg #[.slice none 0 0, .slice none 0 0, .slice none 0 0, .bool false]),
                Fact.eq (.bool true),
                Fact.eq (.bool true),
                Fact.eq (.bool true),
                Fact.eq (.agg #[.slice none 0 0, .slice none 0 0, .slice none 0 0, .bool false]),
                Fact.eq (.agg #[.int .i64 v.k, .int .i64 v.n, .string (strOf v.s), .bool v.b]),
                Fact.eq (.bool false),
                Fact.eq (.bool true),
                Fact.eq (.bool true),
                Fact.eq (.bool true),
                Fact.rg allR,
                Fact.eq (.agg #[.int .i64 v.k, .int .i64 v.n, .string (strOf v.s), .bool v.b]),
                Fact.eq (.bool true),
                Fact.eq (.bool true),
                Fact.eq (.bool true),
                Fact.eq (.agg #[.slice a1 r.i.length a2, .slice a3 r.s.length a4, .slice a5 r.b.length a6, .bool r.odd]),
                Fact.rg allR,
                Fact.eq (.bool true),
                Fact.eq (.bool true),
                Fact.eq (.bool true),
                Fact.eq (.agg #[.slice a1 r.i.length a2, .slice a3 r.s.length a4, .slice a5 r.b.length a6, .bool r.odd]),
                Fact.rg allR,
                Fact.rg ra,
                Fact.eq (.bool true),
                Fact.eq (.bool true),
                Fact.eq (.bool true),
                Fact.eq (.bool true),
                Fact.eq (.bool true),
                Fact.eq (.bool true)]
              [[], [], [(0, 158), (1, 159)], [(2, 160)], [(3, 161)], [(3, 161)], [(4, 162), (5, 163), (3, 161)], [(3, 161), (6, 164)], [(7, 165)], [(8, 166)], [(9, 167), (8, 166)], [(8, 166), (10, 168)], [(11, 169)], [(12, 170)], [(12, 170)], [(13, 171), (14, 172), (12, 170)], [(15, 173), (12, 170)], [(12, 170), (16, 174)], [(17, 175)], [(18, 176)], [(18, 176)], [(19, 177), (20, 178), (18, 176)], [(18, 176), (21, 179)], [(22, 180)], [(23, 181)], [(23, 181)], [(24, 182), (25, 183), (23, 181)], [(23, 181), (26, 184)], [(27, 185)], [(28, 186)], [(28, 186)], [(29, 187), (30, 188), (28, 186)], [(31, 189), (28, 186)], [(28, 186), (32, 190)], [(33, 191)], [(34, 192)], [(34, 192), (35, 193)], [(36, 194)]]
              [(0, 158), (1, 159), (2, 160), (3, 161), (4, 162), (5, 163), (6, 164), (7, 165), (8, 166), (9, 167), (10, 168), (11, 169), (12, 170), (13, 171), (14, 172), (15, 173), (16, 174), (17, 175), (18, 176), (19, 177), (20, 178), (21, 179), (22, 180), (23, 181), (24, 182), (25, 183), (26, 184), (27, 185), (28, 186), (29, 187), (30, 188), (31, 189), (32, 190), (33, 191), (34, 192), (35, 193), (36, 194), (37, 8)] (by kernel_rfl) (by kernel_rfl) ?_ ?_
            · refine ⟨?_, ?_, ?_, ?_, ?_, ?_, ?_, ?_, ?_, ?_, ?_, ?_, ?_, ?_, ?_, ?_, ?_, ?_, ?_, ?_, ?_, ?_, ?_, ?_, ?_, ?_, ?_, ?_, ?_, ?_, ?_, ?_, ?_, ?_, ?_, ?_, ?_, ?_, trivial⟩
              · intro w1 hx1; change wpList _ _ _ _ _ _; have m0 := cell_of_row _ _ 0 _ _ _ (block_later Hkk.out hx1); have m1 := cell_of_row _ _ 1 _ _ _ (block_later Hkk.out hx1); have m2 := cell_of_row _ _ 2 _ _ _ (block_later Hkk.out hx1); have m3 := cell_of_row _ _ 3 _ _ _ (block_later Hkk.out hx1); go_wp2_with fail; exact ⟨rfl, Ext.refl _, rfl, rfl⟩
              · intro w1 hx1; change wpList _ _ _ _ _ _; have m0 := cell_of_row _ _ 0 _ _ _ (block_later Hm.out hx1); have m1 := cell_of_row _ _ 1 _ _ _ (block_later Hm.out hx1); have m2 := cell_of_row _ _ 2 _ _ _ (block_later Hm.out hx1); have m3 := cell_of_row _ _ 3 _ _ _ (block_later Hm.out hx1); go_wp2_with fail; exact ⟨rfl, Ext.refl _, rfl, rfl⟩
              · intro w1 hx1; rintro _ rfl; rintro _ rfl; change wpList _ _ _ _ _ _; go_wp2_with fail; refine (HWbm.out w1 _ _ (HRK.out.ext hx1) (HRM.out.ext hx1)).mono ?_; rintro e w2 ⟨rfl, hx2⟩; go_wp2_with fail; exact ⟨rfl, hx2, rfl, rfl⟩
              · intro w1 hx1; rintro _ rfl; change wpList _ _ _ _ _ _; exact ob_move rfl rfl rfl rfl rfl
              · intro w1 hx1; rintro _ rfl; change wpList _ _ _ _ _ _; have m0 := cell_of_row _ _ 0 _ _ _ (block_later Hm.out hx1); have m1 := cell_of_row _ _ 1 _ _ _ (block_later Hm.out hx1); have m2 := cell_of_row _ _ 2 _ _ _ (block_later Hm.out hx1); have m3 := cell_of_row _ _ 3 _ _ _ (block_later Hm.out hx1); go_wp2_with fail; exact ⟨rfl, Ext.refl _, rfl, rfl⟩
              · intro w1 hx1; rintro _ rfl; change wpList _ _ _ _ _ _; have m0 := cell_of_row _ _ 0 _ _ _ (block_later Hkk.out hx1); have m1 := cell_of_row _ _ 1 _ _ _ (block_later Hkk.out hx1); have m2 := cell_of_row _ _ 2 _ _ _ (block_later Hkk.out hx1); have m3 := cell_of_row _ _ 3 _ _ _ (block_later Hkk.out hx1); go_wp2_with fail; exact ⟨rfl, Ext.refl _, rfl, rfl⟩
              · intro w1 hx1; rintro _ rfl; rintro _ rfl; rintro _ rfl; change wpList _ _ _ _ _ _; go_wp2_with fail; refine (HWmb.out w1 _ _ (HRM.out.ext hx1) (HRK.out.ext hx1)).mono ?_; rintro e w2 ⟨rfl, hx2⟩; go_wp2_with fail; exact ⟨rfl, hx2, rfl, rfl⟩
              · intro w1 hx1; rintro _ rfl; rintro _ rfl; change wpList _ _ _ _ _ _; exact ob_pick rfl rfl rfl rfl rfl rfl
              · intro w1 hx1; rintro _ rfl; change wpList _ _ _ _ _ _; exact ob_move rfl rfl rfl rfl rfl
              · intro w1 hx1; rintro _ rfl; change wpList _ _ _ _ _ _; have m0 := cell_of_row _ _ 0 _ _ _ (block_later Hz.out hx1); have m1 := cell_of_row _ _ 1 _ _ _ (block_later Hz.out hx1); have m2 := cell_of_row _ _ 2 _ _ _ (block_later Hz.out hx1); have m3 := cell_of_row _ _ 3 _ _ _ (block_later Hz.out hx1); go_wp2_with fail; exact ⟨rfl, Ext.refl _, rfl, rfl⟩
              · intro w1 hx1; rintro _ rfl; rintro _ rfl; change wpList _ _ _ _ _ _; go_wp2_with fail; refine (empty_lit (RgR.of (SpR.nil _) (SpR.nil _) (SpR.nil _) : RgR w1 _ noneR) rfl).mono ?_; rintro e w2 ⟨rfl, hx2⟩; go_wp2_with fail; exact ⟨rfl, hx2, rfl, rfl⟩
              · intro w1 hx1; rintro _ rfl; rintro _ rfl; change wpList _ _ _ _ _ _; exact ob_pick rfl rfl rfl rfl rfl rfl
              · intro w1 hx1; rintro _ rfl; change wpList _ _ _ _ _ _; exact ob_move rfl rfl rfl rfl rfl
              · intro w1 hx1; rintro _ rfl; change wpList _ _ _ _ _ _; have m0 := cell_of_row _ _ 0 _ _ _ (block_later Hz.out hx1); have m1 := cell_of_row _ _ 1 _ _ _ (block_later Hz.out hx1); have m2 := cell_of_row _ _ 2 _ _ _ (block_later Hz.out hx1); have m3 := cell_of_row _ _ 3 _ _ _ (block_later Hz.out hx1); go_wp2_with fail; exact ⟨rfl, Ext.refl _, rfl, rfl⟩
              · intro w1 hx1; rintro _ rfl; change wpList _ _ _ _ _ _; have m0 := cell_of_row _ _ 0 _ _ _ (block_later Hv.out hx1); have m1 := cell_of_row _ _ 1 _ _ _ (block_later Hv.out hx1); have m2 := cell_of_row _ _ 2 _ _ _ (block_later Hv.out hx1); have m3 := cell_of_row _ _ 3 _ _ _ (block_later Hv.out hx1); go_wp2_with fail; exact ⟨rfl, Ext.refl _, rfl, rfl⟩
              · intro w1 hx1; rintro _ rfl; rintro _ rfl; rintro _ rfl; change wpList _ _ _ _ _ _; go_wp2_with fail; refine (has_lit v (RgR.of (SpR.nil _) (SpR.nil _) (SpR.nil _) : RgR w1 _ noneR) HVn.out HVs.out (none_has v)).mono ?_; rintro e w2 ⟨rfl, hx2⟩; go_wp2_with fail; exact ⟨rfl, hx2, rfl, rfl⟩
              · intro w1 hx1; rintro _ rfl; rintro _ rfl; change wpList _ _ _ _ _ _; go_wp2_with fail; exact ⟨rfl, Ext.refl _, rfl, rfl⟩
              · intro w1 hx1; rintro _ rfl; rintro _ rfl; change wpList _ _ _ _ _ _; exact ob_pick rfl rfl rfl rfl rfl rfl
              · intro w1 hx1; rintro _ rfl; change wpList _ _ _ _ _ _; exact ob_move rfl rfl rfl rfl rfl
              · intro w1 hx1; rintro _ rfl; change wpList _ _ _ _ _ _; go_wp2_with fail; refine (all_any w1).mono ?_; rintro e w2 ⟨va, rfl, hA2, hx2⟩; go_wp2_with fail; exact ⟨rfl, hx2, rfl, hA2⟩
              · intro w1 hx1; rintro _ rfl; change wpList _ _ _ _ _ _; have m0 := cell_of_row _ _ 0 _ _ _ (block_later Hv.out hx1); have m1 := cell_of_row _ _ 1 _ _ _ (block_later Hv.out hx1); have m2 := cell_of_row _ _ 2 _ _ _ (block_later Hv.out hx1); have m3 := cell_of_row _ _ 3 _ _ _ (block_later Hv.out hx1); go_wp2_with fail; exact ⟨rfl, Ext.refl _, rfl, rfl⟩
              · intro w1 hx1; intro v177 h177; rintro _ rfl; rintro _ rfl; change wpList _ _ _ _ _ _; go_wp2_with fail; refine (has_lit v (show RgR w1 v177 allR from h177) HVn.out HVs.out (all_has v)).mono ?_; rintro e w2 ⟨rfl, hx2⟩; go_wp2_with fail; exact ⟨rfl, hx2, rfl, rfl⟩
              · intro w1 hx1; rintro _ rfl; rintro _ rfl; change wpList _ _ _ _ _ _; exact ob_pick rfl rfl rfl rfl rfl rfl
              · intro w1 hx1; rintro _ rfl; change wpList _ _ _ _ _ _; exact ob_move rfl rfl rfl rfl rfl
              · intro w1 hx1; rintro _ rfl; change wpList _ _ _ _ _ _; have m0 := cell_of_row _ _ 0 _ _ _ (block_later Hr.out hx1); have m1 := cell_of_row _ _ 1 _ _ _ (block_later Hr.out hx1); have m2 := cell_of_row _ _ 2 _ _ _ (block_later Hr.out hx1); have m3 := cell_of_row _ _ 3 _ _ _ (block_later Hr.out hx1); go_wp2_with fail; exact ⟨rfl, Ext.refl _, rfl, rfl⟩
              · intro w1 hx1; rintro _ rfl; change wpList _ _ _ _ _ _; go_wp2_with fail; refine (all_any w1).mono ?_; rintro e w2 ⟨va, rfl, hA2, hx2⟩; go_wp2_with fail; exact ⟨rfl, hx2, rfl, hA2⟩
              · intro w1 hx1; rintro _ rfl; intro v183 h183; rintro _ rfl; change wpList _ _ _ _ _ _; go_wp2_with fail; refine (HWra.out w1 _ _ (HRR.out.ext hx1) (show RgR w1 v183 allR from h183)).mono ?_; rintro e w2 ⟨rfl, hx2⟩; go_wp2_with fail; exact ⟨rfl, hx2, rfl, rfl⟩
              · intro w1 hx1; rintro _ rfl; rintro _ rfl; change wpList _ _ _ _ _ _; exact ob_pick rfl rfl rfl rfl rfl rfl
              · intro w1 hx1; rintro _ rfl; change wpList _ _ _ _ _ _; exact ob_move rfl rfl rfl rfl rfl
              · intro w1 hx1; rintro _ rfl; change wpList _ _ _ _ _ _; have m0 := cell_of_row _ _ 0 _ _ _ (block_later Hr.out hx1); have m1 := cell_of_row _ _ 1 _ _ _ (block_later Hr.out hx1); have m2 := cell_of_row _ _ 2 _ _ _ (block_later Hr.out hx1); have m3 := cell_of_row _ _ 3 _ _ _ (block_later Hr.out hx1); go_wp2_with fail; exact ⟨rfl, Ext.refl _, rfl, rfl⟩
              · intro w1 hx1; rintro _ rfl; change wpList _ _ _ _ _ _; go_wp2_with fail; refine (all_any w1).mono ?_; rintro e w2 ⟨va, rfl, hA2, hx2⟩; go_wp2_with fail; exact ⟨rfl, hx2, rfl, hA2⟩
              · intro w1 hx1; rintro _ rfl; intro v188 h188; rintro _ rfl; change wpList _ _ _ _ _ _; go_wp2_with fail; refine (HMra.out w1 _ _ (HRR.out.ext hx1) (show RgR w1 v188 allR from h188)).mono ?_; rintro e w2 ⟨va, rfl, hA2, hx2⟩; go_wp2_with fail; exact ⟨rfl, hx2, rfl, hA2⟩
              · intro w1 hx1; intro v189 h189; rintro _ rfl; change wpList _ _ _ _ _ _; go_wp2_with fail; refine (empty_lit (show RgR w1 v189 ra from h189) HEa.out).mono ?_; rintro e w2 ⟨rfl, hx2⟩; go_wp2_with fail; exact ⟨rfl, hx2, rfl, rfl⟩
              · intro w1 hx1; rintro _ rfl; rintro _ rfl; change wpList _ _ _ _ _ _; exact ob_pick rfl rfl rfl rfl rfl rfl
              · intro w1 hx1; rintro _ rfl; change wpList _ _ _ _ _ _; exact ob_move rfl rfl rfl rfl rfl
              · intro w1 hx1; rintro _ rfl; change wpList _ _ _ _ _ _; go_wp2_with fail; refine (wakes05_any w1).mono ?_; rintro e w2 ⟨rfl, hx2⟩; go_wp2_with fail; exact ⟨rfl, hx2, rfl, rfl⟩
              · intro w1 hx1; rintro _ rfl; rintro _ rfl; change wpList _ _ _ _ _ _; exact ob_pick rfl rfl rfl rfl rfl rfl
              · intro w1 hx1; rintro _ rfl; change wpList _ _ _ _ _ _; exact ob_assign rfl rfl rfl rfl rfl
            · intro w1 hx1; rintro _ rfl; rintro _ rfl; rintro _ rfl; rintro _ rfl; rintro _ rfl; rintro _ rfl; rintro _ rfl; rintro _ rfl; rintro _ rfl; rintro _ rfl; rintro _ rfl; rintro _ rfl; rintro _ rfl; rintro _ rfl; rintro _ rfl; rintro _ rfl; rintro _ rfl; rintro _ rfl; rintro _ rfl; intro v177 h177; rintro _ rfl; rintro _ rfl; rintro _ rfl; rintro _ rfl; rintro _ rfl; intro v183 h183; rintro _ rfl; rintro _ rfl; rintro _ rfl; rintro _ rfl; intro v188 h188; intro v189 h189; rintro _ rfl; rintro _ rfl; rintro _ rfl; rintro _ rfl; rintro _ rfl; rintro _ rfl; refine depsThen_nil ?_; dsimp only; simp only [Act.put, List.setIfInBounds_toArray, List.set_cons_zero, List.set_cons_succ]
              replace h177 : (Fact.rg allR).p v177 w1 := h177
              replace h183 : (Fact.rg allR).p v183 w1 := h183
              replace h188 : (Fact.rg allR).p v188 w1 := h188
              replace h189 : (Fact.rg ra).p v189 w1 := h189
              clear h177 h183 h188 h189
              have hw := hw.trans hx1
              go_wp2_with fail
              go_ret
              exact ⟨rfl, hw⟩
        | true =>
          obtain ⟨hx14, hyb⟩ := boxes1 w13 (.cells #[.int .i64 yk, .int .i64 yn, .string (strOf ys), .bool yb] 28)
          have hw := hw.trans hx14
          have Hv := Lib.hid (block_later Hv.out hx14)
          have Hr := Lib.hid (block_later Hr.out hx14)
          have Hs := Lib.hid (block_later Hs.out hx14)
          have Hm := Lib.hid (block_later Hm.out hx14)
          have Hl := Lib.hid (block_later Hl.out hx14)
          have HRR := Lib.hid (HRR.out.ext hx14)
          have HRS := Lib.hid (HRS.out.ext hx14)
          have HRM := Lib.hid (HRM.out.ext hx14)
          have HRL := Lib.hid (HRL.out.ext hx14)
          clear hx14
          have Hyb := Lib.hid hyb
          clear hyb
          have mm_0 := cell_of_row _ _ 0 _ _ _ Hm.out
          have mm_1 := cell_of_row _ _ 1 _ _ _ Hm.out
          have mm_2 := cell_of_row _ _ 2 _ _ _ Hm.out
          have mm_3 := cell_of_row _ _ 3 _ _ _ Hm.out
          go_wp2_with fail
          generalize w13.alloc (.cells #[.int .i64 yk, .int .i64 yn, .string (strOf ys), .bool yb] 28) = w14 at *
          generalize w13.heap.size = byb at *
          clear mm_0 mm_1 mm_2 mm_3
          have hem := Lib.hid (empty_lit HRM.out HFH.out)
          refine (hem.out).mono ?_
          rintro e w15 ⟨rfl, hx15⟩
          have hw := hw.trans hx15
          have Hv := Lib.hid (block_later Hv.out hx15)
          have Hr := Lib.hid (block_later Hr.out hx15)
          have Hs := Lib.hid (block_later Hs.out hx15)
          have Hm := Lib.hid (block_later Hm.out hx15)
          have Hl := Lib.hid (block_later Hl.out hx15)
          have Hyb := Lib.hid (block_later Hyb.out hx15)
          have HRR := Lib.hid (HRR.out.ext hx15)
          have HRS := Lib.hid (HRS.out.ext hx15)
          have HRM := Lib.hid (HRM.out.ext hx15)
          have HRL := Lib.hid (HRL.out.ext hx15)
          clear hx15
          clear hem
          clear Hyb
          go_upto_region 14 with fail
          refine wp_region_boxesV 6 [5] [Fact.eq (.agg #[.slice c1 m.i.length c2, .slice c3 m.s.length c4, .slice c5 m.b.length c6, .bool m.odd]),
              Fact.eq (.agg #[.slice b1 s.i.length b2, .slice b3 s.s.length b4, .slice b5 s.b.length b6, .bool s.odd]),
              Fact.rg ms,
              Fact.eq (.agg #[.slice d1 l.i.length d2, .slice d3 l.s.length d4, .slice d5 l.b.length d6, .bool l.odd]),
              Fact.rg bk,
              Fact.box w15.heap.size z57 57]
            [[], [], [(0, 153), (1, 154)], [], [(2, 155), (3, 156)], []]
            [(0, 153), (1, 154), (2, 155), (3, 156), (4, 157), (5, 19)] (by kernel_rfl) (by kernel_rfl) (by kernel_rfl) ?_ ?_ ?_ ?_
          · refine ⟨?_, ?_, ?_, ?_, ?_, ?_, trivial⟩
            · intro w1 hx1; change wpList _ _ _ _ _ _; have m0 := cell_of_row _ _ 0 _ _ _ (block_later Hm.out hx1); have m1 := cell_of_row _ _ 1 _ _ _ (block_later Hm.out hx1); have m2 := cell_of_row _ _ 2 _ _ _ (block_later Hm.out hx1); have m3 := cell_of_row _ _ 3 _ _ _ (block_later Hm.out hx1); go_wp2_with fail; exact ⟨rfl, Ext.refl _, rfl, rfl⟩
            · intro w1 hx1; change wpList _ _ _ _ _ _; have m0 := cell_of_row _ _ 0 _ _ _ (block_later Hs.out hx1); have m1 := cell_of_row _ _ 1 _ _ _ (block_later Hs.out hx1); have m2 := cell_of_row _ _ 2 _ _ _ (block_later Hs.out hx1); have m3 := cell_of_row _ _ 3 _ _ _ (block_later Hs.out hx1); go_wp2_with fail; exact ⟨rfl, Ext.refl _, rfl, rfl⟩
            · intro w1 hx1; rintro _ rfl; rintro _ rfl; change wpList _ _ _ _ _ _; go_wp2_with fail; refine (HAms.out w1 _ _ (HRM.out.ext hx1) (HRS.out.ext hx1)).mono ?_; rintro e w2 ⟨va, rfl, hA2, hx2⟩; go_wp2_with fail; exact ⟨rfl, hx2, rfl, hA2⟩
            · intro w1 hx1; change wpList _ _ _ _ _ _; have m0 := cell_of_row _ _ 0 _ _ _ (block_later Hl.out hx1); have m1 := cell_of_row _ _ 1 _ _ _ (block_later Hl.out hx1); have m2 := cell_of_row _ _ 2 _ _ _ (block_later Hl.out hx1); have m3 := cell_of_row _ _ 3 _ _ _ (block_later Hl.out hx1); go_wp2_with fail; exact ⟨rfl, Ext.refl _, rfl, rfl⟩
            · intro w1 hx1; intro v155 h155; rintro _ rfl; change wpList _ _ _ _ _ _; go_wp2_with fail; refine (HMbk.out w1 _ _ (show RgR w1 v155 ms from h155) (HRL.out.ext hx1)).mono ?_; rintro e w2 ⟨va, rfl, hA2, hx2⟩; go_wp2_with fail; exact ⟨rfl, hx2, rfl, hA2⟩
            · intro w1 hx1; change wpList _ _ _ _ _ _; go_wp2_with fail; exact ⟨rfl, (Ext.refl _).alloc _, rfl, _, rfl, hx1.size, (boxes1 w1 _).2⟩
          · intro i hi; simp only [List.mem_cons, List.not_mem_nil, or_false] at hi; rcases hi with rfl <;> exact ⟨_, _, _, rfl, rfl, ⟨_, rfl⟩, rfl, zero57, by decide⟩
          · intro i hi; simp only [List.mem_cons, List.not_mem_nil, or_false] at hi; rcases hi with rfl <;> rintro v w ⟨b, rfl, _, hb⟩ <;> exact ⟨b, rfl, (Array.getElem?_eq_some_iff.1 hb).1⟩
          · intro w1 hx1; rintro _ rfl; rintro _ rfl; intro v155 h155; rintro _ rfl; intro v157 h157; intro v19 h19; refine depsThenV_nil ?_; intro hap; clear hap; dsimp only; simp only [Act.put, List.setIfInBounds_toArray, List.set_cons_zero, List.set_cons_succ, List.drop_succ_cons, List.drop_zero]
            replace h155 : (Fact.rg ms).p v155 w1 := h155
            replace h157 : (Fact.rg bk).p v157 w1 := h157
            replace h19 : (Fact.box w15.heap.size z57 57).p v19 w1 := h19
            have hrk : RgR w1 v157 bk := h157
            clear h157 h155
            obtain ⟨e1, e2, e3, e4, e5, e6, rfl, _, _, _⟩ := hrk.ex
            obtain ⟨bkk, rfl, hbk, hb19⟩ := h19
            obtain ⟨hxf, e19, hrk2⟩ := one_filled (cm := #[.slice e1 bk.i.length e2, .slice e3 bk.s.length e4, .slice e5 bk.b.length e6, .bool bk.odd]) hx1 hbk hb19 hrk
            have H19 := Lib.hid hb19
            have Hkk := Lib.hid e19
            clear hb19 e19 hrk hx1 hbk
            obtain ⟨hxz, hz⟩ := boxes1 (w1.setRow bkk #[.slice e1 bk.i.length e2, .slice e3 bk.s.length e4, .slice e5 bk.b.length e6, .bool bk.odd]) (.cells #[.slice none 0 0, .slice none 0 0, .slice none 0 0, .bool false] 57)
            have hxf := hxf.trans hxz
            have hzs : (w1.setRow bkk #[.slice e1 bk.i.length e2, .slice e3 bk.s.length e4, .slice e5 bk.b.length e6, .bool bk.odd]).heap.size = w1.heap.size := by simp
            rw [hzs] at hz
            clear hzs
            have Hz := Lib.hid hz
            have Hkk := Lib.hid (block_later Hkk.out hxz)
            have hrk2 := hrk2.ext hxz
            clear hz hxz
            go_upto_region 16 with (refine wpList_store_whole 57 (.tmp 19) (.tmp 157) rfl rfl bkk rfl #[.slice e1 bk.i.length e2, .slice e3 bk.s.length e4, .slice e5 bk.b.length e6, .bool bk.odd] rfl _ 57 H19.out rfl info57s (by simp [Value.oneCell']) ?_)
            clear H19
            generalize (w1.setRow bkk #[.slice e1 bk.i.length e2, .slice e3 bk.s.length e4, .slice e5 bk.b.length e6, .bool bk.odd]).alloc (.cells #[.slice none 0 0, .slice none 0 0, .slice none 0 0, .bool false] 57) = w16 at *
            generalize w1.heap.size = bz at *
            have hw := hw.trans hxf
            have Hv := Lib.hid (block_later Hv.out hxf)
            have Hr := Lib.hid (block_later Hr.out hxf)
            have Hs := Lib.hid (block_later Hs.out hxf)
            have Hm := Lib.hid (block_later Hm.out hxf)
            have Hl := Lib.hid (block_later Hl.out hxf)
            have HRR := Lib.hid (HRR.out.ext hxf)
            have HRS := Lib.hid (HRS.out.ext hxf)
            have HRM := Lib.hid (HRM.out.ext hxf)
            have HRL := Lib.hid (HRL.out.ext hxf)
            clear hxf
            have HRK := Lib.hid hrk2
            clear hrk2
            refine wp_region_facts [Fact.eq (.agg #[.slice e1 bk.i.length e2, .slice e3 bk.s.length e4, .slice e5 bk.b.length e6, .bool bk.odd]),
                Fact.eq (.agg #[.slice c1 m.i.length c2, .slice c3 m.s.length c4, .slice c5 m.b.length c6, .bool m.odd]),
                Fact.eq (.bool true),
                Fact.eq (.bool true),
                Fact.eq (.agg #[.slice c1 m.i.length c2, .slice c3 m.s.length c4, .slice c5 m.b.length c6, .bool m.odd]),
                Fact.eq (.agg #[.slice e1 bk.i.length e2, .slice e3 bk.s.length e4, .slice e5 bk.b.length e6, .bool bk.odd]),
                Fact.eq (.bool true),
                Fact.eq (.bool true),
                Fact.eq (.bool true),
                Fact.eq (.agg #[.slice none 0 0, .slice none 0 0, .slice none 0 0, .bool false]),
                Fact.eq (.bool true),
                Fact.eq (.bool true),
                Fact.eq (.bool true),
                Fact.eq (.agg #[.slice none 0 0, .slice none 0 0, .slice none 0 0, .bool false]),
                Fact.eq (.agg #[.int .i64 v.k, .int .i64 v.n, .string (strOf v.s), .bool v.b]),
                Fact.eq (.bool false),
                Fact.eq (.bool true),
                Fact.eq (.bool true),
                Fact.eq (.bool true),
                Fact.rg allR,
                Fact.eq (.agg #[.int .i64 v.k, .int .i64 v.n, .string (strOf v.s), .bool v.b]),
                Fact.eq (.bool true),
                Fact.eq (.bool true),
                Fact.eq (.bool true),
                Fact.eq (.agg #[.slice a1 r.i.length a2, .slice a3 r.s.length a4, .slice a5 r.b.length a6, .bool r.odd]),
                Fact.rg allR,
                Fact.eq (.bool true),
                Fact.eq (.bool true),
                Fact.eq (.bool true),
                Fact.eq (.agg #[.slice a1 r.i.length a2, .slice a3 r.s.length a4, .slice a5 r.b.length a6, .bool r.odd]),
                Fact.rg allR,
                Fact.rg ra,
                Fact.eq (.bool true),
                Fact.eq (.bool true),
                Fact.eq (.bool true),
                Fact.eq (.bool true),
                Fact.eq (.bool true),
                Fact.eq (.bool true)]
              [[], [], [(0, 158), (1, 159)], [(2, 160)], [(3, 161)], [(3, 161)], [(4, 162), (5, 163), (3, 161)], [(3, 161), (6, 164)], [(7, 165)], [(8, 166)], [(9, 167), (8, 166)], [(8, 166), (10, 168)], [(11, 169)], [(12, 170)], [(12, 170)], [(13, 171), (14, 172), (12, 170)], [(15, 173), (12, 170)], [(12, 170), (16, 174)], [(17, 175)], [(18, 176)], [(18, 176)], [(19, 177), (20, 178), (18, 176)], [(18, 176), (21, 179)], [(22, 180)], [(23, 181)], [(23, 181)], [(24, 182), (25, 183), (23, 181)], [(23, 181), (26, 184)], [(27, 185)], [(28, 186)], [(28, 186)], [(29, 187), (30, 188), (28, 186)], [(31, 189), (28, 186)], [(28, 186), (32, 190)], [(33, 191)], [(34, 192)], [(34, 192), (35, 193)], [(36, 194)]]
              [(0, 158), (1, 159), (2, 160), (3, 161), (4, 162), (5, 163), (6, 164), (7, 165), (8, 166), (9, 167), (10, 168), (11, 169), (12, 170), (13, 171), (14, 172), (15, 173), (16, 174), (17, 175), (18, 176), (19, 177), (20, 178), (21, 179), (22, 180), (23, 181), (24, 182), (25, 183), (26, 184), (27, 185), (28, 186), (29, 187), (30, 188), (31, 189), (32, 190), (33, 191), (34, 192), (35, 193), (36, 194), (37, 8)] (by kernel_rfl) (by kernel_rfl) ?_ ?_
            · refine ⟨?_, ?_, ?_, ?_, ?_, ?_, ?_, ?_, ?_, ?_, ?_, ?_, ?_, ?_, ?_, ?_, ?_, ?_, ?_, ?_, ?_, ?_, ?_, ?_, ?_, ?_, ?_, ?_, ?_, ?_, ?_, ?_, ?_, ?_, ?_, ?_, ?_, ?_, trivial⟩
              · intro w1 hx1; change wpList _ _ _ _ _ _; have m0 := cell_of_row _ _ 0 _ _ _ (block_later Hkk.out hx1); have m1 := cell_of_row _ _ 1 _ _ _ (block_later Hkk.out hx1); have m2 := cell_of_row _ _ 2 _ _ _ (block_later Hkk.out hx1); have m3 := cell_of_row _ _ 3 _ _ _ (block_later Hkk.out hx1); go_wp2_with fail; exact ⟨rfl, Ext.refl _, rfl, rfl⟩
              · intro w1 hx1; change wpList _ _ _ _ _ _; have m0 := cell_of_row _ _ 0 _ _ _ (block_later Hm.out hx1); have m1 := cell_of_row _ _ 1 _ _ _ (block_later Hm.out hx1); have m2 := cell_of_row _ _ 2 _ _ _ (block_later Hm.out hx1); have m3 := cell_of_row _ _ 3 _ _ _ (block_later Hm.out hx1); go_wp2_with fail; exact ⟨rfl, Ext.refl _, rfl, rfl⟩
              · intro w1 hx1; rintro _ rfl; rintro _ rfl; change wpList _ _ _ _ _ _; go_wp2_with fail; refine (HWbm.out w1 _ _ (HRK.out.ext hx1) (HRM.out.ext hx1)).mono ?_; rintro e w2 ⟨rfl, hx2⟩; go_wp2_with fail; exact ⟨rfl, hx2, rfl, rfl⟩
              · intro w1 hx1; rintro _ rfl; change wpList _ _ _ _ _ _; exact ob_move rfl rfl rfl rfl rfl
              · intro w1 hx1; rintro _ rfl; change wpList _ _ _ _ _ _; have m0 := cell_of_row _ _ 0 _ _ _ (block_later Hm.out hx1); have m1 := cell_of_row _ _ 1 _ _ _ (block_later Hm.out hx1); have m2 := cell_of_row _ _ 2 _ _ _ (block_later Hm.out hx1); have m3 := cell_of_row _ _ 3 _ _ _ (block_later Hm.out hx1); go_wp2_with fail; exact ⟨rfl, Ext.refl _, rfl, rfl⟩
              · intro w1 hx1; rintro _ rfl; change wpList _ _ _ _ _ _; have m0 := cell_of_row _ _ 0 _ _ _ (block_later Hkk.out hx1); have m1 := cell_of_row _ _ 1 _ _ _ (block_later Hkk.out hx1); have m2 := cell_of_row _ _ 2 _ _ _ (block_later Hkk.out hx1); have m3 := cell_of_row _ _ 3 _ _ _ (block_later Hkk.out hx1); go_wp2_with fail; exact ⟨rfl, Ext.refl _, rfl, rfl⟩
              · intro w1 hx1; rintro _ rfl; rintro _ rfl; rintro _ rfl; change wpList _ _ _ _ _ _; go_wp2_with fail; refine (HWmb.out w1 _ _ (HRM.out.ext hx1) (HRK.out.ext hx1)).mono ?_; rintro e w2 ⟨rfl, hx2⟩; go_wp2_with fail; exact ⟨rfl, hx2, rfl, rfl⟩
              · intro w1 hx1; rintro _ rfl; rintro _ rfl; change wpList _ _ _ _ _ _; exact ob_pick rfl rfl rfl rfl rfl rfl
              · intro w1 hx1; rintro _ rfl; change wpList _ _ _ _ _ _; exact ob_move rfl rfl rfl rfl rfl
              · intro w1 hx1; rintro _ rfl; change wpList _ _ _ _ _ _; have m0 := cell_of_row _ _ 0 _ _ _ (block_later Hz.out hx1); have m1 := cell_of_row _ _ 1 _ _ _ (block_later Hz.out hx1); have m2 := cell_of_row _ _ 2 _ _ _ (block_later Hz.out hx1); have m3 := cell_of_row _ _ 3 _ _ _ (block_later Hz.out hx1); go_wp2_with fail; exact ⟨rfl, Ext.refl _, rfl, rfl⟩
              · intro w1 hx1; rintro _ rfl; rintro _ rfl; change wpList _ _ _ _ _ _; go_wp2_with fail; refine (empty_lit (RgR.of (SpR.nil _) (SpR.nil _) (SpR.nil _) : RgR w1 _ noneR) rfl).mono ?_; rintro e w2 ⟨rfl, hx2⟩; go_wp2_with fail; exact ⟨rfl, hx2, rfl, rfl⟩
              · intro w1 hx1; rintro _ rfl; rintro _ rfl; change wpList _ _ _ _ _ _; exact ob_pick rfl rfl rfl rfl rfl rfl
              · intro w1 hx1; rintro _ rfl; change wpList _ _ _ _ _ _; exact ob_move rfl rfl rfl rfl rfl
              · intro w1 hx1; rintro _ rfl; change wpList _ _ _ _ _ _; have m0 := cell_of_row _ _ 0 _ _ _ (block_later Hz.out hx1); have m1 := cell_of_row _ _ 1 _ _ _ (block_later Hz.out hx1); have m2 := cell_of_row _ _ 2 _ _ _ (block_later Hz.out hx1); have m3 := cell_of_row _ _ 3 _ _ _ (block_later Hz.out hx1); go_wp2_with fail; exact ⟨rfl, Ext.refl _, rfl, rfl⟩
              · intro w1 hx1; rintro _ rfl; change wpList _ _ _ _ _ _; have m0 := cell_of_row _ _ 0 _ _ _ (block_later Hv.out hx1); have m1 := cell_of_row _ _ 1 _ _ _ (block_later Hv.out hx1); have m2 := cell_of_row _ _ 2 _ _ _ (block_later Hv.out hx1); have m3 := cell_of_row _ _ 3 _ _ _ (block_later Hv.out hx1); go_wp2_with fail; exact ⟨rfl, Ext.refl _, rfl, rfl⟩
              · intro w1 hx1; rintro _ rfl; rintro _ rfl; rintro _ rfl; change wpList _ _ _ _ _ _; go_wp2_with fail; refine (has_lit v (RgR.of (SpR.nil _) (SpR.nil _) (SpR.nil _) : RgR w1 _ noneR) HVn.out HVs.out (none_has v)).mono ?_; rintro e w2 ⟨rfl, hx2⟩; go_wp2_with fail; exact ⟨rfl, hx2, rfl, rfl⟩
              · intro w1 hx1; rintro _ rfl; rintro _ rfl; change wpList _ _ _ _ _ _; go_wp2_with fail; exact ⟨rfl, Ext.refl _, rfl, rfl⟩
              · intro w1 hx1; rintro _ rfl; rintro _ rfl; change wpList _ _ _ _ _ _; exact ob_pick rfl rfl rfl rfl rfl rfl
              · intro w1 hx1; rintro _ rfl; change wpList _ _ _ _ _ _; exact ob_move rfl rfl rfl rfl rfl
              · intro w1 hx1; rintro _ rfl; change wpList _ _ _ _ _ _; go_wp2_with fail; refine (all_any w1).mono ?_; rintro e w2 ⟨va, rfl, hA2, hx2⟩; go_wp2_with fail; exact ⟨rfl, hx2, rfl, hA2⟩
              · intro w1 hx1; rintro _ rfl; change wpList _ _ _ _ _ _; have m0 := cell_of_row _ _ 0 _ _ _ (block_later Hv.out hx1); have m1 := cell_of_row _ _ 1 _ _ _ (block_later Hv.out hx1); have m2 := cell_of_row _ _ 2 _ _ _ (block_later Hv.out hx1); have m3 := cell_of_row _ _ 3 _ _ _ (block_later Hv.out hx1); go_wp2_with fail; exact ⟨rfl, Ext.refl _, rfl, rfl⟩
              · intro w1 hx1; intro v177 h177; rintro _ rfl; rintro _ rfl; change wpList _ _ _ _ _ _; go_wp2_with fail; refine (has_lit v (show RgR w1 v177 allR from h177) HVn.out HVs.out (all_has v)).mono ?_; rintro e w2 ⟨rfl, hx2⟩; go_wp2_with fail; exact ⟨rfl, hx2, rfl, rfl⟩
              · intro w1 hx1; rintro _ rfl; rintro _ rfl; change wpList _ _ _ _ _ _; exact ob_pick rfl rfl rfl rfl rfl rfl
              · intro w1 hx1; rintro _ rfl; change wpList _ _ _ _ _ _; exact ob_move rfl rfl rfl rfl rfl
              · intro w1 hx1; rintro _ rfl; change wpList _ _ _ _ _ _; have m0 := cell_of_row _ _ 0 _ _ _ (block_later Hr.out hx1); have m1 := cell_of_row _ _ 1 _ _ _ (block_later Hr.out hx1); have m2 := cell_of_row _ _ 2 _ _ _ (block_later Hr.out hx1); have m3 := cell_of_row _ _ 3 _ _ _ (block_later Hr.out hx1); go_wp2_with fail; exact ⟨rfl, Ext.refl _, rfl, rfl⟩
              · intro w1 hx1; rintro _ rfl; change wpList _ _ _ _ _ _; go_wp2_with fail; refine (all_any w1).mono ?_; rintro e w2 ⟨va, rfl, hA2, hx2⟩; go_wp2_with fail; exact ⟨rfl, hx2, rfl, hA2⟩
              · intro w1 hx1; rintro _ rfl; intro v183 h183; rintro _ rfl; change wpList _ _ _ _ _ _; go_wp2_with fail; refine (HWra.out w1 _ _ (HRR.out.ext hx1) (show RgR w1 v183 allR from h183)).mono ?_; rintro e w2 ⟨rfl, hx2⟩; go_wp2_with fail; exact ⟨rfl, hx2, rfl, rfl⟩
              · intro w1 hx1; rintro _ rfl; rintro _ rfl; change wpList _ _ _ _ _ _; exact ob_pick rfl rfl rfl rfl rfl rfl
              · intro w1 hx1; rintro _ rfl; change wpList _ _ _ _ _ _; exact ob_move rfl rfl rfl rfl rfl
              · intro w1 hx1; rintro _ rfl; change wpList _ _ _ _ _ _; have m0 := cell_of_row _ _ 0 _ _ _ (block_later Hr.out hx1); have m1 := cell_of_row _ _ 1 _ _ _ (block_later Hr.out hx1); have m2 := cell_of_row _ _ 2 _ _ _ (block_later Hr.out hx1); have m3 := cell_of_row _ _ 3 _ _ _ (block_later Hr.out hx1); go_wp2_with fail; exact ⟨rfl, Ext.refl _, rfl, rfl⟩
              · intro w1 hx1; rintro _ rfl; change wpList _ _ _ _ _ _; go_wp2_with fail; refine (all_any w1).mono ?_; rintro e w2 ⟨va, rfl, hA2, hx2⟩; go_wp2_with fail; exact ⟨rfl, hx2, rfl, hA2⟩
              · intro w1 hx1; rintro _ rfl; intro v188 h188; rintro _ rfl; change wpList _ _ _ _ _ _; go_wp2_with fail; refine (HMra.out w1 _ _ (HRR.out.ext hx1) (show RgR w1 v188 allR from h188)).mono ?_; rintro e w2 ⟨va, rfl, hA2, hx2⟩; go_wp2_with fail; exact ⟨rfl, hx2, rfl, hA2⟩
              · intro w1 hx1; intro v189 h189; rintro _ rfl; change wpList _ _ _ _ _ _; go_wp2_with fail; refine (empty_lit (show RgR w1 v189 ra from h189) HEa.out).mono ?_; rintro e w2 ⟨rfl, hx2⟩; go_wp2_with fail; exact ⟨rfl, hx2, rfl, rfl⟩
              · intro w1 hx1; rintro _ rfl; rintro _ rfl; change wpList _ _ _ _ _ _; exact ob_pick rfl rfl rfl rfl rfl rfl
              · intro w1 hx1; rintro _ rfl; change wpList _ _ _ _ _ _; exact ob_move rfl rfl rfl rfl rfl
              · intro w1 hx1; rintro _ rfl; change wpList _ _ _ _ _ _; go_wp2_with fail; refine (wakes05_any w1).mono ?_; rintro e w2 ⟨rfl, hx2⟩; go_wp2_with fail; exact ⟨rfl, hx2, rfl, rfl⟩
              · intro w1 hx1; rintro _ rfl; rintro _ rfl; change wpList _ _ _ _ _ _; exact ob_pick rfl rfl rfl rfl rfl rfl
              · intro w1 hx1; rintro _ rfl; change wpList _ _ _ _ _ _; exact ob_assign rfl rfl rfl rfl rfl
            · intro w1 hx1; rintro _ rfl; rintro _ rfl; rintro _ rfl; rintro _ rfl; rintro _ rfl; rintro _ rfl; rintro _ rfl; rintro _ rfl; rintro _ rfl; rintro _ rfl; rintro _ rfl; rintro _ rfl; rintro _ rfl; rintro _ rfl; rintro _ rfl; rintro _ rfl; rintro _ rfl; rintro _ rfl; rintro _ rfl; intro v177 h177; rintro _ rfl; rintro _ rfl; rintro _ rfl; rintro _ rfl; rintro _ rfl; intro v183 h183; rintro _ rfl; rintro _ rfl; rintro _ rfl; rintro _ rfl; intro v188 h188; intro v189 h189; rintro _ rfl; rintro _ rfl; rintro _ rfl; rintro _ rfl; rintro _ rfl; rintro _ rfl; refine depsThen_nil ?_; dsimp only; simp only [Act.put, List.setIfInBounds_toArray, List.set_cons_zero, List.set_cons_succ]
              replace h177 : (Fact.rg allR).p v177 w1 := h177
              replace h183 : (Fact.rg allR).p v183 w1 := h183
              replace h188 : (Fact.rg allR).p v188 w1 := h188
              replace h189 : (Fact.rg ra).p v189 w1 := h189
              clear h177 h183 h188 h189
              have hw := hw.trans hx1
              go_wp2_with fail
              go_ret
              exact ⟨rfl, hw⟩
      | true =>
        obtain ⟨hx9, hx⟩ := boxes1 w8 (.cells #[.int .i64 xk, .int .i64 xn, .string (strOf xs), .bool xb] 28)
        have hw := hw.trans hx9
        have Hv := Lib.hid (block_later Hv.out hx9)
        have Hr := Lib.hid (block_later Hr.out hx9)
        have Hs := Lib.hid (block_later Hs.out hx9)
        have Hm := Lib.hid (block_later Hm.out hx9)
        have Hl := Lib.hid (block_later Hl.out hx9)
        have HRR := Lib.hid (HRR.out.ext hx9)
        have HRS := Lib.hid (HRS.out.ext hx9)
        have HRM := Lib.hid (HRM.out.ext hx9)
        have HRL := Lib.hid (HRL.out.ext hx9)
        clear hx9
        have Hx := Lib.hid hx
        clear hx
        have ml_0 := cell_of_row _ _ 0 _ _ _ Hl.out
        have ml_1 := cell_of_row _ _ 1 _ _ _ Hl.out
        have ml_2 := cell_of_row _ _ 2 _ _ _ Hl.out
        have ml_3 := cell_of_row _ _ 3 _ _ _ Hl.out
        go_wp2_with fail
        generalize w8.alloc (.cells #[.int .i64 xk, .int .i64 xn, .string (strOf xs), .bool xb] 28) = w9 at *
        generalize w8.heap.size = bx at *
        clear ml_0 ml_1 ml_2 ml_3
        have hem := Lib.hid (empty_lit HRL.out HEH.out)
        refine (hem.out).mono ?_
        rintro e w10 ⟨rfl, hx10⟩
        have hw := hw.trans hx10
        have Hv := Lib.hid (block_later Hv.out hx10)
        have Hr := Lib.hid (block_later Hr.out hx10)
        have Hs := Lib.hid (block_later Hs.out hx10)
        have Hm := Lib.hid (block_later Hm.out hx10)
        have Hl := Lib.hid (block_later Hl.out hx10)
        have Hx := Lib.hid (block_later Hx.out hx10)
        have HRR := Lib.hid (HRR.out.ext hx10)
        have HRS := Lib.hid (HRS.out.ext hx10)
        have HRM := Lib.hid (HRM.out.ext hx10)
        have HRL := Lib.hid (HRL.out.ext hx10)
        clear hx10
        clear hem
        have mm_0 := cell_of_row _ _ 0 _ _ _ Hm.out
        have mm_1 := cell_of_row _ _ 1 _ _ _ Hm.out
        have mm_2 := cell_of_row _ _ 2 _ _ _ Hm.out
        have mm_3 := cell_of_row _ _ 3 _ _ _ Hm.out
        have hsm := Lib.hid (some_lit (h := HRM.out) HGm.out (hs := HYm.out))
        go_wp2_with fail
        refine (hsm.out).mono ?_
        rintro e w11 ⟨rfl, hx11⟩
        have hw := hw.trans hx11
        have Hv := Lib.hid (block_later Hv.out hx11)
        have Hr := Lib.hid (block_later Hr.out hx11)
        have Hs := Lib.hid (block_later Hs.out hx11)
        have Hm := Lib.hid (block_later Hm.out hx11)
        have Hl := Lib.hid (block_later Hl.out hx11)
        have Hx := Lib.hid (block_later Hx.out hx11)
        have HRR := Lib.hid (HRR.out.ext hx11)
        have HRS := Lib.hid (HRS.out.ext hx11)
        have HRM := Lib.hid (HRM.out.ext hx11)
        have HRL := Lib.hid (HRL.out.ext hx11)
        clear hx11
        clear hsm
        clear mm_0 mm_1 mm_2 mm_3
        clear Hx
        cases F with
        | false =>
          have hyr := Lib.hid (hye.out rfl).1
          have hys := Lib.hid (hye.out rfl).2
          obtain ⟨hx12, hyb⟩ := boxes1 w11 (.cells #[.int .i64 yk, .int .i64 yn, .string (strOf ys), .bool yb] 28)
          have hw := hw.trans hx12
          have Hv := Lib.hid (block_later Hv.out hx12)
          have Hr := Lib.hid (block_later Hr.out hx12)
          have Hs := Lib.hid (block_later Hs.out hx12)
          have Hm := Lib.hid (block_later Hm.out hx12)
          have Hl := Lib.hid (block_later Hl.out hx12)
          have HRR := Lib.hid (HRR.out.ext hx12)
          have HRS := Lib.hid (HRS.out.ext hx12)
          have HRM := Lib.hid (HRM.out.ext hx12)
          have HRL := Lib.hid (HRL.out.ext hx12)
          clear hx12
          have Hyb := Lib.hid hyb
          clear hyb
          have mm_0 := cell_of_row _ _ 0 _ _ _ Hm.out
          have mm_1 := cell_of_row _ _ 1 _ _ _ Hm.out
          have mm_2 := cell_of_row _ _ 2 _ _ _ Hm.out
          have mm_3 := cell_of_row _ _ 3 _ _ _ Hm.out
          go_wp2_with fail
          generalize w11.alloc (.cells #[.int .i64 yk, .int .i64 yn, .string (strOf ys), .bool yb] 28) = w12 at *
          generalize w11.heap.size = byb at *
          clear mm_0 mm_1 mm_2 mm_3
          have hem := Lib.hid (empty_lit HRM.out HFH.out)
          refine (hem.out).mono ?_
          rintro e w13 ⟨rfl, hx13⟩
          have hw := hw.trans hx13
          have Hv := Lib.hid (block_later Hv.out hx13)
          have Hr := Lib.hid (block_later Hr.out hx13)
          have Hs := Lib.hid (block_later Hs.out hx13)
          have Hm := Lib.hid (block_later Hm.out hx13)
          have Hl := Lib.hid (block_later Hl.out hx13)
          have Hyb := Lib.hid (block_later Hyb.out hx13)
          have HRR := Lib.hid (HRR.out.ext hx13)
          have HRS := Lib.hid (HRS.out.ext hx13)
          have HRM := Lib.hid (HRM.out.ext hx13)
          have HRL := Lib.hid (HRL.out.ext hx13)
          clear hx13
          clear hem
          have mr_0 := cell_of_row _ _ 0 _ _ _ Hr.out
          have mr_1 := cell_of_row _ _ 1 _ _ _ Hr.out
          have mr_2 := cell_of_row _ _ 2 _ _ _ Hr.out
          have mr_3 := cell_of_row _ _ 3 _ _ _ Hr.out
          have myb_0 := cell_of_row _ _ 0 _ _ _ Hyb.out
          have myb_1 := cell_of_row _ _ 1 _ _ _ Hyb.out
          have myb_2 := cell_of_row _ _ 2 _ _ _ Hyb.out
          have myb_3 := cell_of_row _ _ 3 _ _ _ Hyb.out
          go_wp2_with fail
          refine (has_lit ⟨yk, yn, ys, yb⟩ HRR.out Hyn.out Hys.out hyr.out).mono ?_
          rintro e w14 ⟨rfl, hx14⟩
          have hw := hw.trans hx14
          have Hv := Lib.hid (block_later Hv.out hx14)
          have Hr := Lib.hid (block_later Hr.out hx14)
          have Hs := Lib.hid (block_later Hs.out hx14)
          have Hm := Lib.hid (block_later Hm.out hx14)
          have Hl := Lib.hid (block_later Hl.out hx14)
          have Hyb := Lib.hid (block_later Hyb.out hx14)
          have HRR := Lib.hid (HRR.out.ext hx14)
          have HRS := Lib.hid (HRS.out.ext hx14)
          have HRM := Lib.hid (HRM.out.ext hx14)
          have HRL := Lib.hid (HRL.out.ext hx14)
          clear hx14
          clear mr_0 mr_1 mr_2 mr_3
          clear myb_0 myb_1 myb_2 myb_3
          have ms_0 := cell_of_row _ _ 0 _ _ _ Hs.out
          have ms_1 := cell_of_row _ _ 1 _ _ _ Hs.out
          have ms_2 := cell_of_row _ _ 2 _ _ _ Hs.out
          have ms_3 := cell_of_row _ _ 3 _ _ _ Hs.out
          have myb_0 := cell_of_row _ _ 0 _ _ _ Hyb.out
          have myb_1 := cell_of_row _ _ 1 _ _ _ Hyb.out
          have myb_2 := cell_of_row _ _ 2 _ _ _ Hyb.out
          have myb_3 := cell_of_row _ _ 3 _ _ _ Hyb.out
          go_wp2_with fail
          refine (has_lit ⟨yk, yn, ys, yb⟩ HRS.out Hyn.out Hys.out hys.out).mono ?_
          rintro e w15 ⟨rfl, hx15⟩
          have hw := hw.trans hx15
          have Hv := Lib.hid (block_later Hv.out hx15)
          have Hr := Lib.hid (block_later Hr.out hx15)
          have Hs := Lib.hid (block_later Hs.out hx15)
          have Hm := Lib.hid (block_later Hm.out hx15)
          have Hl := Lib.hid (block_later Hl.out hx15)
          have Hyb := Lib.hid (block_later Hyb.out hx15)
          have HRR := Lib.hid (HRR.out.ext hx15)
          have HRS := Lib.hid (HRS.out.ext hx15)
          have HRM := Lib.hid (HRM.out.ext hx15)
          have HRL := Lib.hid (HRL.out.ext hx15)
          clear hx15
          clear ms_0 ms_1 ms_2 ms_3
          clear myb_0 myb_1 myb_2 myb_3
          clear Hyb
          go_upto_region 14 with fail
          refine wp_region_boxesV 6 [5] [Fact.eq (.agg #[.slice c1 m.i.length c2, .slice c3 m.s.length c4, .slice c5 m.b.length c6, .bool m.odd]),
              Fact.eq (.agg #[.slice b1 s.i.length b2, .slice b3 s.s.length b4, .slice b5 s.b.length b6, .bool s.odd]),
              Fact.rg ms,
              Fact.eq (.agg #[.slice d1 l.i.length d2, .slice d3 l.s.length d4, .slice d5 l.b.length d6, .bool l.odd]),
              Fact.rg bk,
              Fact.box w15.heap.size z57 57]
            [[], [], [(0, 153), (1, 154)], [], [(2, 155), (3, 156)], []]
            [(0, 153), (1, 154), (2, 155), (3, 156), (4, 157), (5, 19)] (by kernel_rfl) (by kernel_rfl) (by kernel_rfl) ?_ ?_ ?_ ?_
          · refine ⟨?_, ?_, ?_, ?_, ?_, ?_, trivial⟩
            · intro w1 hx1; change wpList _ _ _ _ _ _; have m0 := cell_of_row _ _ 0 _ _ _ (block_later Hm.out hx1); have m1 := cell_of_row _ _ 1 _ _ _ (block_later Hm.out hx1); have m2 := cell_of_row _ _ 2 _ _ _ (block_later Hm.out hx1); have m3 := cell_of_row _ _ 3 _ _ _ (block_later Hm.out hx1); go_wp2_with fail; exact ⟨rfl, Ext.refl _, rfl, rfl⟩
            · intro w1 hx1; change wpList _ _ _ _ _ _; have m0 := cell_of_row _ _ 0 _ _ _ (block_later Hs.out hx1); have m1 := cell_of_row _ _ 1 _ _ _ (block_later Hs.out hx1); have m2 := cell_of_row _ _ 2 _ _ _ (block_later Hs.out hx1); have m3 := cell_of_row _ _ 3 _ _ _ (block_later Hs.out hx1); go_wp2_with fail; exact ⟨rfl, Ext.refl _, rfl, rfl⟩
            · intro w1 hx1; rintro _ rfl; rintro _ rfl; change wpList _ _ _ _ _ _; go_wp2_with fail; refine (HAms.out w1 _ _ (HRM.out.ext hx1) (HRS.out.ext hx1)).mono ?_; rintro e w2 ⟨va, rfl, hA2, hx2⟩; go_wp2_with fail; exact ⟨rfl, hx2, rfl, hA2⟩
            · intro w1 hx1; change wpList _ _ _ _ _ _; have m0 := cell_of_row _ _ 0 _ _ _ (block_later Hl.out hx1); have m1 := cell_of_row _ _ 1 _ _ _ (block_later Hl.out hx1); have m2 := cell_of_row _ _ 2 _ _ _ (block_later Hl.out hx1); have m3 := cell_of_row _ _ 3 _ _ _ (block_later Hl.out hx1); go_wp2_with fail; exact ⟨rfl, Ext.refl _, rfl, rfl⟩
            · intro w1 hx1; intro v155 h155; rintro _ rfl; change wpList _ _ _ _ _ _; go_wp2_with fail; refine (HMbk.out w1 _ _ (show RgR w1 v155 ms from h155) (HRL.out.ext hx1)).mono ?_; rintro e w2 ⟨va, rfl, hA2, hx2⟩; go_wp2_with fail; exact ⟨rfl, hx2, rfl, hA2⟩
            · intro w1 hx1; change wpList _ _ _ _ _ _; go_wp2_with fail; exact ⟨rfl, (Ext.refl _).alloc _, rfl, _, rfl, hx1.size, (boxes1 w1 _).2⟩
          · intro i hi; simp only [List.mem_cons, List.not_mem_nil, or_false] at hi; rcases hi with rfl <;> exact ⟨_, _, _, rfl, rfl, ⟨_, rfl⟩, rfl, zero57, by decide⟩
          · intro i hi; simp only [List.mem_cons, List.not_mem_nil, or_false] at hi; rcases hi with rfl <;> rintro v w ⟨b, rfl, _, hb⟩ <;> exact ⟨b, rfl, (Array.getElem?_eq_some_iff.1 hb).1⟩
          · intro w1 hx1; rintro _ rfl; rintro _ rfl; intro v155 h155; rintro _ rfl; intro v157 h157; intro v19 h19; refine depsThenV_nil ?_; intro hap; clear hap; dsimp only; simp only [Act.put, List.setIfInBounds_toArray, List.set_cons_zero, List.set_cons_succ, List.drop_succ_cons, List.drop_zero]
            replace h155 : (Fact.rg ms).p v155 w1 := h155
            replace h157 : (Fact.rg bk).p v157 w1 := h157
            replace h19 : (Fact.box w15.heap.size z57 57).p v19 w1 := h19
            have hrk : RgR w1 v157 bk := h157
            clear h157 h155
            obtain ⟨e1, e2, e3, e4, e5, e6, rfl, _, _, _⟩ := hrk.ex
            obtain ⟨bkk, rfl, hbk, hb19⟩ := h19
            obtain ⟨hxf, e19, hrk2⟩ := one_filled (cm := #[.slice e1 bk.i.length e2, .slice e3 bk.s.length e4, .slice e5 bk.b.length e6, .bool bk.odd]) hx1 hbk hb19 hrk
            have H19 := Lib.hid hb19
            have Hkk := Lib.hid e19
            clear hb19 e19 hrk hx1 hbk
            obtain ⟨hxz, hz⟩ := boxes1 (w1.setRow bkk #[.slice e1 bk.i.length e2, .slice e3 bk.s.length e4, .slice e5 bk.b.length e6, .bool bk.odd]) (.cells #[.slice none 0 0, .slice none 0 0, .slice none 0 0, .bool false] 57)
            have hxf := hxf.trans hxz
            have hzs : (w1.setRow bkk #[.slice e1 bk.i.length e2, .slice e3 bk.s.length e4, .slice e5 bk.b.length e6, .bool bk.odd]).heap.size = w1.heap.size := by simp
            rw [hzs] at hz
            clear hzs
            have Hz := Lib.hid hz
            have Hkk := Lib.hid (block_later Hkk.out hxz)
            have hrk2 := hrk2.ext hxz
            clear hz hxz
            go_upto_region 16 with (refine wpList_store_whole 57 (.tmp 19) (.tmp 157) rfl rfl bkk rfl #[.slice e1 bk.i.length e2, .slice e3 bk.s.length e4, .slice e5 bk.b.length e6, .bool bk.odd] rfl _ 57 H19.out rfl info57s (by simp [Value.oneCell']) ?_)
            clear H19
            generalize (w1.setRow bkk #[.slice e1 bk.i.length e2, .slice e3 bk.s.length e4, .slice e5 bk.b.length e6, .bool bk.odd]).alloc (.cells #[.slice none 0 0, .slice none 0 0, .slice none 0 0, .bool false] 57) = w16 at *
            generalize w1.heap.size = bz at *
            have hw := hw.trans hxf
            have Hv := Lib.hid (block_later Hv.out hxf)
            have Hr := Lib.hid (block_later Hr.out hxf)
            have Hs := Lib.hid (block_later Hs.out hxf)
            have Hm := Lib.hid (block_later Hm.out hxf)
            have Hl := Lib.hid (block_later Hl.out hxf)
            have HRR := Lib.hid (HRR.out.ext hxf)
            have HRS := Lib.hid (HRS.out.ext hxf)
            have HRM := Lib.hid (HRM.out.ext hxf)
            have HRL := Lib.hid (HRL.out.ext hxf)
            clear hxf
            have HRK := Lib.hid hrk2
            clear hrk2
            refine wp_region_facts [Fact.eq (.agg #[.slice e1 bk.i.length e2, .slice e3 bk.s.length e4, .slice e5 bk.b.length e6, .bool bk.odd]),
                Fact.eq (.agg #[.slice c1 m.i.length c2, .slice c3 m.s.length c4, .slice c5 m.b.length c6, .bool m.odd]),
                Fact.eq (.bool true),
                Fact.eq (.bool true),
                Fact.eq (.agg #[.slice c1 m.i.length c2, .slice c3 m.s.length c4, .slice c5 m.b.length c6, .bool m.odd]),
                Fact.eq (.agg #[.slice e1 bk.i.length e2, .slice e3 bk.s.length e4, .slice e5 bk.b.length e6, .bool bk.odd]),
                Fact.eq (.bool true),
                Fact.eq (.bool true),
                Fact.eq (.bool true),
                Fact.eq (.agg #[.slice none 0 0, .slice none 0 0, .slice none 0 0, .bool false]),
                Fact.eq (.bool true),
                Fact.eq (.bool true),
                Fact.eq (.bool true),
                Fact.eq (.agg #[.slice none 0 0, .slice none 0 0, .slice none 0 0, .bool false]),
                Fact.eq (.agg #[.int .i64 v.k, .int .i64 v.n, .string (strOf v.s), .bool v.b]),
                Fact.eq (.bool false),
                Fact.eq (.bool true),
                Fact.eq (.bool true),
                Fact.eq (.bool true),
                Fact.rg allR,
                Fact.eq (.agg #[.int .i64 v.k, .int .i64 v.n, .string (strOf v.s), .bool v.b]),
                Fact.eq (.bool true),
                Fact.eq (.bool true),
                Fact.eq (.bool true),
                Fact.eq (.agg #[.slice a1 r.i.length a2, .slice a3 r.s.length a4, .slice a5 r.b.length a6, .bool r.odd]),
                Fact.rg allR,
                Fact.eq (.bool true),
                Fact.eq (.bool true),
                Fact.eq (.bool true),
                Fact.eq (.agg #[.slice a1 r.i.length a2, .slice a3 r.s.length a4, .slice a5 r.b.length a6, .bool r.odd]),
                Fact.rg allR,
                Fact.rg ra,
                Fact.eq (.bool true),
                Fact.eq (.bool true),
                Fact.eq (.bool true),
                Fact.eq (.bool true),
                Fact.eq (.bool true),
                Fact.eq (.bool true)]
              [[], [], [(0, 158), (1, 159)], [(2, 160)], [(3, 161)], [(3, 161)], [(4, 162), (5, 163), (3, 161)], [(3, 161), (6, 164)], [(7, 165)], [(8, 166)], [(9, 167), (8, 166)], [(8, 166), (10, 168)], [(11, 169)], [(12, 170)], [(12, 170)], [(13, 171), (14, 172), (12, 170)], [(15, 173), (12, 170)], [(12, 170), (16, 174)], [(17, 175)], [(18, 176)], [(18, 176)], [(19, 177), (20, 178), (18, 176)], [(18, 176), (21, 179)], [(22, 180)], [(23, 181)], [(23, 181)], [(24, 182), (25, 183), (23, 181)], [(23, 181), (26, 184)], [(27, 185)], [(28, 186)], [(28, 186)], [(29, 187), (30, 188), (28, 186)], [(31, 189), (28, 186)], [(28, 186), (32, 190)], [(33, 191)], [(34, 192)], [(34, 192), (35, 193)], [(36, 194)]]
              [(0, 158), (1, 159), (2, 160), (3, 161), (4, 162), (5, 163), (6, 164), (7, 165), (8, 166), (9, 167), (10, 168), (11, 169), (12, 170), (13, 171), (14, 172), (15, 173), (16, 174), (17, 175), (18, 176), (19, 177), (20, 178), (21, 179), (22, 180), (23, 181), (24, 182), (25, 183), (26, 184), (27, 185), (28, 186), (29, 187), (30, 188), (31, 189), (32, 190), (33, 191), (34, 192), (35, 193), (36, 194), (37, 8)] (by kernel_rfl) (by kernel_rfl) ?_ ?_
            · refine ⟨?_, ?_, ?_, ?_, ?_, ?_, ?_, ?_, ?_, ?_, ?_, ?_, ?_, ?_, ?_, ?_, ?_, ?_, ?_, ?_, ?_, ?_, ?_, ?_, ?_, ?_, ?_, ?_, ?_, ?_, ?_, ?_, ?_, ?_, ?_, ?_, ?_, ?_, trivial⟩
              · intro w1 hx1; change wpList _ _ _ _ _ _; have m0 := cell_of_row _ _ 0 _ _ _ (block_later Hkk.out hx1); have m1 := cell_of_row _ _ 1 _ _ _ (block_later Hkk.out hx1); have m2 := cell_of_row _ _ 2 _ _ _ (block_later Hkk.out hx1); have m3 := cell_of_row _ _ 3 _ _ _ (block_later Hkk.out hx1); go_wp2_with fail; exact ⟨rfl, Ext.refl _, rfl, rfl⟩
              · intro w1 hx1; change wpList _ _ _ _ _ _; have m0 := cell_of_row _ _ 0 _ _ _ (block_later Hm.out hx1); have m1 := cell_of_row _ _ 1 _ _ _ (block_later Hm.out hx1); have m2 := cell_of_row _ _ 2 _ _ _ (block_later Hm.out hx1); have m3 := cell_of_row _ _ 3 _ _ _ (block_later Hm.out hx1); go_wp2_with fail; exact ⟨rfl, Ext.refl _, rfl, rfl⟩
              · intro w1 hx1; rintro _ rfl; rintro _ rfl; change wpList _ _ _ _ _ _; go_wp2_with fail; refine (HWbm.out w1 _ _ (HRK.out.ext hx1) (HRM.out.ext hx1)).mono ?_; rintro e w2 ⟨rfl, hx2⟩; go_wp2_with fail; exact ⟨rfl, hx2, rfl, rfl⟩
              · intro w1 hx1; rintro _ rfl; change wpList _ _ _ _ _ _; exact ob_move rfl rfl rfl rfl rfl
              · intro w1 hx1; rintro _ rfl; change wpList _ _ _ _ _ _; have m0 := cell_of_row _ _ 0 _ _ _ (block_later Hm.out hx1); have m1 := cell_of_row _ _ 1 _ _ _ (block_later Hm.out hx1); have m2 := cell_of_row _ _ 2 _ _ _ (block_later Hm.out hx1); have m3 := cell_of_row _ _ 3 _ _ _ (block_later Hm.out hx1); go_wp2_with fail; exact ⟨rfl, Ext.refl _, rfl, rfl⟩
              · intro w1 hx1; rintro _ rfl; change wpList _ _ _ _ _ _; have m0 := cell_of_row _ _ 0 _ _ _ (block_later Hkk.out hx1); have m1 := cell_of_row _ _ 1 _ _ _ (block_later Hkk.out hx1); have m2 := cell_of_row _ _ 2 _ _ _ (block_later Hkk.out hx1); have m3 := cell_of_row _ _ 3 _ _ _ (block_later Hkk.out hx1); go_wp2_with fail; exact ⟨rfl, Ext.refl _, rfl, rfl⟩
              · intro w1 hx1; rintro _ rfl; rintro _ rfl; rintro _ rfl; change wpList _ _ _ _ _ _; go_wp2_with fail; refine (HWmb.out w1 _ _ (HRM.out.ext hx1) (HRK.out.ext hx1)).mono ?_; rintro e w2 ⟨rfl, hx2⟩; go_wp2_with fail; exact ⟨rfl, hx2, rfl, rfl⟩
              · intro w1 hx1; rintro _ rfl; rintro _ rfl; change wpList _ _ _ _ _ _; exact ob_pick rfl rfl rfl rfl rfl rfl
              · intro w1 hx1; rintro _ rfl; change wpList _ _ _ _ _ _; exact ob_move rfl rfl rfl rfl rfl
              · intro w1 hx1; rintro _ rfl; change wpList _ _ _ _ _ _; have m0 := cell_of_row _ _ 0 _ _ _ (block_later Hz.out hx1); have m1 := cell_of_row _ _ 1 _ _ _ (block_later Hz.out hx1); have m2 := cell_of_row _ _ 2 _ _ _ (block_later Hz.out hx1); have m3 := cell_of_row _ _ 3 _ _ _ (block_later Hz.out hx1); go_wp2_with fail; exact ⟨rfl, Ext.refl _, rfl, rfl⟩
              · intro w1 hx1; rintro _ rfl; rintro _ rfl; change wpList _ _ _ _ _ _; go_wp2_with fail; refine (empty_lit (RgR.of (SpR.nil _) (SpR.nil _) (SpR.nil _) : RgR w1 _ noneR) rfl).mono ?_; rintro e w2 ⟨rfl, hx2⟩; go_wp2_with fail; exact ⟨rfl, hx2, rfl, rfl⟩
              · intro w1 hx1; rintro _ rfl; rintro _ rfl; change wpList _ _ _ _ _ _; exact ob_pick rfl rfl rfl rfl rfl rfl
              · intro w1 hx1; rintro _ rfl; change wpList _ _ _ _ _ _; exact ob_move rfl rfl rfl rfl rfl
              · intro w1 hx1; rintro _ rfl; change wpList _ _ _ _ _ _; have m0 := cell_of_row _ _ 0 _ _ _ (block_later Hz.out hx1); have m1 := cell_of_row _ _ 1 _ _ _ (block_later Hz.out hx1); have m2 := cell_of_row _ _ 2 _ _ _ (block_later Hz.out hx1); have m3 := cell_of_row _ _ 3 _ _ _ (block_later Hz.out hx1); go_wp2_with fail; exact ⟨rfl, Ext.refl _, rfl, rfl⟩
              · intro w1 hx1; rintro _ rfl; change wpList _ _ _ _ _ _; have m0 := cell_of_row _ _ 0 _ _ _ (block_later Hv.out hx1); have m1 := cell_of_row _ _ 1 _ _ _ (block_later Hv.out hx1); have m2 := cell_of_row _ _ 2 _ _ _ (block_later Hv.out hx1); have m3 := cell_of_row _ _ 3 _ _ _ (block_later Hv.out hx1); go_wp2_with fail; exact ⟨rfl, Ext.refl _, rfl, rfl⟩
              · intro w1 hx1; rintro _ rfl; rintro _ rfl; rintro _ rfl; change wpList _ _ _ _ _ _; go_wp2_with fail; refine (has_lit v (RgR.of (SpR.nil _) (SpR.nil _) (SpR.nil _) : RgR w1 _ noneR) HVn.out HVs.out (none_has v)).mono ?_; rintro e w2 ⟨rfl, hx2⟩; go_wp2_with fail; exact ⟨rfl, hx2, rfl, rfl⟩
              · intro w1 hx1; rintro _ rfl; rintro _ rfl; change wpList _ _ _ _ _ _; go_wp2_with fail; exact ⟨rfl, Ext.refl _, rfl, rfl⟩
              · intro w1 hx1; rintro _ rfl; rintro _ rfl; change wpList _ _ _ _ _ _; exact ob_pick rfl rfl rfl rfl rfl rfl
              · intro w1 hx1; rintro _ rfl; change wpList _ _ _ _ _ _; exact ob_move rfl rfl rfl rfl rfl
              · intro w1 hx1; rintro _ rfl; change wpList _ _ _ _ _ _; go_wp2_with fail; refine (all_any w1).mono ?_; rintro e w2 ⟨va, rfl, hA2, hx2⟩; go_wp2_with fail; exact ⟨rfl, hx2, rfl, hA2⟩
              · intro w1 hx1; rintro _ rfl; change wpList _ _ _ _ _ _; have m0 := cell_of_row _ _ 0 _ _ _ (block_later Hv.out hx1); have m1 := cell_of_row _ _ 1 _ _ _ (block_later Hv.out hx1); have m2 := cell_of_row _ _ 2 _ _ _ (block_later Hv.out hx1); have m3 := cell_of_row _ _ 3 _ _ _ (block_later Hv.out hx1); go_wp2_with fail; exact ⟨rfl, Ext.refl _, rfl, rfl⟩
              · intro w1 hx1; intro v177 h177; rintro _ rfl; rintro _ rfl; change wpList _ _ _ _ _ _; go_wp2_with fail; refine (has_lit v (show RgR w1 v177 allR from h177) HVn.out HVs.out (all_has v)).mono ?_; rintro e w2 ⟨rfl, hx2⟩; go_wp2_with fail; exact ⟨rfl, hx2, rfl, rfl⟩
              · intro w1 hx1; rintro _ rfl; rintro _ rfl; change wpList _ _ _ _ _ _; exact ob_pick rfl rfl rfl rfl rfl rfl
              · intro w1 hx1; rintro _ rfl; change wpList _ _ _ _ _ _; exact ob_move rfl rfl rfl rfl rfl
              · intro w1 hx1; rintro _ rfl; change wpList _ _ _ _ _ _; have m0 := cell_of_row _ _ 0 _ _ _ (block_later Hr.out hx1); have m1 := cell_of_row _ _ 1 _ _ _ (block_later Hr.out hx1); have m2 := cell_of_row _ _ 2 _ _ _ (block_later Hr.out hx1); have m3 := cell_of_row _ _ 3 _ _ _ (block_later Hr.out hx1); go_wp2_with fail; exact ⟨rfl, Ext.refl _, rfl, rfl⟩
              · intro w1 hx1; rintro _ rfl; change wpList _ _ _ _ _ _; go_wp2_with fail; refine (all_any w1).mono ?_; rintro e w2 ⟨va, rfl, hA2, hx2⟩; go_wp2_with fail; exact ⟨rfl, hx2, rfl, hA2⟩
              · intro w1 hx1; rintro _ rfl; intro v183 h183; rintro _ rfl; change wpList _ _ _ _ _ _; go_wp2_with fail; refine (HWra.out w1 _ _ (HRR.out.ext hx1) (show RgR w1 v183 allR from h183)).mono ?_; rintro e w2 ⟨rfl, hx2⟩; go_wp2_with fail; exact ⟨rfl, hx2, rfl, rfl⟩
              · intro w1 hx1; rintro _ rfl; rintro _ rfl; change wpList _ _ _ _ _ _; exact ob_pick rfl rfl rfl rfl rfl rfl
              · intro w1 hx1; rintro _ rfl; change wpList _ _ _ _ _ _; exact ob_move rfl rfl rfl rfl rfl
              · intro w1 hx1; rintro _ rfl; change wpList _ _ _ _ _ _; have m0 := cell_of_row _ _ 0 _ _ _ (block_later Hr.out hx1); have m1 := cell_of_row _ _ 1 _ _ _ (block_later Hr.out hx1); have m2 := cell_of_row _ _ 2 _ _ _ (block_later Hr.out hx1); have m3 := cell_of_row _ _ 3 _ _ _ (block_later Hr.out hx1); go_wp2_with fail; exact ⟨rfl, Ext.refl _, rfl, rfl⟩
              · intro w1 hx1; rintro _ rfl; change wpList _ _ _ _ _ _; go_wp2_with fail; refine (all_any w1).mono ?_; rintro e w2 ⟨va, rfl, hA2, hx2⟩; go_wp2_with fail; exact ⟨rfl, hx2, rfl, hA2⟩
              · intro w1 hx1; rintro _ rfl; intro v188 h188; rintro _ rfl; change wpList _ _ _ _ _ _; go_wp2_with fail; refine (HMra.out w1 _ _ (HRR.out.ext hx1) (show RgR w1 v188 allR from h188)).mono ?_; rintro e w2 ⟨va, rfl, hA2, hx2⟩; go_wp2_with fail; exact ⟨rfl, hx2, rfl, hA2⟩
              · intro w1 hx1; intro v189 h189; rintro _ rfl; change wpList _ _ _ _ _ _; go_wp2_with fail; refine (empty_lit (show RgR w1 v189 ra from h189) HEa.out).mono ?_; rintro e w2 ⟨rfl, hx2⟩; go_wp2_with fail; exact ⟨rfl, hx2, rfl, rfl⟩
              · intro w1 hx1; rintro _ rfl; rintro _ rfl; change wpList _ _ _ _ _ _; exact ob_pick rfl rfl rfl rfl rfl rfl
              · intro w1 hx1; rintro _ rfl; change wpList _ _ _ _ _ _; exact ob_move rfl rfl rfl rfl rfl
              · intro w1 hx1; rintro _ rfl; change wpList _ _ _ _ _ _; go_wp2_with fail; refine (wakes05_any w1).mono ?_; rintro e w2 ⟨rfl, hx2⟩; go_wp2_with fail; exact ⟨rfl, hx2, rfl, rfl⟩
              · intro w1 hx1; rintro _ rfl; rintro _ rfl; change wpList _ _ _ _ _ _; exact ob_pick rfl rfl rfl rfl rfl rfl
              · intro w1 hx1; rintro _ rfl; change wpList _ _ _ _ _ _; exact ob_assign rfl rfl rfl rfl rfl
            · intro w1 hx1; rintro _ rfl; rintro _ rfl; rintro _ rfl; rintro _ rfl; rintro _ rfl; rintro _ rfl; rintro _ rfl; rintro _ rfl; rintro _ rfl; rintro _ rfl; rintro _ rfl; rintro _ rfl; rintro _ rfl; rintro _ rfl; rintro _ rfl; rintro _ rfl; rintro _ rfl; rintro _ rfl; rintro _ rfl; intro v177 h177; rintro _ rfl; rintro _ rfl; rintro _ rfl; rintro _ rfl; rintro _ rfl; intro v183 h183; rintro _ rfl; rintro _ rfl; rintro _ rfl; rintro _ rfl; intro v188 h188; intro v189 h189; rintro _ rfl; rintro _ rfl; rintro _ rfl; rintro _ rfl; rintro _ rfl; rintro _ rfl; refine depsThen_nil ?_; dsimp only; simp only [Act.put, List.setIfInBounds_toArray, List.set_cons_zero, List.set_cons_succ]
              replace h177 : (Fact.rg allR).p v177 w1 := h177
              replace h183 : (Fact.rg allR).p v183 w1 := h183
              replace h188 : (Fact.rg allR).p v188 w1 := h188
              replace h189 : (Fact.rg ra).p v189 w1 := h189
              clear h177 h183 h188 h189
              have hw := hw.trans hx1
              go_wp2_with fail
              go_ret
              exact ⟨rfl, hw⟩
        | true =>
          obtain ⟨hx12, hyb⟩ := boxes1 w11 (.cells #[.int .i64 yk, .int .i64 yn, .string (strOf ys), .bool yb] 28)
          have hw := hw.trans hx12
          have Hv := Lib.hid (block_later Hv.out hx12)
          have Hr := Lib.hid (block_later Hr.out hx12)
          have Hs := Lib.hid (block_later Hs.out hx12)
          have Hm := Lib.hid (block_later Hm.out hx12)
          have Hl := Lib.hid (block_later Hl.out hx12)
          have HRR := Lib.hid (HRR.out.ext hx12)
          have HRS := Lib.hid (HRS.out.ext hx12)
          have HRM := Lib.hid (HRM.out.ext hx12)
          have HRL := Lib.hid (HRL.out.ext hx12)
          clear hx12
          have Hyb := Lib.hid hyb
          clear hyb
          have mm_0 := cell_of_row _ _ 0 _ _ _ Hm.out
          have mm_1 := cell_of_row _ _ 1 _ _ _ Hm.out
          have mm_2 := cell_of_row _ _ 2 _ _ _ Hm.out
          have mm_3 := cell_of_row _ _ 3 _ _ _ Hm.out
          go_wp2_with fail
          generalize w11.alloc (.cells #[.int .i64 yk, .int .i64 yn, .string (strOf ys), .bool yb] 28) = w12 at *
          generalize w11.heap.size = byb at *
          clear mm_0 mm_1 mm_2 mm_3
          have hem := Lib.hid (empty_lit HRM.out HFH.out)
          refine (hem.out).mono ?_
          rintro e w13 ⟨rfl, hx13⟩
          have hw := hw.trans hx13
          have Hv := Lib.hid (block_later Hv.out hx13)
          have Hr := Lib.hid (block_later Hr.out hx13)
          have Hs := Lib.hid (block_later Hs.out hx13)
          have Hm := Lib.hid (block_later Hm.out hx13)
          have Hl := Lib.hid (block_later Hl.out hx13)
          have Hyb := Lib.hid (block_later Hyb.out hx13)
          have HRR := Lib.hid (HRR.out.ext hx13)
          have HRS := Lib.hid (HRS.out.ext hx13)
          have HRM := Lib.hid (HRM.out.ext hx13)
          have HRL := Lib.hid (HRL.out.ext hx13)
          clear hx13
          clear hem
          clear Hyb
          go_upto_region 14 with fail
          refine wp_region_boxesV 6 [5] [Fact.eq (.agg #[.slice c1 m.i.length c2, .slice c3 m.s.length c4, .slice c5 m.b.length c6, .bool m.odd]),
              Fact.eq (.agg #[.slice b1 s.i.length b2, .slice b3 s.s.length b4, .slice b5 s.b.length b6, .bool s.odd]),
              Fact.rg ms,
              Fact.eq (.agg #[.slice d1 l.i.length d2, .slice d3 l.s.length d4, .slice d5 l.b.length d6, .bool l.odd]),
              Fact.rg bk,
              Fact.box w13.heap.size z57 57]
            [[], [], [(0, 153), (1, 154)], [], [(2, 155), (3, 156)], []]
            [(0, 153), (1, 154), (2, 155), (3, 156), (4, 157), (5, 19)] (by kernel_rfl) (by kernel_rfl) (by kernel_rfl) ?_ ?_ ?_ ?_
          · refine ⟨?_, ?_, ?_, ?_, ?_, ?_, trivial⟩
            · intro w1 hx1; change wpList _ _ _ _ _ _; have m0 := cell_of_row _ _ 0 _ _ _ (block_later Hm.out hx1); have m1 := cell_of_row _ _ 1 _ _ _ (block_later Hm.out hx1); have m2 := cell_of_row _ _ 2 _ _ _ (block_later Hm.out hx1); have m3 := cell_of_row _ _ 3 _ _ _ (block_later Hm.out hx1); go_wp2_with fail; exact ⟨rfl, Ext.refl _, rfl, rfl⟩
            · intro w1 hx1; change wpList _ _ _ _ _ _; have m0 := cell_of_row _ _ 0 _ _ _ (block_later Hs.out hx1); have m1 := cell_of_row _ _ 1 _ _ _ (block_later Hs.out hx1); have m2 := cell_of_row _ _ 2 _ _ _ (block_later Hs.out hx1); have m3 := cell_of_row _ _ 3 _ _ _ (block_later Hs.out hx1); go_wp2_with fail; exact ⟨rfl, Ext.refl _, rfl, rfl⟩
            · intro w1 hx1; rintro _ rfl; rintro _ rfl; change wpList _ _ _ _ _ _; go_wp2_with fail; refine (HAms.out w1 _ _ (HRM.out.ext hx1) (HRS.out.ext hx1)).mono ?_; rintro e w2 ⟨va, rfl, hA2, hx2⟩; go_wp2_with fail; exact ⟨rfl, hx2, rfl, hA2⟩
            · intro w1 hx1; change wpList _ _ _ _ _ _; have m0 := cell_of_row _ _ 0 _ _ _ (block_later Hl.out hx1); have m1 := cell_of_row _ _ 1 _ _ _ (block_later Hl.out hx1); have m2 := cell_of_row _ _ 2 _ _ _ (block_later Hl.out hx1); have m3 := cell_of_row _ _ 3 _ _ _ (block_later Hl.out hx1); go_wp2_with fail; exact ⟨rfl, Ext.refl _, rfl, rfl⟩
            · intro w1 hx1; intro v155 h155; rintro _ rfl; change wpList _ _ _ _ _ _; go_wp2_with fail; refine (HMbk.out w1 _ _ (show RgR w1 v155 ms from h155) (HRL.out.ext hx1)).mono ?_; rintro e w2 ⟨va, rfl, hA2, hx2⟩; go_wp2_with fail; exact ⟨rfl, hx2, rfl, hA2⟩
            · intro w1 hx1; change wpList _ _ _ _ _ _; go_wp2_with fail; exact ⟨rfl, (Ext.refl _).alloc _, rfl, _, rfl, hx1.size, (boxes1 w1 _).2⟩
          · intro i hi; simp only [List.mem_cons, List.not_mem_nil, or_false] at hi; rcases hi with rfl <;> exact ⟨_, _, _, rfl, rfl, ⟨_, rfl⟩, rfl, zero57, by decide⟩
          · intro i hi; simp only [List.mem_cons, List.not_mem_nil, or_false] at hi; rcases hi with rfl <;> rintro v w ⟨b, rfl, _, hb⟩ <;> exact ⟨b, rfl, (Array.getElem?_eq_some_iff.1 hb).1⟩
          · intro w1 hx1; rintro _ rfl; rintro _ rfl; intro v155 h155; rintro _ rfl; intro v157 h157; intro v19 h19; refine depsThenV_nil ?_; intro hap; clear hap; dsimp only; simp only [Act.put, List.setIfInBounds_toArray, List.set_cons_zero, List.set_cons_succ, List.drop_succ_cons, List.drop_zero]
            replace h155 : (Fact.rg ms).p v155 w1 := h155
            replace h157 : (Fact.rg bk).p v157 w1 := h157
            replace h19 : (Fact.box w13.heap.size z57 57).p v19 w1 := h19
            have hrk : RgR w1 v157 bk := h157
            clear h157 h155
            obtain ⟨e1, e2, e3, e4, e5, e6, rfl, _, _, _⟩ := hrk.ex
            obtain ⟨bkk, rfl, hbk, hb19⟩ := h19
            obtain ⟨hxf, e19, hrk2⟩ := one_filled (cm := #[.slice e1 bk.i.length e2, .slice e3 bk.s.length e4, .slice e5 bk.b.length e6, .bool bk.odd]) hx1 hbk hb19 hrk
            have H19 := Lib.hid hb19
            have Hkk := Lib.hid e19
            clear hb19 e19 hrk hx1 hbk
            obtain ⟨hxz, hz⟩ := boxes1 (w1.setRow bkk #[.slice e1 bk.i.length e2, .slice e3 bk.s.length e4, .slice e5 bk.b.length e6, .bool bk.odd]) (.cells #[.slice none 0 0, .slice none 0 0, .slice none 0 0, .bool false] 57)
            have hxf := hxf.trans hxz
            have hzs : (w1.setRow bkk #[.slice e1 bk.i.length e2, .slice e3 bk.s.length e4, .slice e5 bk.b.length e6, .bool bk.odd]).heap.size = w1.heap.size := by simp
            rw [hzs] at hz
            clear hzs
            have Hz := Lib.hid hz
            have Hkk := Lib.hid (block_later Hkk.out hxz)
            have hrk2 := hrk2.ext hxz
            clear hz hxz
            go_upto_region 16 with (refine wpList_store_whole 57 (.tmp 19) (.tmp 157) rfl rfl bkk rfl #[.slice e1 bk.i.length e2, .slice e3 bk.s.length e4, .slice e5 bk.b.length e6, .bool bk.odd] rfl _ 57 H19.out rfl info57s (by simp [Value.oneCell']) ?_)
            clear H19
            generalize (w1.setRow bkk #[.slice e1 bk.i.length e2, .slice e3 bk.s.length e4, .slice e5 bk.b.length e6, .bool bk.odd]).alloc (.cells #[.slice none 0 0, .slice none 0 0, .slice none 0 0, .bool false] 57) = w14 at *
            generalize w1.heap.size = bz at *
            have hw := hw.trans hxf
            have Hv := Lib.hid (block_later Hv.out hxf)
            have Hr := Lib.hid (block_later Hr.out hxf)
            have Hs := Lib.hid (block_later Hs.out hxf)
            have Hm := Lib.hid (block_later Hm.out hxf)
            have Hl := Lib.hid (block_later Hl.out hxf)
            have HRR := Lib.hid (HRR.out.ext hxf)
            have HRS := Lib.hid (HRS.out.ext hxf)
            have HRM := Lib.hid (HRM.out.ext hxf)
            have HRL := Lib.hid (HRL.out.ext hxf)
            clear hxf
            have HRK := Lib.hid hrk2
            clear hrk2
            refine wp_region_facts [Fact.eq (.agg #[.slice e1 bk.i.length e2, .slice e3 bk.s.length e4, .slice e5 bk.b.length e6, .bool bk.odd]),
                Fact.eq (.agg #[.slice c1 m.i.length c2, .slice c3 m.s.length c4, .slice c5 m.b.length c6, .bool m.odd]),
                Fact.eq (.bool true),
                Fact.eq (.bool true),
                Fact.eq (.agg #[.slice c1 m.i.length c2, .slice c3 m.s.length c4, .slice c5 m.b.length c6, .bool m.odd]),
                Fact.eq (.agg #[.slice e1 bk.i.length e2, .slice e3 bk.s.length e4, .slice e5 bk.b.length e6, .bool bk.odd]),
                Fact.eq (.bool true),
                Fact.eq (.bool true),
                Fact.eq (.bool true),
                Fact.eq (.agg #[.slice none 0 0, .slice none 0 0, .slice none 0 0, .bool false]),
                Fact.eq (.bool true),
                Fact.eq (.bool true),
                Fact.eq (.bool true),
                Fact.eq (.agg #[.slice none 0 0, .slice none 0 0, .slice none 0 0, .bool false]),
                Fact.eq (.agg #[.int .i64 v.k, .int .i64 v.n, .string (strOf v.s), .bool v.b]),
                Fact.eq (.bool false),
                Fact.eq (.bool true),
                Fact.eq (.bool true),
                Fact.eq (.bool true),
                Fact.rg allR,
                Fact.eq (.agg #[.int .i64 v.k, .int .i64 v.n, .string (strOf v.s), .bool v.b]),
                Fact.eq (.bool true),
                Fact.eq (.bool true),
                Fact.eq (.bool true),
                Fact.eq (.agg #[.slice a1 r.i.length a2, .slice a3 r.s.length a4, .slice a5 r.b.length a6, .bool r.odd]),
                Fact.rg allR,
                Fact.eq (.bool true),
                Fact.eq (.bool true),
                Fact.eq (.bool true),
                Fact.eq (.agg #[.slice a1 r.i.length a2, .slice a3 r.s.length a4, .slice a5 r.b.length a6, .bool r.odd]),
                Fact.rg allR,
                Fact.rg ra,
                Fact.eq (.bool true),
                Fact.eq (.bool true),
                Fact.eq (.bool true),
                Fact.eq (.bool true),
                Fact.eq (.bool true),
                Fact.eq (.bool true)]
              [[], [], [(0, 158), (1, 159)], [(2, 160)], [(3, 161)], [(3, 161)], [(4, 162), (5, 163), (3, 161)], [(3, 161), (6, 164)], [(7, 165)], [(8, 166)], [(9, 167), (8, 166)], [(8, 166), (10, 168)], [(11, 169)], [(12, 170)], [(12, 170)], [(13, 171), (14, 172), (12, 170)], [(15, 173), (12, 170)], [(12, 170), (16, 174)], [(17, 175)], [(18, 176)], [(18, 176)], [(19, 177), (20, 178), (18, 176)], [(18, 176), (21, 179)], [(22, 180)], [(23, 181)], [(23, 181)], [(24, 182), (25, 183), (23, 181)], [(23, 181), (26, 184)], [(27, 185)], [(28, 186)], [(28, 186)], [(29, 187), (30, 188), (28, 186)], [(31, 189), (28, 186)], [(28, 186), (32, 190)], [(33, 191)], [(34, 192)], [(34, 192), (35, 193)], [(36, 194)]]
              [(0, 158), (1, 159), (2, 160), (3, 161), (4, 162), (5, 163), (6, 164), (7, 165), (8, 166), (9, 167), (10, 168), (11, 169), (12, 170), (13, 171), (14, 172), (15, 173), (16, 174), (17, 175), (18, 176), (19, 177), (20, 178), (21, 179), (22, 180), (23, 181), (24, 182), (25, 183), (26, 184), (27, 185), (28, 186), (29, 187), (30, 188), (31, 189), (32, 190), (33, 191), (34, 192), (35, 193), (36, 194), (37, 8)] (by kernel_rfl) (by kernel_rfl) ?_ ?_
            · refine ⟨?_, ?_, ?_, ?_, ?_, ?_, ?_, ?_, ?_, ?_, ?_, ?_, ?_, ?_, ?_, ?_, ?_, ?_, ?_, ?_, ?_, ?_, ?_, ?_, ?_, ?_, ?_, ?_, ?_, ?_, ?_, ?_, ?_, ?_, ?_, ?_, ?_, ?_, trivial⟩
              · intro w1 hx1; change wpList _ _ _ _ _ _; have m0 := cell_of_row _ _ 0 _ _ _ (block_later Hkk.out hx1); have m1 := cell_of_row _ _ 1 _ _ _ (block_later Hkk.out hx1); have m2 := cell_of_row _ _ 2 _ _ _ (block_later Hkk.out hx1); have m3 := cell_of_row _ _ 3 _ _ _ (block_later Hkk.out hx1); go_wp2_with fail; exact ⟨rfl, Ext.refl _, rfl, rfl⟩
              · intro w1 hx1; change wpList _ _ _ _ _ _; have m0 := cell_of_row _ _ 0 _ _ _ (block_later Hm.out hx1); have m1 := cell_of_row _ _ 1 _ _ _ (block_later Hm.out hx1); have m2 := cell_of_row _ _ 2 _ _ _ (block_later Hm.out hx1); have m3 := cell_of_row _ _ 3 _ _ _ (block_later Hm.out hx1); go_wp2_with fail; exact ⟨rfl, Ext.refl _, rfl, rfl⟩
              · intro w1 hx1; rintro _ rfl; rintro _ rfl; change wpList _ _ _ _ _ _; go_wp2_with fail; refine (HWbm.out w1 _ _ (HRK.out.ext hx1) (HRM.out.ext hx1)).mono ?_; rintro e w2 ⟨rfl, hx2⟩; go_wp2_with fail; exact ⟨rfl, hx2, rfl, rfl⟩
              · intro w1 hx1; rintro _ rfl; change wpList _ _ _ _ _ _; exact ob_move rfl rfl rfl rfl rfl
              · intro w1 hx1; rintro _ rfl; change wpList _ _ _ _ _ _; have m0 := cell_of_row _ _ 0 _ _ _ (block_later Hm.out hx1); have m1 := cell_of_row _ _ 1 _ _ _ (block_later Hm.out hx1); have m2 := cell_of_row _ _ 2 _ _ _ (block_later Hm.out hx1); have m3 := cell_of_row _ _ 3 _ _ _ (block_later Hm.out hx1); go_wp2_with fail; exact ⟨rfl, Ext.refl _, rfl, rfl⟩
              · intro w1 hx1; rintro _ rfl; change wpList _ _ _ _ _ _; have m0 := cell_of_row _ _ 0 _ _ _ (block_later Hkk.out hx1); have m1 := cell_of_row _ _ 1 _ _ _ (block_later Hkk.out hx1); have m2 := cell_of_row _ _ 2 _ _ _ (block_later Hkk.out hx1); have m3 := cell_of_row _ _ 3 _ _ _ (block_later Hkk.out hx1); go_wp2_with fail; exact ⟨rfl, Ext.refl _, rfl, rfl⟩
              · intro w1 hx1; rintro _ rfl; rintro _ rfl; rintro _ rfl; change wpList _ _ _ _ _ _; go_wp2_with fail; refine (HWmb.out w1 _ _ (HRM.out.ext hx1) (HRK.out.ext hx1)).mono ?_; rintro e w2 ⟨rfl, hx2⟩; go_wp2_with fail; exact ⟨rfl, hx2, rfl, rfl⟩
              · intro w1 hx1; rintro _ rfl; rintro _ rfl; change wpList _ _ _ _ _ _; exact ob_pick rfl rfl rfl rfl rfl rfl
              · intro w1 hx1; rintro _ rfl; change wpList _ _ _ _ _ _; exact ob_move rfl rfl rfl rfl rfl
              · intro w1 hx1; rintro _ rfl; change wpList _ _ _ _ _ _; have m0 := cell_of_row _ _ 0 _ _ _ (block_later Hz.out hx1); have m1 := cell_of_row _ _ 1 _ _ _ (block_later Hz.out hx1); have m2 := cell_of_row _ _ 2 _ _ _ (block_later Hz.out hx1); have m3 := cell_of_row _ _ 3 _ _ _ (block_later Hz.out hx1); go_wp2_with fail; exact ⟨rfl, Ext.refl _, rfl, rfl⟩
              · intro w1 hx1; rintro _ rfl; rintro _ rfl; change wpList _ _ _ _ _ _; go_wp2_with fail; refine (empty_lit (RgR.of (SpR.nil _) (SpR.nil _) (SpR.nil _) : RgR w1 _ noneR) rfl).mono ?_; rintro e w2 ⟨rfl, hx2⟩; go_wp2_with fail; exact ⟨rfl, hx2, rfl, rfl⟩
              · intro w1 hx1; rintro _ rfl; rintro _ rfl; change wpList _ _ _ _ _ _; exact ob_pick rfl rfl rfl rfl rfl rfl
              · intro w1 hx1; rintro _ rfl; change wpList _ _ _ _ _ _; exact ob_move rfl rfl rfl rfl rfl
              · intro w1 hx1; rintro _ rfl; change wpList _ _ _ _ _ _; have m0 := cell_of_row _ _ 0 _ _ _ (block_later Hz.out hx1); have m1 := cell_of_row _ _ 1 _ _ _ (block_later Hz.out hx1); have m2 := cell_of_row _ _ 2 _ _ _ (block_later Hz.out hx1); have m3 := cell_of_row _ _ 3 _ _ _ (block_later Hz.out hx1); go_wp2_with fail; exact ⟨rfl, Ext.refl _, rfl, rfl⟩
              · intro w1 hx1; rintro _ rfl; change wpList _ _ _ _ _ _; have m0 := cell_of_row _ _ 0 _ _ _ (block_later Hv.out hx1); have m1 := cell_of_row _ _ 1 _ _ _ (block_later Hv.out hx1); have m2 := cell_of_row _ _ 2 _ _ _ (block_later Hv.out hx1); have m3 := cell_of_row _ _ 3 _ _ _ (block_later Hv.out hx1); go_wp2_with fail; exact ⟨rfl, Ext.refl _, rfl, rfl⟩
              · intro w1 hx1; rintro _ rfl; rintro _ rfl; rintro _ rfl; change wpList _ _ _ _ _ _; go_wp2_with fail; refine (has_lit v (RgR.of (SpR.nil _) (SpR.nil _) (SpR.nil _) : RgR w1 _ noneR) HVn.out HVs.out (none_has v)).mono ?_; rintro e w2 ⟨rfl, hx2⟩; go_wp2_with fail; exact ⟨rfl, hx2, rfl, rfl⟩
              · intro w1 hx1; rintro _ rfl; rintro _ rfl; change wpList _ _ _ _ _ _; go_wp2_with fail; exact ⟨rfl, Ext.refl _, rfl, rfl⟩
              · intro w1 hx1; rintro _ rfl; rintro _ rfl; change wpList _ _ _ _ _ _; exact ob_pick rfl rfl rfl rfl rfl rfl
              · intro w1 hx1; rintro _ rfl; change wpList _ _ _ _ _ _; exact ob_move rfl rfl rfl rfl rfl
              · intro w1 hx1; rintro _ rfl; change wpList _ _ _ _ _ _; go_wp2_with fail; refine (all_any w1).mono ?_; rintro e w2 ⟨va, rfl, hA2, hx2⟩; go_wp2_with fail; exact ⟨rfl, hx2, rfl, hA2⟩
              · intro w1 hx1; rintro _ rfl; change wpList _ _ _ _ _ _; have m0 := cell_of_row _ _ 0 _ _ _ (block_later Hv.out hx1); have m1 := cell_of_row _ _ 1 _ _ _ (block_later Hv.out hx1); have m2 := cell_of_row _ _ 2 _ _ _ (block_later Hv.out hx1); have m3 := cell_of_row _ _ 3 _ _ _ (block_later Hv.out hx1); go_wp2_with fail; exact ⟨rfl, Ext.refl _, rfl, rfl⟩
              · intro w1 hx1; intro v177 h177; rintro _ rfl; rintro _ rfl; change wpList _ _ _ _ _ _; go_wp2_with fail; refine (has_lit v (show RgR w1 v177 allR from h177) HVn.out HVs.out (all_has v)).mono ?_; rintro e w2 ⟨rfl, hx2⟩; go_wp2_with fail; exact ⟨rfl, hx2, rfl, rfl⟩
              · intro w1 hx1; rintro _ rfl; rintro _ rfl; change wpList _ _ _ _ _ _; exact ob_pick rfl rfl rfl rfl rfl rfl
              · intro w1 hx1; rintro _ rfl; change wpList _ _ _ _ _ _; exact ob_move rfl rfl rfl rfl rfl
              · intro w1 hx1; rintro _ rfl; change wpList _ _ _ _ _ _; have m0 := cell_of_row _ _ 0 _ _ _ (block_later Hr.out hx1); have m1 := cell_of_row _ _ 1 _ _ _ (block_later Hr.out hx1); have m2 := cell_of_row _ _ 2 _ _ _ (block_later Hr.out hx1); have m3 := cell_of_row _ _ 3 _ _ _ (block_later Hr.out hx1); go_wp2_with fail; exact ⟨rfl, Ext.refl _, rfl, rfl⟩
              · intro w1 hx1; rintro _ rfl; change wpList _ _ _ _ _ _; go_wp2_with fail; refine (all_any w1).mono ?_; rintro e w2 ⟨va, rfl, hA2, hx2⟩; go_wp2_with fail; exact ⟨rfl, hx2, rfl, hA2⟩
              · intro w1 hx1; rintro _ rfl; intro v183 h183; rintro _ rfl; change wpList _ _ _ _ _ _; go_wp2_with fail; refine (HWra.out w1 _ _ (HRR.out.ext hx1) (show RgR w1 v183 allR from h183)).mono ?_; rintro e w2 ⟨rfl, hx2⟩; go_wp2_with fail; exact ⟨rfl, hx2, rfl, rfl⟩
              · intro w1 hx1; rintro _ rfl; rintro _ rfl; change wpList _ _ _ _ _ _; exact ob_pick rfl rfl rfl rfl rfl rfl
              · intro w1 hx1; rintro _ rfl; change wpList _ _ _ _ _ _; exact ob_move rfl rfl rfl rfl rfl
              · intro w1 hx1; rintro _ rfl; change wpList _ _ _ _ _ _; have m0 := cell_of_row _ _ 0 _ _ _ (block_later Hr.out hx1); have m1 := cell_of_row _ _ 1 _ _ _ (block_later Hr.out hx1); have m2 := cell_of_row _ _ 2 _ _ _ (block_later Hr.out hx1); have m3 := cell_of_row _ _ 3 _ _ _ (block_later Hr.out hx1); go_wp2_with fail; exact ⟨rfl, Ext.refl _, rfl, rfl⟩
              · intro w1 hx1; rintro _ rfl; change wpList _ _ _ _ _ _; go_wp2_with fail; refine (all_any w1).mono ?_; rintro e w2 ⟨va, rfl, hA2, hx2⟩; go_wp2_with fail; exact ⟨rfl, hx2, rfl, hA2⟩
              · intro w1 hx1; rintro _ rfl; intro v188 h188; rintro _ rfl; change wpList _ _ _ _ _ _; go_wp2_with fail; refine (HMra.out w1 _ _ (HRR.out.ext hx1) (show RgR w1 v188 allR from h188)).mono ?_; rintro e w2 ⟨va, rfl, hA2, hx2⟩; go_wp2_with fail; exact ⟨rfl, hx2, rfl, hA2⟩
              · intro w1 hx1; intro v189 h189; rintro _ rfl; change wpList _ _ _ _ _ _; go_wp2_with fail; refine (empty_lit (show RgR w1 v189 ra from h189) HEa.out).mono ?_; rintro e w2 ⟨rfl, hx2⟩; go_wp2_with fail; exact ⟨rfl, hx2, rfl, rfl⟩
              · intro w1 hx1; rintro _ rfl; rintro _ rfl; change wpList _ _ _ _ _ _; exact ob_pick rfl rfl rfl rfl rfl rfl
              · intro w1 hx1; rintro _ rfl; change wpList _ _ _ _ _ _; exact ob_move rfl rfl rfl rfl rfl
              · intro w1 hx1; rintro _ rfl; change wpList _ _ _ _ _ _; go_wp2_with fail; refine (wakes05_any w1).mono ?_; rintro e w2 ⟨rfl, hx2⟩; go_wp2_with fail; exact ⟨rfl, hx2, rfl, rfl⟩
              · intro w1 hx1; rintro _ rfl; rintro _ rfl; change wpList _ _ _ _ _ _; exact ob_pick rfl rfl rfl rfl rfl rfl
              · intro w1 hx1; rintro _ rfl; change wpList _ _ _ _ _ _; exact ob_assign rfl rfl rfl rfl rfl
            · intro w1 hx1; rintro _ rfl; rintro _ rfl; rintro _ rfl; rintro _ rfl; rintro _ rfl; rintro _ rfl; rintro _ rfl; rintro _ rfl; rintro _ rfl; rintro _ rfl; rintro _ rfl; rintro _ rfl; rintro _ rfl; rintro _ rfl; rintro _ rfl; rintro _ rfl; rintro _ rfl; rintro _ rfl; rintro _ rfl; intro v177 h177; rintro _ rfl; rintro _ rfl; rintro _ rfl; rintro _ rfl; rintro _ rfl; intro v183 h183; rintro _ rfl; rintro _ rfl; rintro _ rfl; rintro _ rfl; intro v188 h188; intro v189 h189; rintro _ rfl; rintro _ rfl; rintro _ rfl; rintro _ rfl; rintro _ rfl; rintro _ rfl; refine depsThen_nil ?_; dsimp only; simp only [Act.put, List.setIfInBounds_toArray, List.set_cons_zero, List.set_cons_succ]
              replace h177 : (Fact.rg allR).p v177 w1 := h177
              replace h183 : (Fact.rg allR).p v183 w1 := h183
              replace h188 : (Fact.rg allR).p v188 w1 := h188
              replace h189 : (Fact.rg ra).p v189 w1 := h189
              clear h177 h183 h188 h189
              have hw := hw.trans hx1
              go_wp2_with fail
              go_ret
              exact ⟨rfl, hw⟩

theorem coverValues_walk (w : World) (vp vq : Value) (p q : List C) (name : List UInt8) (v : V) (hp : PredR w vp p) (hq : PredR w vq q) (kp : ∀ c ∈ p, okC c) (kq : ∀ c ∈ q, okC c) (hvn : okN v.n) (hvs : v.s.length ≤ 140737488355328) :
    Calls Try.prog 8 #[vp, vq, .string (strOf name), .agg #[.int .i64 v.k, .int .i64 v.n, .string (strOf v.s), .bool v.b]] w fun e w' => e = .returned (.bool true) ∧ Ext w w' := by
  obtain ⟨ap, cp, rfl, _, _⟩ := hp.shape
  obtain ⟨aq, cq, rfl, _, _⟩ := hq.shape
  cases h1 : mayP p with
  | false => exact coverValues_bad w _ _ _ _ p q name v hp hq kp kq (.inl h1)
  | true => cases h2 : mayP q with
    | false => exact coverValues_bad w _ _ _ _ p q name v hp hq kp kq (.inr h2)
    | true => exact coverValues_yes w _ _ _ _ p q name v hp hq kp kq h1 h2 hvn hvs
end Go.Proofs.Ytkefppdacigbmaa
