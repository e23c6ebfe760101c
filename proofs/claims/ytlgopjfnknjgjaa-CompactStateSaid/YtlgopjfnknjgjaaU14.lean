/- breakPatternsOrdered at uint64 (55): the range is permuted. -/
import Derived.Test.YtlgopjfnknjgjaaU13
namespace Go.Proofs.Ytlgopjfnknjgjaa
open Go.RowKit

theorem grown_box {w a b : World} {r : Option Nat} {s : Nat} (h : w.grownBy a r) (k : a.grownBy b (some s)) (hs : w.heap.size ≤ s) : w.grownBy b r :=
  ⟨k.os.trans h.os, k.tape.trans h.tape, k.output.trans h.output, Nat.le_trans h.size k.size, fun i hi hne => (k.block i (Nat.lt_of_lt_of_le hi h.size) (by intro e; cases e; omega)).trans (h.block i hi hne)⟩
theorem XB.kept {s : Nat} {base g cap : Nat} {w w' : World} {n : Nat} {d : Array Nat} (h : XB s w n) (ho : UO base g cap w d) (hg : w.grownBy w' (some g)) : XB s w' n := by
  have hne : g ≠ s := fun e => by
    subst e
    rcases ho.2 with ⟨e, _⟩ | ⟨g', c, cur, e, hb, hgg, _⟩
    · cases e
    · cases e
      unfold XB at h
      rw [hgg] at h
      cases h
  exact (hg.block s (Array.getElem?_eq_some_iff.1 h).1 (fun e => hne (by cases e; rfl))).trans h
def BreakQ (base g cap : Nat) (w : World) (d : Array Nat) (a b : Nat) (e : Ending) (w' : World) : Prop := e = .returned (.tuple #[]) ∧ ∃ d' : Array Nat, Sort.PermIn a b d d' ∧ UOq base g cap w d' w'
theorem and_le (r m : Nat) : r &&& m ≤ m := Nat.and_le_right
theorem and_small (r m : Nat) (hr : r < 18446744073709551616) (hm : m < 1024) : ∃ o : Nat, o ≤ m ∧ bits .and .u64 (r : Int) (m : Int) = (o : Int) := ⟨r &&& m, and_le r m, u64_and_nat _ _ hr (by omega)⟩

set_option maxRecDepth 100000 in
set_option maxHeartbeats 16000000 in
theorem break_any (base g cap : Nat) (d : Array Nat) (a b : Nat) (w : World) (ho : UO base g cap w d) (hab : a < b) (hb : b ≤ d.size) (hsz : d.size < 512) :
    Calls Try.prog 55 #[.slice (some ⟨g, 0, none⟩) d.size cap, .int .i64 a, .int .i64 b] w (BreakQ base g cap w d a b) := by
  have HO := Lib.hid ho
  clear ho
  generalize hN : d.size = N at *
  have HS := Lib.hid hN
  clear hN
  obtain ⟨l0, hl0⟩ : ∃ x, x = b - a := ⟨_, rfl⟩
  have q1 : (b : Int) - (a : Int) = (l0 : Int) := by omega
  have hl1 : l0 < 512 := by omega
  by_cases h8 : 8 ≤ l0
  · have hI : decide ((8 : Int) ≤ (l0 : Int)) = true := decide_eq_true (by omega)
    obtain ⟨q, hq⟩ : ∃ x, x = l0 / 4 := ⟨_, rfl⟩
    obtain ⟨q2, hq2⟩ : ∃ x, x = q * 2 := ⟨_, rfl⟩
    obtain ⟨c0, hc0⟩ : ∃ x, x = a + q2 := ⟨_, rfl⟩
    obtain ⟨lo, hlo⟩ : ∃ x, x = c0 - 1 := ⟨_, rfl⟩
    obtain ⟨hi, hhi⟩ : ∃ x, x = c0 + 1 := ⟨_, rfl⟩
    have e2 : (l0 : Int) / 4 = (q : Int) := by omega
    have e3 : (q : Int) * 2 = (q2 : Int) := by omega
    have e4 : (a : Int) + (q2 : Int) = (c0 : Int) := by omega
    have e5 : (c0 : Int) - 1 = (lo : Int) := by omega
    have e6 : (c0 : Int) + 1 = (hi : Int) := by omega
    have f1 : a ≤ lo ∧ hi < b ∧ lo ≤ hi := by omega
    have f2 : q ≤ 512 ∧ q2 ≤ 1024 ∧ c0 ≤ 2048 ∧ lo ≤ 2048 ∧ hi ≤ 2048 := by omega
    have F1 := Lib.hid f1
    have HL0 := Lib.hid hl0
    have f3 : q ≤ 512 := f2.1
    have f4 : q2 ≤ 1024 := f2.2.1
    have f5 : c0 ≤ 2048 := f2.2.2.1
    have f6 : lo ≤ 2048 := f2.2.2.2.1
    have f7 : hi ≤ 2048 := f2.2.2.2.2
    clear hl0 hq hq2 hc0 hlo hhi f1 f2
    have hx0 : Ext w (w.alloc (.cells #[.int .u64 l0] 125)) := (Ext.refl w).alloc _
    have hX0 : XB w.heap.size (w.alloc (.cells #[.int .u64 l0] 125)) l0 := heap_alloc_new w _
    have HX0 := Lib.hid hX0
    have HE0 := Lib.hid hx0
    have HPW := Lib.hid (fun W => pow_any W l0 (by omega) hl1)
    clear hX0 hx0
    go_enter Try.func55, Try.ntmps55
    go_upto_region 4 with ((with_reducible refine (HPW.out _).mono ?_); rintro e w1 ⟨M, rfl, k1, k2, hx⟩; have K1 := Lib.hid k1; have K2 := Lib.hid k2; have HX1 := Lib.hid hx; clear k1 k2 hx)
    obtain ⟨M1, hM1⟩ : ∃ x, x = M - 1 := ⟨_, rfl⟩
    have qM : (M : Int) - 1 = (M1 : Int) := by have := K1.out; omega
    have hM2 : M1 < 1024 := by have := K2.out; omega
    have hM3 : M ≤ 1024 := by have := K2.out; omega
    have HM1 := Lib.hid hM1
    clear hM1
    have hst : Hid (∃ dk : Array Nat, Sort.PermIn a b d dk ∧ UO base g cap w1 dk ∧ w.grownBy w1 (some g)) := ⟨d, Sort.permIn_refl d a b, (HO.out.ext HE0.out).ext HX1.out, grown_of_ext (HE0.out.trans HX1.out)⟩
    have hxs : Hid (∃ r : Nat, r < 18446744073709551616 ∧ XB w.heap.size w1 r) := ⟨l0, by omega, HX0.out.ext HX1.out⟩
    clear HX0 HE0 HPW HX1
    go_wp2_with fail
    go_loopw [9, 10] (fun iv _ wq => ∃ ix : Nat, iv = .int .i64 ix ∧ lo ≤ ix ∧ ix ≤ hi + 1 ∧ Hid (∃ dk : Array Nat, Sort.PermIn a b d dk ∧ UO base g cap wq dk ∧ w.grownBy wq (some g)) ∧ Hid (∃ r : Nat, r < 18446744073709551616 ∧ XB w.heap.size wq r)) (fun iv _ _ => hi + 1 - (intOf iv).toNat)
    case atStart => exact ⟨lo, rfl, Nat.le_refl _, by have := F1.out; omega, hst, hxs⟩
    case round =>
      clear hst hxs
      obtain ⟨ix, rfl, hix1, hix2, hst, hxs⟩ := hrel
      by_cases hlt : ix ≤ hi
      · have hI2 : decide ((ix : Int) ≤ (hi : Int)) = true := decide_eq_true (by omega)
        obtain ⟨dk, e7, e8, e9⟩ := hst.out
        obtain ⟨r, hr, hxr⟩ := hxs.out
        have hnext := next_any w.heap.size r wr hxr hr
        have HNX := Lib.hid hnext
        have P1 := Lib.hid e7
        have U1 := Lib.hid e8
        have G1 := Lib.hid e9
        have X1 := Lib.hid hxr
        clear e7 e8 e9 hr hxr hnext hst hxs
        go_upto_region 8 with ((with_reducible refine HNX.out.mono ?_); rintro e w2 ⟨r2, hr2, rfl, hx2, hg2⟩; obtain ⟨ot, ho1, ho2⟩ := and_small r2 M1 hr2 hM2; have HR2 := Lib.hid hr2; have HX2 := Lib.hid hx2; have HG2 := Lib.hid hg2; have HOT := Lib.hid ho1; have ho3 : ot ≤ 1024 := (by omega); clear hr2 hx2 hg2 ho1)
        -- the exchange
        clear ho2
        have U2 := Lib.hid (U1.out.keptX X1.out HG2.out)
        have G2 := Lib.hid (grown_box G1.out HG2.out (Nat.le_refl _))
        clear U1 G1 HNX X1
        have HSD := Lib.hid (P1.out.1.trans HS.out)
        by_cases ho4 : l0 ≤ ot
        · have hI4 : decide ((l0 : Int) ≤ (ot : Int)) = true := decide_eq_true (by omega)
          obtain ⟨o2, h2⟩ : ∃ x, x = ot - l0 := ⟨_, rfl⟩
          have qo : (ot : Int) - (l0 : Int) = (o2 : Int) := by omega
          have hol : o2 < l0 := by have h1 := HOT.out; have h3 := HM1.out; have h4 := K2.out; omega
          have hlb : a + l0 = b := by have := HL0.out; omega
          have HO2 := Lib.hid h2
          clear h2
          obtain ⟨p, hp⟩ : ∃ x, x = a + o2 := ⟨_, rfl⟩
          have qp : (a : Int) + (o2 : Int) = (p : Int) := by omega
          have hpb : a ≤ p ∧ p < b := by omega
          have hib : a ≤ ix ∧ ix < b := by have := F1.out; omega
          clear hp
          have c0 := U2.out.cell (i := ix) (by rw [HSD.out]; omega)
          have c1 := U2.out.cell (i := p) (by rw [HSD.out]; omega)
          have z0 := U2.out.free ix
          have z1 := U2.out.free p
          have hw := uO_swp U2.out (i := ix) (j := p) (by rw [HSD.out]; omega) (by rw [HSD.out]; omega)
          have HW := Lib.hid hw
          clear hw
          have b0 : (ix : Int) < (N : Int) := by omega
          have b1 : (p : Int) < (N : Int) := by omega
          obtain ⟨v', hy'⟩ := cell?_setCell_some (w := w2) (p := ⟨g, ix, none⟩) (x := .int .u64 dk[p]!) (q := ⟨g, p, none⟩) c1
          generalize dk[ix]! = y0 at *
          generalize dk[p]! = y1 at *
          go_upto_region 10 with fail
          go_region
          obtain ⟨h1, h2⟩ := HW.out
          have HWG := Lib.hid h2
          have HZ1 := Lib.hid (h1.ext (Ext.refl _).drew)
          have HZ2 := Lib.hid (grown_trans (grown_trans G2.out h2) (grown_of_ext (Ext.refl _).drew))
          clear h1 h2 c0 c1 z0 z1 HW b0 b1 hy'
          have hperm := Sort.permIn_trans d dk _ a b P1.out (Sort.swp_permIn dk a b ix p hib.1 hib.2 hpb.1 hpb.2 (by rw [HSD.out]; exact hb))
          have HP := Lib.hid hperm
          have hxz : XB w.heap.size (World.drew _) r2 := (HX2.out.kept U2.out HWG.out).ext (Ext.refl _).drew
          have HXZ := Lib.hid hxz
          clear hperm hxz
          generalize World.drew _ = w4 at *
          go_wp2_with fail
          go_roundw
          case rel => exact ⟨ix + 1, by go_num, by omega, by omega, ⟨_, HP.out, HZ1.out, HZ2.out⟩, ⟨r2, HR2.out, HXZ.out⟩⟩
          case measure => simp [intOf]; omega
        · have hI4 : decide ((l0 : Int) ≤ (ot : Int)) = false := decide_eq_false (by omega)
          have hol : ot < l0 := by omega
          have hlb : a + l0 = b := by have := HL0.out; omega
          obtain ⟨p, hp⟩ : ∃ x, x = a + ot := ⟨_, rfl⟩
          have qp : (a : Int) + (ot : Int) = (p : Int) := by omega
          have hpb : a ≤ p ∧ p < b := by omega
          have hib : a ≤ ix ∧ ix < b := by have := F1.out; omega
          clear hp
          have c0 := U2.out.cell (i := ix) (by rw [HSD.out]; omega)
          have c1 := U2.out.cell (i := p) (by rw [HSD.out]; omega)
          have z0 := U2.out.free ix
          have z1 := U2.out.free p
          have hw := uO_swp U2.out (i := ix) (j := p) (by rw [HSD.out]; omega) (by rw [HSD.out]; omega)
          have HW := Lib.hid hw
          clear hw
          have b0 : (ix : Int) < (N : Int) := by omega
          have b1 : (p : Int) < (N : Int) := by omega
          obtain ⟨v', hy'⟩ := cell?_setCell_some (w := w2) (p := ⟨g, ix, none⟩) (x := .int .u64 dk[p]!) (q := ⟨g, p, none⟩) c1
          generalize dk[ix]! = y0 at *
          generalize dk[p]! = y1 at *
          go_upto_region 10 with fail
          go_region
          obtain ⟨h1, h2⟩ := HW.out
          have HWG := Lib.hid h2
          have HZ1 := Lib.hid (h1.ext (Ext.refl _).drew)
          have HZ2 := Lib.hid (grown_trans (grown_trans G2.out h2) (grown_of_ext (Ext.refl _).drew))
          clear h1 h2 c0 c1 z0 z1 HW b0 b1 hy'
          have hperm := Sort.permIn_trans d dk _ a b P1.out (Sort.swp_permIn dk a b ix p hib.1 hib.2 hpb.1 hpb.2 (by rw [HSD.out]; exact hb))
          have HP := Lib.hid hperm
          have hxz : XB w.heap.size (World.drew _) r2 := (HX2.out.kept U2.out HWG.out).ext (Ext.refl _).drew
          have HXZ := Lib.hid hxz
          clear hperm hxz
          generalize World.drew _ = w4 at *
          go_wp2_with fail
          go_roundw
          case rel => exact ⟨ix + 1, by go_num, by omega, by omega, ⟨_, HP.out, HZ1.out, HZ2.out⟩, ⟨r2, HR2.out, HXZ.out⟩⟩
          case measure => simp [intOf]; omega
        -- end of it
      · have hI2 : decide ((ix : Int) ≤ (hi : Int)) = false := decide_eq_false (by omega)
        obtain ⟨dk, e7, e8, e9⟩ := hst.out
        have P1 := Lib.hid e7
        have U1 := Lib.hid e8
        have G1 := Lib.hid e9
        clear e7 e8 e9 hst hxs
        go_wp2_with fail
        go_end0
        exact ⟨rfl, dk, P1.out, U1.out, G1.out⟩
  · have hI : decide ((8 : Int) ≤ (l0 : Int)) = false := decide_eq_false (by omega)
    go_enter Try.func55, Try.ntmps55
    go_wp2_with fail
    go_end0
    exact ⟨rfl, d, Sort.permIn_refl d a b, HO.out, grown_refl _ _⟩
end Go.Proofs.Ytlgopjfnknjgjaa
