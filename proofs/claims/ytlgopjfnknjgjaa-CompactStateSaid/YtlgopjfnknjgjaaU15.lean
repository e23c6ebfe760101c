/- pdqsortOrdered at uint64 (48): the range is sorted. -/
import Derived.Test.YtlgopjfnknjgjaaU14
import Derived.Test.YtlgopjfnknjgjaaU8
import Derived.Sort.LotD3
namespace Go.Proofs.Ytlgopjfnknjgjaa
open Go.RowKit

def PdqQ (base g cap : Nat) (w : World) (d : Array Nat) (a b : Nat) (e : Ending) (w' : World) : Prop := e = .returned (.tuple #[]) ∧ ∃ d' : Array Nat, Sort.PermIn a b d d' ∧ Sort.SortedIn ltN a b d' ∧ UOq base g cap w d' w'
def StQ (base g cap : Nat) (w : World) (D : Array Nat) (x y : Nat) (wx : World) : Prop := ∃ d1 : Array Nat, Sort.PermIn x y D d1 ∧ UO base g cap wx d1 ∧ w.grownBy wx (some g)
def SomeLim (v : Value) : Prop := ∃ L : Nat, v = .int .i64 L ∧ L ≤ 1000
def SomePiv (x y : Nat) (v : Value) : Prop := ∃ p : Nat, v = .int .i64 p ∧ x ≤ p ∧ p < y
def SomeHint (v : Value) : Prop := ∃ h : Nat, v = .int .i64 h ∧ h ≤ 1
abbrev Fin1 (a b x y : Nat) (d dk : Array Nat) : Prop := ∀ R : Array Nat, Sort.PermIn x y dk R → Sort.SortedIn ltN x y R → Sort.PermIn a b d R ∧ Sort.SortedIn ltN a b R
theorem fin_perm {a b x y : Nat} {d dk d1 : Array Nat} (h : Fin1 a b x y d dk) (p : Sort.PermIn x y dk d1) : Fin1 a b x y d d1 := fun R h1 h2 => h R (Sort.permIn_trans _ _ _ x y p h1) h2

set_option maxRecDepth 100000 in
set_option maxHeartbeats 200000000 in
theorem pdq_any (base g cap : Nat) : ∀ (n a b : Nat) (d : Array Nat) (lim : Nat) (w : World), b - a ≤ n → a ≤ b → b ≤ d.size → d.size < 512 → lim ≤ 1000 → Sort.Below ltN a b d → UO base g cap w d →
    Calls Try.prog 48 #[.slice (some ⟨g, 0, none⟩) d.size cap, .int .i64 a, .int .i64 b, .int .i64 lim] w (PdqQ base g cap w d a b) := by
  intro n
  induction n using Nat.strongRecOn with
  | _ n ih =>
  intro a b d lim w hn hab hb hsz hlim hB ho
  have IH := Lib.hid ih
  have HO := Lib.hid ho
  have HB := Lib.hid hB
  have HN0 := Lib.hid hn
  clear ih ho hB hn
  generalize hN : d.size = N at *
  have HS := Lib.hid hN
  clear hN
  go_enter Try.func48, Try.ntmps48
  go_wp2_with fail
  go_loopw [1, 2, 3, 8, 9] (fun va vb vl vwb vwp wq => ∃ (x y L : Nat) (wb wp : Bool), va = .int .i64 x ∧ vb = .int .i64 y ∧ vl = .int .i64 L ∧ vwb = .bool wb ∧ vwp = .bool wp ∧ a ≤ x ∧ x ≤ y ∧ y ≤ b ∧ L ≤ 1000 ∧ Hid (∃ dk : Array Nat, dk.size = N ∧ UO base g cap wq dk ∧ w.grownBy wq (some g) ∧ Sort.Below ltN x y dk ∧ Fin1 a b x y d dk)) (fun va vb _ _ _ _ => (intOf vb).toNat - (intOf va).toNat)
  case atStart => exact ⟨a, b, lim, true, true, rfl, rfl, rfl, rfl, rfl, Nat.le_refl _, hab, Nat.le_refl _, hlim, d, HS.out, HO.out, grown_refl _ _, HB.out, fun R h1 h2 => ⟨h1, h2⟩⟩
  case round =>
    clear HO HB
    obtain ⟨x, y, L, wb, wp, rfl, rfl, rfl, rfl, rfl, hax, hxy, hyb, hL, hst⟩ := hrel
    obtain ⟨dk, e1, e2, e3, e4, e5⟩ := hst.out
    have HZ := Lib.hid e1
    have HU := Lib.hid e2
    have HG := Lib.hid e3
    have HB := Lib.hid e4
    have HF := Lib.hid e5
    clear e1 e2 e3 e4 e5 hst
    obtain ⟨l0, hl0⟩ : ∃ z, z = y - x := ⟨_, rfl⟩
    have ql : (y : Int) - (x : Int) = (l0 : Int) := by omega
    have hl1 : l0 < 512 := by omega
    have HL0 := Lib.hid hl0
    clear hl0
    by_cases h12 : l0 ≤ 12
    · have hI : decide ((l0 : Int) ≤ 12) = true := decide_eq_true (by omega)
      have hc := insertion_any base g cap dk x y wr HU.out hxy (by rw [HZ.out]; omega) (by rw [HZ.out]; omega)
      rw [HZ.out] at hc
      have HC := Lib.hid hc
      clear hc
      go_wp2_with ((with_reducible refine HC.out.mono ?_); rintro e w2 ⟨rfl, h1, h2⟩; have H1 := Lib.hid h1; have H2 := Lib.hid h2; clear h1 h2)
      ((try simp only [Exit.inBlock, Exit.then]); refine bodyPost_ret (results_none rfl _ _ _) rfl ?_)
      obtain ⟨p1, p2⟩ := Sort.insertionSort_holds (lt := ltN) swo_ltN dk x y hxy (by rw [HZ.out]; omega)
      obtain ⟨p3, p4⟩ := HF.out _ p1 p2
      exact ⟨rfl, _, p3, p4, H1.out, grown_trans HG.out H2.out⟩
    · have hI : decide ((l0 : Int) ≤ 12) = false := decide_eq_false (by omega)
      have hxy2 : x < y := by have := HL0.out; omega
      by_cases hL0 : L = 0
      · subst hL0
        have hc := heap_any base g cap dk x y wr HU.out hxy2 (by rw [HZ.out]; omega) (by rw [HZ.out]; omega)
        rw [HZ.out] at hc
        have HC := Lib.hid hc
        clear hc
        go_wp2_with ((with_reducible refine HC.out.mono ?_); rintro e w2 ⟨rfl, h1, h2⟩; have H1 := Lib.hid h1; have H2 := Lib.hid h2; clear h1 h2)
        ((try simp only [Exit.inBlock, Exit.then]); refine bodyPost_ret (results_none rfl _ _ _) rfl ?_)
        obtain ⟨p1, p2⟩ := Sort.heapSort_holds (lt := ltN) swo_ltN dk x y hxy (by rw [HZ.out]; omega)
        obtain ⟨p3, p4⟩ := HF.out _ p1 p2
        exact ⟨rfl, _, p3, p4, H1.out, grown_trans HG.out H2.out⟩
      · have hz1 : ((L : Int) == 0) = false := beq_eq_false_iff_ne.2 (by omega)
        have hz2 : (L == 0) = false := beq_eq_false_iff_ne.2 hL0
        obtain ⟨L1, hL1⟩ : ∃ z, z = L - 1 := ⟨_, rfl⟩
        have qL : (L : Int) - 1 = (L1 : Int) := by omega
        have hL2 : L1 ≤ 1000 := by omega
        clear hL1 hL0
        go_upto_if 35 with fail
        go_cut [3] from 36 to 41 (fun v3 wx => SomeLim v3 ∧ StQ base g cap w dk x y wx)
        case first =>
          cases wb with
          | true =>
            go_wp2_with fail
            go_meet
            exact ⟨⟨L, rfl, hL⟩, dk, Sort.permIn_refl _ _ _, HU.out, HG.out⟩
          | false =>
            have hc := break_any base g cap dk x y wr HU.out hxy2 (by rw [HZ.out]; omega) (by rw [HZ.out]; omega)
            rw [HZ.out] at hc
            have HC := Lib.hid hc
            clear hc
            go_wp2_with ((with_reducible refine HC.out.mono ?_); rintro e w2 ⟨rfl, d2, h0, h1, h2⟩; have H0 := Lib.hid h0; have H1 := Lib.hid h1; have H2 := Lib.hid h2; clear h0 h1 h2)
            go_meet
            exact ⟨⟨L1, rfl, hL2⟩, d2, H0.out, H1.out, grown_trans HG.out H2.out⟩
        case rest =>
          obtain ⟨⟨L2, rfl, hL3⟩, d1, s1, s2, s3⟩ := hcut
          clear qL hz1 hz2 hL hL2 HU HG
          have P1 := Lib.hid s1
          have U1 := Lib.hid s2
          have G1 := Lib.hid s3
          have HZ1 := Lib.hid (s1.1.trans HZ.out)
          have B1 := Lib.hid (HB.out.perm (by rw [HZ.out]; omega) s1)
          clear s1 s2 s3
          have hc := pivot_any base g cap d1 x y wc U1.out hxy2 (by rw [HZ1.out]; omega) (by rw [HZ1.out]; omega)
          rw [HZ1.out] at hc
          have HC := Lib.hid hc
          clear hc
          go_upto_region 11 with ((with_reducible refine HC.out.mono ?_); rintro e w2 ⟨p, hint, rfl, hp1, hp2, hh, hx⟩; have U2 := Lib.hid (U1.out.ext hx); have G2 := Lib.hid (grown_trans G1.out (grown_of_ext hx)); clear hx)
          clear U1 G1 HC
          obtain ⟨y1, hy1⟩ : ∃ z, z = y - 1 := ⟨_, rfl⟩
          obtain ⟨px, hpx⟩ : ∃ z, z = p - x := ⟨_, rfl⟩
          obtain ⟨p2, hp3⟩ : ∃ z, z = y1 - px := ⟨_, rfl⟩
          have qy : (y : Int) - 1 = (y1 : Int) := by omega
          have qpx : (p : Int) - (x : Int) = (px : Int) := by omega
          have qp2 : (y1 : Int) - (px : Int) = (p2 : Int) := by omega
          have hp4 : x ≤ p2 ∧ p2 < y ∧ y1 ≤ 512 ∧ px ≤ 512 ∧ p2 ≤ 512 := by omega
          have HP4 := Lib.hid hp4
          have by1 : y1 ≤ 512 := hp4.2.2.1
          have bpx : px ≤ 512 := hp4.2.2.2.1
          have bp2 : p2 ≤ 512 := hp4.2.2.2.2
          clear hy1 hpx hp3 hp4
          go_upto_if 50 with fail
          go_cut [11, 12] from 51 to 60 (fun v11 v12 wx => SomePiv x y v11 ∧ SomeHint v12 ∧ StQ base g cap w d1 x y wx)
          case first =>
            by_cases hh2 : hint = 2
            · subst hh2
              have hc := reverse_any base g cap d1 x y w2 U2.out hxy2 (by rw [HZ1.out]; omega) (by rw [HZ1.out]; omega)
              rw [HZ1.out] at hc
              have HC := Lib.hid hc
              clear hc
              go_wp2_with ((with_reducible refine HC.out.mono ?_); rintro e w3 ⟨rfl, h1, h2⟩; have H1 := Lib.hid h1; have H2 := Lib.hid h2; clear h1 h2)
              go_meet
              exact ⟨⟨p2, rfl, HP4.out.1, HP4.out.2.1⟩, ⟨1, rfl, Nat.le_refl _⟩, _, Sort.reverseRange_holds d1 x y hxy (by rw [HZ1.out]; omega), H1.out, grown_trans G2.out H2.out⟩
            · have t1 : ((hint : Int) == 2) = false := beq_eq_false_iff_ne.2 (by omega)
              have t2 : (hint == 2) = false := beq_eq_false_iff_ne.2 hh2
              go_wp2_with fail
              go_meet
              exact ⟨⟨p, rfl, hp1, hp2⟩, ⟨hint, rfl, by omega⟩, d1, Sort.permIn_refl _ _ _, U2.out, G2.out⟩
          case rest =>
            obtain ⟨⟨q, rfl, hq1, hq2⟩, ⟨h, rfl, hh1⟩, d2, s1, s2, s3⟩ := hcut
            clear qy qpx qp2 by1 bpx bp2 HP4 U2 G2 hp1 hp2 hh
            have P2 := Lib.hid (Sort.permIn_trans _ _ _ x y P1.out s1)
            have U2 := Lib.hid s2
            have G2 := Lib.hid s3
            have HZ2 := Lib.hid (s1.1.trans HZ1.out)
            have B2 := Lib.hid (B1.out.perm (by rw [HZ1.out]; omega) s1)
            clear s1 s2 s3 P1 HZ1 B1
            have HF2 := Lib.hid (fin_perm HF.out P2.out)
            clear HF P2 HB HZ
            by_cases hcond : wb = true ∧ wp = true ∧ h = 1
            · obtain ⟨rfl, rfl, rfl⟩ := hcond
              have hc := pins_any base g cap d2 x y wc U2.out hxy2 (by rw [HZ2.out]; omega) (by rw [HZ2.out]; omega)
              rw [HZ2.out] at hc
              have HC := Lib.hid hc
              clear hc
              obtain ⟨p1, p2⟩ := Sort.partialInsertionSort_holds (lt := ltN) swo_ltN d2 x y hxy2 (by rw [HZ2.out]; omega) B2.out
              have P3 := Lib.hid p1
              have P4 := Lib.hid p2
              clear p1 p2
              obtain ⟨d3, ok, hr⟩ : ∃ d3 ok, Sort.partialInsertionSort ltN d2 x y = (d3, ok) := ⟨_, _, rfl⟩
              rw [hr] at HC P3 P4
              clear hr
              cases ok with
              | true =>
                go_wp2_with ((with_reducible refine HC.out.mono ?_); rintro e w4 ⟨rfl, h1, h2⟩; have H1 := Lib.hid h1; have H2 := Lib.hid h2; clear h1 h2)
                ((try simp only [Exit.inBlock, Exit.then]); refine bodyPost_ret (results_none rfl _ _ _) rfl ?_)
                obtain ⟨p3, p4⟩ := HF2.out _ P3.out (P4.out (by trivial))
                exact ⟨rfl, _, p3, p4, H1.out, grown_trans G2.out H2.out⟩
              | false =>
                go_upto_region 17 with ((with_reducible refine HC.out.mono ?_); rintro e w4 ⟨rfl, h1, h2⟩; have U3 := Lib.hid h1; have G3 := Lib.hid (grown_trans G2.out h2); clear h1 h2)
                clear U2 G2 P4 HC
                have HZ3 := Lib.hid (P3.out.1.trans HZ2.out)
                have B3 := Lib.hid (B2.out.perm (by rw [HZ2.out]; omega) P3.out)
                have HF3 := Lib.hid (fin_perm HF2.out P3.out)
                clear B2 HF2 P3 HZ2
                obtain ⟨xm, hxm⟩ : ∃ z, z = x - 1 := ⟨_, rfl⟩
                have HXM := Lib.hid hxm
                clear hxm
                go_upto_region 17 with fail
                by_cases hx0 : 0 < x
                · have hI7 : decide ((0 : Int) < (x : Int)) = true := decide_eq_true (by omega)
                  have qxm : (x : Int) - 1 = (xm : Int) := by have := HXM.out; omega
                  have hxN : xm < N ∧ q < N := by have := HXM.out; omega
                  have b1 : (xm : Int) < (N : Int) := by omega
                  have b2 : (q : Int) < (N : Int) := by omega
                  have kx := U3.out.cell (i := xm) (by rw [HZ3.out]; omega)
                  have kq := U3.out.cell (i := q) (by rw [HZ3.out]; omega)
                  cases hl : ltN d3[xm]! d3[q]! with
                  | false =>
                    have hnl : ltN d3[x - 1]! d3[q]! = false := by rw [← HXM.out]; exact hl
                    have HNL := Lib.hid hnl
                    clear hnl
                    have HL := Lib.hid hl
                    clear hl
                    obtain ⟨v1, hv1⟩ : ∃ v, d3[xm]! = v := ⟨_, rfl⟩
                    obtain ⟨v2, hv2⟩ : ∃ v, d3[q]! = v := ⟨_, rfl⟩
                    rw [hv1] at kx
                    rw [hv2] at kq
                    rw [hv1, hv2] at HL
                    clear hv1 hv2
                    refine wp_region_facts [Fact.eq (.int .i64 x),
                        Fact.eq (.bool true),
                        Fact.eq (.bool true),
                        Fact.eq (.slice (some ⟨g, 0, none⟩) N cap),
                        Fact.eq (.int .i64 x),
                        Fact.eq (.int .i64 xm),
                        Fact.eq (.pointer (some ⟨g, xm, none⟩)),
                        Fact.eq (.int .u64 v1),
                        Fact.eq (.slice (some ⟨g, 0, none⟩) N cap),
                        Fact.eq (.int .i64 q),
                        Fact.eq (.pointer (some ⟨g, q, none⟩)),
                        Fact.eq (.int .u64 v2),
                        Fact.eq (.bool false),
                        Fact.eq (.bool true),
                        Fact.eq (.bool true)]
                      [[], [(0, 73)], [(1, 74)], [(2, 75)], [(2, 75)], [(4, 77), (2, 75)], [(3, 76), (5, 78), (2, 75)], [(6, 79), (2, 75)], [(2, 75)], [(2, 75)], [(8, 81), (9, 82), (2, 75)], [(10, 83), (2, 75)], [(7, 80), (11, 84), (2, 75)], [(12, 85), (2, 75)], [(2, 75), (13, 86)]]
                      [(0, 73), (1, 74), (2, 75), (3, 76), (4, 77), (5, 78), (6, 79), (7, 80), (8, 81), (9, 82), (10, 83), (11, 84), (12, 85), (13, 86), (14, 87)] (by kernel_rfl) (by kernel_rfl) ?_ ?_
                    · refine ⟨?_, ?_, ?_, ?_, ?_, ?_, ?_, ?_, ?_, ?_, ?_, ?_, ?_, ?_, ?_, trivial⟩
                      · intro w1 hx1; change wpList _ _ _ _ _ _; exact ob_move rfl rfl rfl rfl rfl
                      · intro w1 hx1; rintro _ rfl; change wpList _ _ _ _ _ _; go_wp2_with fail; exact ⟨rfl, Ext.refl _, rfl, rfl⟩
                      · intro w1 hx1; rintro _ rfl; change wpList _ _ _ _ _ _; exact ob_move rfl rfl rfl rfl rfl
                      · intro w1 hx1; rintro _ rfl; change wpList _ _ _ _ _ _; exact ob_move rfl rfl rfl rfl rfl
                      · intro w1 hx1; rintro _ rfl; change wpList _ _ _ _ _ _; exact ob_move rfl rfl rfl rfl rfl
                      · intro w1 hx1; rintro _ rfl; rintro _ rfl; change wpList _ _ _ _ _ _; go_wp2_with fail; exact ⟨rfl, Ext.refl _, rfl, rfl⟩
                      · intro w1 hx1; rintro _ rfl; rintro _ rfl; rintro _ rfl; change wpList _ _ _ _ _ _; go_wp2_with fail; exact ⟨rfl, Ext.refl _, rfl, rfl⟩
                      · intro w1 hx1; rintro _ rfl; rintro _ rfl; change wpList _ _ _ _ _ _; have m0 := hx1.cell kx; go_wp2_with fail; exact ⟨rfl, Ext.refl _, rfl, rfl⟩
                      · intro w1 hx1; rintro _ rfl; change wpList _ _ _ _ _ _; exact ob_move rfl rfl rfl rfl rfl
                      · intro w1 hx1; rintro _ rfl; change wpList _ _ _ _ _ _; exact ob_move rfl rfl rfl rfl rfl
                      · intro w1 hx1; rintro _ rfl; rintro _ rfl; rintro _ rfl; change wpList _ _ _ _ _ _; go_wp2_with fail; exact ⟨rfl, Ext.refl _, rfl, rfl⟩
                      · intro w1 hx1; rintro _ rfl; rintro _ rfl; change wpList _ _ _ _ _ _; have m0 := hx1.cell kq; go_wp2_with fail; exact ⟨rfl, Ext.refl _, rfl, rfl⟩
                      · intro w1 hx1; rintro _ rfl; rintro _ rfl; rintro _ rfl; change wpList _ _ _ _ _ _; go_wp2_with fail; refine (less_no HL.out _).mono ?_; rintro e w2 ⟨rfl, hx2⟩; go_wp2_with fail; exact ⟨rfl, hx2, rfl, rfl⟩
                      · intro w1 hx1; rintro _ rfl; rintro _ rfl; change wpList _ _ _ _ _ _; go_wp2_with fail; exact ⟨rfl, Ext.refl _, rfl, rfl⟩
                      · intro w1 hx1; rintro _ rfl; rintro _ rfl; change wpList _ _ _ _ _ _; exact ob_pick rfl rfl rfl rfl rfl rfl
                    · intro w1 hx1; rintro _ rfl; rintro _ rfl; rintro _ rfl; rintro _ rfl; rintro _ rfl; rintro _ rfl; rintro _ rfl; rintro _ rfl; rintro _ rfl; rintro _ rfl; rintro _ rfl; rintro _ rfl; rintro _ rfl; rintro _ rfl; rintro _ rfl; refine depsThen_nil ?_; dsimp only; simp only [Act.put, List.setIfInBounds_toArray, List.set_cons_zero, List.set_cons_succ]
                      have U5 := Lib.hid (U3.out.ext hx1)
                      have G5 := Lib.hid (grown_trans G3.out (grown_of_ext hx1))
                      clear hx1 kx kq qxm b1 b2 hI7
                      obtain ⟨mid, d4, hpt⟩ : ∃ mid d4, Sort.partitionEqual ltN d3 x y q = (mid, d4) := ⟨_, _, rfl⟩
                      have hc := partEq_any base g cap d3 x y q _ U5.out hq1 hq2 (by rw [HZ3.out]; omega) (by rw [HZ3.out]; omega)
                      rw [HZ3.out, hpt] at hc
                      have HC := Lib.hid hc
                      clear hc
                      obtain ⟨r1, r2, r3, r4, r5⟩ := Sort.round_eq (lt := ltN) swo_ltN (Sort.partitionEqual_holds ltN) hx0 hq1 hq2 (by rw [HZ3.out]; omega) B3.out HNL.out hpt
                      have R3 := Lib.hid (r3.trans HZ3.out)
                      have R4 := Lib.hid r4
                      have R5 := Lib.hid r5
                      clear r3 r4 r5 hpt HNL
                      go_wp2_with ((with_reducible refine HC.out.mono ?_); rintro e w5 ⟨rfl, h1, h2⟩; have U6 := Lib.hid h1; have G6 := Lib.hid (grown_trans G5.out h2); clear h1 h2)
                      go_roundw
                      case rel => exact ⟨mid, y, L2, _, _, rfl, rfl, rfl, rfl, rfl, by omega, r2, hyb, hL3, d4, R3.out, U6.out, G6.out, R4.out, fun R h1 h2 => by obtain ⟨j1, j2⟩ := R5.out R h1 h2; exact HF3.out R j1 j2⟩
                      case measure => simp [intOf]; omega
                  | true =>
                    have HL := Lib.hid hl
                    clear hl
                    obtain ⟨v1, hv1⟩ : ∃ v, d3[xm]! = v := ⟨_, rfl⟩
                    obtain ⟨v2, hv2⟩ : ∃ v, d3[q]! = v := ⟨_, rfl⟩
                    rw [hv1] at kx
                    rw [hv2] at kq
                    rw [hv1, hv2] at HL
                    clear hv1 hv2
                    refine wp_region_facts [Fact.eq (.int .i64 x),
                        Fact.eq (.bool true),
                        Fact.eq (.bool true),
                        Fact.eq (.slice (some ⟨g, 0, none⟩) N cap),
                        Fact.eq (.int .i64 x),
                        Fact.eq (.int .i64 xm),
                        Fact.eq (.pointer (some ⟨g, xm, none⟩)),
                        Fact.eq (.int .u64 v1),
                        Fact.eq (.slice (some ⟨g, 0, none⟩) N cap),
                        Fact.eq (.int .i64 q),
                        Fact.eq (.pointer (some ⟨g, q, none⟩)),
                        Fact.eq (.int .u64 v2),
                        Fact.eq (.bool true),
                        Fact.eq (.bool false),
                        Fact.eq (.bool false)]
                      [[], [(0, 73)], [(1, 74)], [(2, 75)], [(2, 75)], [(4, 77), (2, 75)], [(3, 76), (5, 78), (2, 75)], [(6, 79), (2, 75)], [(2, 75)], [(2, 75)], [(8, 81), (9, 82), (2, 75)], [(10, 83), (2, 75)], [(7, 80), (11, 84), (2, 75)], [(12, 85), (2, 75)], [(2, 75), (13, 86)]]
                      [(0, 73), (1, 74), (2, 75), (3, 76), (4, 77), (5, 78), (6, 79), (7, 80), (8, 81), (9, 82), (10, 83), (11, 84), (12, 85), (13, 86), (14, 87)] (by kernel_rfl) (by kernel_rfl) ?_ ?_
                    · refine ⟨?_, ?_, ?_, ?_, ?_, ?_, ?_, ?_, ?_, ?_, ?_, ?_, ?_, ?_, ?_, trivial⟩
                      · intro w1 hx1; change wpList _ _ _ _ _ _; exact ob_move rfl rfl rfl rfl rfl
                      · intro w1 hx1; rintro _ rfl; change wpList _ _ _ _ _ _; go_wp2_with fail; exact ⟨rfl, Ext.refl _, rfl, rfl⟩
                      · intro w1 hx1; rintro _ rfl; change wpList _ _ _ _ _ _; exact ob_move rfl rfl rfl rfl rfl
                      · intro w1 hx1; rintro _ rfl; change wpList _ _ _ _ _ _; exact ob_move rfl rfl rfl rfl rfl
                      · intro w1 hx1; rintro _ rfl; change wpList _ _ _ _ _ _; exact ob_move rfl rfl rfl rfl rfl
                      · intro w1 hx1; rintro _ rfl; rintro _ rfl; change wpList _ _ _ _ _ _; go_wp2_with fail; exact ⟨rfl, Ext.refl _, rfl, rfl⟩
                      · intro w1 hx1; rintro _ rfl; rintro _ rfl; rintro _ rfl; change wpList _ _ _ _ _ _; go_wp2_with fail; exact ⟨rfl, Ext.refl _, rfl, rfl⟩
                      · intro w1 hx1; rintro _ rfl; rintro _ rfl; change wpList _ _ _ _ _ _; have m0 := hx1.cell kx; go_wp2_with fail; exact ⟨rfl, Ext.refl _, rfl, rfl⟩
                      · intro w1 hx1; rintro _ rfl; change wpList _ _ _ _ _ _; exact ob_move rfl rfl rfl rfl rfl
                      · intro w1 hx1; rintro _ rfl; change wpList _ _ _ _ _ _; exact ob_move rfl rfl rfl rfl rfl
                      · intro w1 hx1; rintro _ rfl; rintro _ rfl; rintro _ rfl; change wpList _ _ _ _ _ _; go_wp2_with fail; exact ⟨rfl, Ext.refl _, rfl, rfl⟩
                      · intro w1 hx1; rintro _ rfl; rintro _ rfl; change wpList _ _ _ _ _ _; have m0 := hx1.cell kq; go_wp2_with fail; exact ⟨rfl, Ext.refl _, rfl, rfl⟩
                      · intro w1 hx1; rintro _ rfl; rintro _ rfl; rintro _ rfl; change wpList _ _ _ _ _ _; go_wp2_with fail; refine (less_yes HL.out _).mono ?_; rintro e w2 ⟨rfl, hx2⟩; go_wp2_with fail; exact ⟨rfl, hx2, rfl, rfl⟩
                      · intro w1 hx1; rintro _ rfl; rintro _ rfl; change wpList _ _ _ _ _ _; go_wp2_with fail; exact ⟨rfl, Ext.refl _, rfl, rfl⟩
                      · intro w1 hx1; rintro _ rfl; rintro _ rfl; change wpList _ _ _ _ _ _; exact ob_pick rfl rfl rfl rfl rfl rfl
                    · intro w1 hx1; rintro _ rfl; rintro _ rfl; rintro _ rfl; rintro _ rfl; rintro _ rfl; rintro _ rfl; rintro _ rfl; rintro _ rfl; rintro _ rfl; rintro _ rfl; rintro _ rfl; rintro _ rfl; rintro _ rfl; rintro _ rfl; rintro _ rfl; refine depsThen_nil ?_; dsimp only; simp only [Act.put, List.setIfInBounds_toArray, List.set_cons_zero, List.set_cons_succ]
                      have U5 := Lib.hid (U3.out.ext hx1)
                      have G5 := Lib.hid (grown_trans G3.out (grown_of_ext hx1))
                      clear hx1 kx kq qxm b1 b2 hI7
                      obtain ⟨mid, ap, d4, hpt⟩ : ∃ mid ap d4, Sort.partition ltN d3 x y q = (mid, ap, d4) := ⟨_, _, _, rfl⟩
                      have hc := part_any base g cap d3 x y q _ U5.out hq1 hq2 (by rw [HZ3.out]; omega) (by rw [HZ3.out]; omega)
                      rw [HZ3.out, hpt] at hc
                      have HC := Lib.hid hc
                      clear hc
                      obtain ⟨r1, r2, r3, r4, r5, r6, r7⟩ := Sort.round_part (lt := ltN) swo_ltN (Sort.partition_holds ltN) hq1 hq2 (by rw [HZ3.out]; omega) B3.out hpt
                      have R3 := Lib.hid (r3.trans HZ3.out)
                      have R4 := Lib.hid r4
                      have R5 := Lib.hid r5
                      have R6 := Lib.hid r6
                      have R7 := Lib.hid r7
                      clear r3 r4 r5 r6 r7 hpt
                      obtain ⟨l1, hl1⟩ : ∃ z, z = mid - x := ⟨_, rfl⟩
                      obtain ⟨l2, hl2⟩ : ∃ z, z = y - mid := ⟨_, rfl⟩
                      obtain ⟨l8, hl8⟩ : ∃ z, z = l0 / 8 := ⟨_, rfl⟩
                      obtain ⟨m1, hm1⟩ : ∃ z, z = mid + 1 := ⟨_, rfl⟩
                      have z1 : (mid : Int) - (x : Int) = (l1 : Int) := by omega
                      have z2 : (y : Int) - (mid : Int) = (l2 : Int) := by omega
                      have z3 : (l0 : Int) / 8 = (l8 : Int) := by omega
                      have z4 : (mid : Int) + 1 = (m1 : Int) := by omega
                      have z5 : l1 ≤ 512 := by omega
                      have z6 : l2 ≤ 512 := by omega
                      have z7 : l8 ≤ 512 := by omega
                      have z8 : m1 ≤ y := by omega
                      have z9 : mid ≤ 512 := by omega
                      have M1 := Lib.hid hm1
                      clear hl1 hl2 hl8 hm1
                      go_upto_region 22 with ((with_reducible refine HC.out.mono ?_); rintro e w5 ⟨rfl, h1, h2⟩; have U6 := Lib.hid h1; have G6 := Lib.hid (grown_trans G5.out h2); clear h1 h2)
                      by_cases hlr : l1 < l2
                      · have hI9 : decide ((l1 : Int) < (l2 : Int)) = true := decide_eq_true (by omega)
                        have hr := IH.out (mid - x) (by have := HN0.out; omega) x mid d4 L2 w5 (Nat.le_refl _) r1 (by rw [R3.out]; omega) (by rw [R3.out]; exact hsz) hL3 R4.out U6.out
                        rw [R3.out] at hr
                        have HR := Lib.hid hr
                        clear hr
                        go_wp2_with ((with_reducible refine HR.out.mono ?_); rintro e w6 ⟨rfl, d6, h1, h2, h3, h4⟩; have V1 := Lib.hid h1; have V2 := Lib.hid h2; have V3 := Lib.hid h3; have V4 := Lib.hid (grown_trans G6.out h4); clear h1 h2 h3 h4)
                        go_roundw
                        case rel =>
                          obtain ⟨k1, k2⟩ := R6.out d6 V1.out V2.out
                          rw [← M1.out] at k1 k2
                          exact ⟨m1, y, L2, _, ap, rfl, rfl, rfl, rfl, rfl, by have := M1.out; omega, z8, hyb, hL3, d6, V1.out.1.trans R3.out, V3.out, V4.out, k1, fun R h1 h2 => by obtain ⟨j1, j2⟩ := k2 R h1 h2; exact HF3.out R j1 j2⟩
                        case measure => have := M1.out; simp [intOf]; omega
                      · have hI9 : decide ((l1 : Int) < (l2 : Int)) = false := decide_eq_false (by omega)
                        have hr := IH.out (y - m1) (by have := HN0.out; have := M1.out; omega) m1 y d4 L2 w5 (Nat.le_refl _) z8 (by rw [R3.out]; omega) (by rw [R3.out]; exact hsz) hL3 (by rw [M1.out]; exact R5.out) U6.out
                        rw [R3.out] at hr
                        have HR := Lib.hid hr
                        clear hr
                        go_wp2_with ((with_reducible refine HR.out.mono ?_); rintro e w6 ⟨rfl, d6, h1, h2, h3, h4⟩; have V1 := Lib.hid h1; have V2 := Lib.hid h2; have V3 := Lib.hid h3; have V4 := Lib.hid (grown_trans G6.out h4); clear h1 h2 h3 h4)
                        go_roundw
                        case rel =>
                          obtain ⟨k1, k2⟩ := R7.out d6 (by rw [← M1.out]; exact V1.out) (by rw [← M1.out]; exact V2.out)
                          exact ⟨x, mid, L2, _, ap, rfl, rfl, rfl, rfl, rfl, hax, r1, by omega, hL3, d6, V1.out.1.trans R3.out, V3.out, V4.out, k1, fun R h1 h2 => by obtain ⟨j1, j2⟩ := k2 R h1 h2; exact HF3.out R j1 j2⟩
                        case measure => have := M1.out; simp [intOf]; omega
                · have hI7 : decide ((0 : Int) < (x : Int)) = false := decide_eq_false (by omega)
                  refine wp_region_facts [Fact.eq (.int .i64 x),
                      Fact.eq (.bool false),
                      Fact.eq (.bool false),
                      Fact.eq undef,
                      Fact.eq undef,
                      Fact.eq undef,
                      Fact.eq undef,
                      Fact.eq undef,
                      Fact.eq undef,
                      Fact.eq undef,
                      Fact.eq undef,
                      Fact.eq undef,
                      Fact.eq undef,
                      Fact.eq undef,
                      Fact.eq (.bool false)]
                    [[], [(0, 73)], [(1, 74)], [(2, 75)], [(2, 75)], [(4, 77), (2, 75)], [(3, 76), (5, 78), (2, 75)], [(6, 79), (2, 75)], [(2, 75)], [(2, 75)], [(8, 81), (9, 82), (2, 75)], [(10, 83), (2, 75)], [(7, 80), (11, 84), (2, 75)], [(12, 85), (2, 75)], [(2, 75), (13, 86)]]
                    [(0, 73), (1, 74), (2, 75), (3, 76), (4, 77), (5, 78), (6, 79), (7, 80), (8, 81), (9, 82), (10, 83), (11, 84), (12, 85), (13, 86), (14, 87)] (by kernel_rfl) (by kernel_rfl) ?_ ?_
                  · refine ⟨?_, ?_, ?_, ?_, ?_, ?_, ?_, ?_, ?_, ?_, ?_, ?_, ?_, ?_, ?_, trivial⟩
                    · intro w1 hx1; change wpList _ _ _ _ _ _; exact ob_move rfl rfl rfl rfl rfl
                    · intro w1 hx1; rintro _ rfl; change wpList _ _ _ _ _ _; go_wp2_with fail; exact ⟨rfl, Ext.refl _, rfl, rfl⟩
                    · intro w1 hx1; rintro _ rfl; change wpList _ _ _ _ _ _; exact ob_move rfl rfl rfl rfl rfl
                    · intro w1 hx1; rintro _ rfl; change wpList _ _ _ _ _ _; exact ob_skip rfl rfl rfl rfl
                    · intro w1 hx1; rintro _ rfl; change wpList _ _ _ _ _ _; exact ob_skip rfl rfl rfl rfl
                    · intro w1 hx1; rintro _ rfl; rintro _ rfl; change wpList _ _ _ _ _ _; exact ob_skip rfl rfl rfl rfl
                    · intro w1 hx1; rintro _ rfl; rintro _ rfl; rintro _ rfl; change wpList _ _ _ _ _ _; exact ob_skip rfl rfl rfl rfl
                    · intro w1 hx1; rintro _ rfl; rintro _ rfl; change wpList _ _ _ _ _ _; exact ob_skip rfl rfl rfl rfl
                    · intro w1 hx1; rintro _ rfl; change wpList _ _ _ _ _ _; exact ob_skip rfl rfl rfl rfl
                    · intro w1 hx1; rintro _ rfl; change wpList _ _ _ _ _ _; exact ob_skip rfl rfl rfl rfl
                    · intro w1 hx1; rintro _ rfl; rintro _ rfl; rintro _ rfl; change wpList _ _ _ _ _ _; exact ob_skip rfl rfl rfl rfl
                    · intro w1 hx1; rintro _ rfl; rintro _ rfl; change wpList _ _ _ _ _ _; exact ob_skip rfl rfl rfl rfl
                    · intro w1 hx1; rintro _ rfl; rintro _ rfl; rintro _ rfl; change wpList _ _ _ _ _ _; exact ob_skip rfl rfl rfl rfl
                    · intro w1 hx1; rintro _ rfl; rintro _ rfl; change wpList _ _ _ _ _ _; exact ob_skip rfl rfl rfl rfl
                    · intro w1 hx1; rintro _ rfl; rintro _ rfl; change wpList _ _ _ _ _ _; exact ob_pick rfl rfl rfl rfl rfl rfl
                  · intro w1 hx1; rintro _ rfl; rintro _ rfl; rintro _ rfl; rintro _ rfl; rintro _ rfl; rintro _ rfl; rintro _ rfl; rintro _ rfl; rintro _ rfl; rintro _ rfl; rintro _ rfl; rintro _ rfl; rintro _ rfl; rintro _ rfl; rintro _ rfl; refine depsThen_nil ?_; dsimp only; simp only [Act.put, List.setIfInBounds_toArray, List.set_cons_zero, List.set_cons_succ]
                    have U5 := Lib.hid (U3.out.ext hx1)
                    have G5 := Lib.hid (grown_trans G3.out (grown_of_ext hx1))
                    clear hx1 hI7
                    obtain ⟨mid, ap, d4, hpt⟩ : ∃ mid ap d4, Sort.partition ltN d3 x y q = (mid, ap, d4) := ⟨_, _, _, rfl⟩
                    have hc := part_any base g cap d3 x y q _ U5.out hq1 hq2 (by rw [HZ3.out]; omega) (by rw [HZ3.out]; omega)
                    rw [HZ3.out, hpt] at hc
                    have HC := Lib.hid hc
                    clear hc
                    obtain ⟨r1, r2, r3, r4, r5, r6, r7⟩ := Sort.round_part (lt := ltN) swo_ltN (Sort.partition_holds ltN) hq1 hq2 (by rw [HZ3.out]; omega) B3.out hpt
                    have R3 := Lib.hid (r3.trans HZ3.out)
                    have R4 := Lib.hid r4
                    have R5 := Lib.hid r5
                    have R6 := Lib.hid r6
                    have R7 := Lib.hid r7
                    clear r3 r4 r5 r6 r7 hpt
                    obtain ⟨l1, hl1⟩ : ∃ z, z = mid - x := ⟨_, rfl⟩
                    obtain ⟨l2, hl2⟩ : ∃ z, z = y - mid := ⟨_, rfl⟩
                    obtain ⟨l8, hl8⟩ : ∃ z, z = l0 / 8 := ⟨_, rfl⟩
                    obtain ⟨m1, hm1⟩ : ∃ z, z = mid + 1 := ⟨_, rfl⟩
                    have z1 : (mid : Int) - (x : Int) = (l1 : Int) := by omega
                    have z2 : (y : Int) - (mid : Int) = (l2 : Int) := by omega
                    have z3 : (l0 : Int) / 8 = (l8 : Int) := by omega
                    have z4 : (mid : Int) + 1 = (m1 : Int) := by omega
                    have z5 : l1 ≤ 512 := by omega
                    have z6 : l2 ≤ 512 := by omega
                    have z7 : l8 ≤ 512 := by omega
                    have z8 : m1 ≤ y := by omega
                    have z9 : mid ≤ 512 := by omega
                    have M1 := Lib.hid hm1
                    clear hl1 hl2 hl8 hm1
                    go_upto_region 22 with ((with_reducible refine HC.out.mono ?_); rintro e w5 ⟨rfl, h1, h2⟩; have U6 := Lib.hid h1; have G6 := Lib.hid (grown_trans G5.out h2); clear h1 h2)
                    by_cases hlr : l1 < l2
                    · have hI9 : decide ((l1 : Int) < (l2 : Int)) = true := decide_eq_true (by omega)
                      have hr := IH.out (mid - x) (by have := HN0.out; omega) x mid d4 L2 w5 (Nat.le_refl _) r1 (by rw [R3.out]; omega) (by rw [R3.out]; exact hsz) hL3 R4.out U6.out
                      rw [R3.out] at hr
                      have HR := Lib.hid hr
                      clear hr
                      go_wp2_with ((with_reducible refine HR.out.mono ?_); rintro e w6 ⟨rfl, d6, h1, h2, h3, h4⟩; have V1 := Lib.hid h1; have V2 := Lib.hid h2; have V3 := Lib.hid h3; have V4 := Lib.hid (grown_trans G6.out h4); clear h1 h2 h3 h4)
                      go_roundw
                      case rel =>
                        obtain ⟨k1, k2⟩ := R6.out d6 V1.out V2.out
                        rw [← M1.out] at k1 k2
                        exact ⟨m1, y, L2, _, ap, rfl, rfl, rfl, rfl, rfl, by have := M1.out; omega, z8, hyb, hL3, d6, V1.out.1.trans R3.out, V3.out, V4.out, k1, fun R h1 h2 => by obtain ⟨j1, j2⟩ := k2 R h1 h2; exact HF3.out R j1 j2⟩
                      case measure => have := M1.out; simp [intOf]; omega
                    · have hI9 : decide ((l1 : Int) < (l2 : Int)) = false := decide_eq_false (by omega)
                      have hr := IH.out (y - m1) (by have := HN0.out; have := M1.out; omega) m1 y d4 L2 w5 (Nat.le_refl _) z8 (by rw [R3.out]; omega) (by rw [R3.out]; exact hsz) hL3 (by rw [M1.out]; exact R5.out) U6.out
                      rw [R3.out] at hr
                      have HR := Lib.hid hr
                      clear hr
                      go_wp2_with ((with_reducible refine HR.out.mono ?_); rintro e w6 ⟨rfl, d6, h1, h2, h3, h4⟩; have V1 := Lib.hid h1; have V2 := Lib.hid h2; have V3 := Lib.hid h3; have V4 := Lib.hid (grown_trans G6.out h4); clear h1 h2 h3 h4)
                      go_roundw
                      case rel =>
                        obtain ⟨k1, k2⟩ := R7.out d6 (by rw [← M1.out]; exact V1.out) (by rw [← M1.out]; exact V2.out)
                        exact ⟨x, mid, L2, _, ap, rfl, rfl, rfl, rfl, rfl, hax, r1, by omega, hL3, d6, V1.out.1.trans R3.out, V3.out, V4.out, k1, fun R h1 h2 => by obtain ⟨j1, j2⟩ := k2 R h1 h2; exact HF3.out R j1 j2⟩
                      case measure => have := M1.out; simp [intOf]; omega
            · skip
              cases wb with
              | false =>
                obtain ⟨xm, hxm⟩ : ∃ z, z = x - 1 := ⟨_, rfl⟩
                have HXM := Lib.hid hxm
                clear hxm
                go_upto_region 17 with fail
                by_cases hx0 : 0 < x
                · have hI7 : decide ((0 : Int) < (x : Int)) = true := decide_eq_true (by omega)
                  have qxm : (x : Int) - 1 = (xm : Int) := by have := HXM.out; omega
                  have hxN : xm < N ∧ q < N := by have := HXM.out; omega
                  have b1 : (xm : Int) < (N : Int) := by omega
                  have b2 : (q : Int) < (N : Int) := by omega
                  have kx := U2.out.cell (i := xm) (by rw [HZ2.out]; omega)
                  have kq := U2.out.cell (i := q) (by rw [HZ2.out]; omega)
                  cases hl : ltN d2[xm]! d2[q]! with
                  | false =>
                    have hnl : ltN d2[x - 1]! d2[q]! = false := by rw [← HXM.out]; exact hl
                    have HNL := Lib.hid hnl
                    clear hnl
                    have HL := Lib.hid hl
                    clear hl
                    obtain ⟨v1, hv1⟩ : ∃ v, d2[xm]! = v := ⟨_, rfl⟩
                    obtain ⟨v2, hv2⟩ : ∃ v, d2[q]! = v := ⟨_, rfl⟩
                    rw [hv1] at kx
                    rw [hv2] at kq
                    rw [hv1, hv2] at HL
                    clear hv1 hv2
                    refine wp_region_facts [Fact.eq (.int .i64 x),
                        Fact.eq (.bool true),
                        Fact.eq (.bool true),
                        Fact.eq (.slice (some ⟨g, 0, none⟩) N cap),
                        Fact.eq (.int .i64 x),
                        Fact.eq (.int .i64 xm),
                        Fact.eq (.pointer (some ⟨g, xm, none⟩)),
                        Fact.eq (.int .u64 v1),
                        Fact.eq (.slice (some ⟨g, 0, none⟩) N cap),
                        Fact.eq (.int .i64 q),
                        Fact.eq (.pointer (some ⟨g, q, none⟩)),
                        Fact.eq (.int .u64 v2),
                        Fact.eq (.bool false),
                        Fact.eq (.bool true),
                        Fact.eq (.bool true)]
                      [[], [(0, 73)], [(1, 74)], [(2, 75)], [(2, 75)], [(4, 77), (2, 75)], [(3, 76), (5, 78), (2, 75)], [(6, 79), (2, 75)], [(2, 75)], [(2, 75)], [(8, 81), (9, 82), (2, 75)], [(10, 83), (2, 75)], [(7, 80), (11, 84), (2, 75)], [(12, 85), (2, 75)], [(2, 75), (13, 86)]]
                      [(0, 73), (1, 74), (2, 75), (3, 76), (4, 77), (5, 78), (6, 79), (7, 80), (8, 81), (9, 82), (10, 83), (11, 84), (12, 85), (13, 86), (14, 87)] (by kernel_rfl) (by kernel_rfl) ?_ ?_
                    · refine ⟨?_, ?_, ?_, ?_, ?_, ?_, ?_, ?_, ?_, ?_, ?_, ?_, ?_, ?_, ?_, trivial⟩
                      · intro w1 hx1; change wpList _ _ _ _ _ _; exact ob_move rfl rfl rfl rfl rfl
                      · intro w1 hx1; rintro _ rfl; change wpList _ _ _ _ _ _; go_wp2_with fail; exact ⟨rfl, Ext.refl _, rfl, rfl⟩
                      · intro w1 hx1; rintro _ rfl; change wpList _ _ _ _ _ _; exact ob_move rfl rfl rfl rfl rfl
                      · intro w1 hx1; rintro _ rfl; change wpList _ _ _ _ _ _; exact ob_move rfl rfl rfl rfl rfl
                      · intro w1 hx1; rintro _ rfl; change wpList _ _ _ _ _ _; exact ob_move rfl rfl rfl rfl rfl
                      · intro w1 hx1; rintro _ rfl; rintro _ rfl; change wpList _ _ _ _ _ _; go_wp2_with fail; exact ⟨rfl, Ext.refl _, rfl, rfl⟩
                      · intro w1 hx1; rintro _ rfl; rintro _ rfl; rintro _ rfl; change wpList _ _ _ _ _ _; go_wp2_with fail; exact ⟨rfl, Ext.refl _, rfl, rfl⟩
                      · intro w1 hx1; rintro _ rfl; rintro _ rfl; change wpList _ _ _ _ _ _; have m0 := hx1.cell kx; go_wp2_with fail; exact ⟨rfl, Ext.refl _, rfl, rfl⟩
                      · intro w1 hx1; rintro _ rfl; change wpList _ _ _ _ _ _; exact ob_move rfl rfl rfl rfl rfl
                      · intro w1 hx1; rintro _ rfl; change wpList _ _ _ _ _ _; exact ob_move rfl rfl rfl rfl rfl
                      · intro w1 hx1; rintro _ rfl; rintro _ rfl; rintro _ rfl; change wpList _ _ _ _ _ _; go_wp2_with fail; exact ⟨rfl, Ext.refl _, rfl, rfl⟩
                      · intro w1 hx1; rintro _ rfl; rintro _ rfl; change wpList _ _ _ _ _ _; have m0 := hx1.cell kq; go_wp2_with fail; exact ⟨rfl, Ext.refl _, rfl, rfl⟩
                      · intro w1 hx1; rintro _ rfl; rintro _ rfl; rintro _ rfl; change wpList _ _ _ _ _ _; go_wp2_with fail; refine (less_no HL.out _).mono ?_; rintro e w2 ⟨rfl, hx2⟩; go_wp2_with fail; exact ⟨rfl, hx2, rfl, rfl⟩
                      · intro w1 hx1; rintro _ rfl; rintro _ rfl; change wpList _ _ _ _ _ _; go_wp2_with fail; exact ⟨rfl, Ext.refl _, rfl, rfl⟩
                      · intro w1 hx1; rintro _ rfl; rintro _ rfl; change wpList _ _ _ _ _ _; exact ob_pick rfl rfl rfl rfl rfl rfl
                    · intro w1 hx1; rintro _ rfl; rintro _ rfl; rintro _ rfl; rintro _ rfl; rintro _ rfl; rintro _ rfl; rintro _ rfl; rintro _ rfl; rintro _ rfl; rintro _ rfl; rintro _ rfl; rintro _ rfl; rintro _ rfl; rintro _ rfl; rintro _ rfl; refine depsThen_nil ?_; dsimp only; simp only [Act.put, List.setIfInBounds_toArray, List.set_cons_zero, List.set_cons_succ]
                      have U5 := Lib.hid (U2.out.ext hx1)
                      have G5 := Lib.hid (grown_trans G2.out (grown_of_ext hx1))
                      clear hx1 kx kq qxm b1 b2 hI7
                      obtain ⟨mid, d4, hpt⟩ : ∃ mid d4, Sort.partitionEqual ltN d2 x y q = (mid, d4) := ⟨_, _, rfl⟩
                      have hc := partEq_any base g cap d2 x y q _ U5.out hq1 hq2 (by rw [HZ2.out]; omega) (by rw [HZ2.out]; omega)
                      rw [HZ2.out, hpt] at hc
                      have HC := Lib.hid hc
                      clear hc
                      obtain ⟨r1, r2, r3, r4, r5⟩ := Sort.round_eq (lt := ltN) swo_ltN (Sort.partitionEqual_holds ltN) hx0 hq1 hq2 (by rw [HZ2.out]; omega) B2.out HNL.out hpt
                      have R3 := Lib.hid (r3.trans HZ2.out)
                      have R4 := Lib.hid r4
                      have R5 := Lib.hid r5
                      clear r3 r4 r5 hpt HNL
                      go_wp2_with ((with_reducible refine HC.out.mono ?_); rintro e w5 ⟨rfl, h1, h2⟩; have U6 := Lib.hid h1; have G6 := Lib.hid (grown_trans G5.out h2); clear h1 h2)
                      go_roundw
                      case rel => exact ⟨mid, y, L2, _, _, rfl, rfl, rfl, rfl, rfl, by omega, r2, hyb, hL3, d4, R3.out, U6.out, G6.out, R4.out, fun R h1 h2 => by obtain ⟨j1, j2⟩ := R5.out R h1 h2; exact HF2.out R j1 j2⟩
                      case measure => simp [intOf]; omega
                  | true =>
                    have HL := Lib.hid hl
                    clear hl
                    obtain ⟨v1, hv1⟩ : ∃ v, d2[xm]! = v := ⟨_, rfl⟩
                    obtain ⟨v2, hv2⟩ : ∃ v, d2[q]! = v := ⟨_, rfl⟩
                    rw [hv1] at kx
                    rw [hv2] at kq
                    rw [hv1, hv2] at HL
                    clear hv1 hv2
                    refine wp_region_facts [Fact.eq (.int .i64 x),
                        Fact.eq (.bool true),
                        Fact.eq (.bool true),
                        Fact.eq (.slice (some ⟨g, 0, none⟩) N cap),
                        Fact.eq (.int .i64 x),
                        Fact.eq (.int .i64 xm),
                        Fact.eq (.pointer (some ⟨g, xm, none⟩)),
                        Fact.eq (.int .u64 v1),
                        Fact.eq (.slice (some ⟨g, 0, none⟩) N cap),
                        Fact.eq (.int .i64 q),
                        Fact.eq (.pointer (some ⟨g, q, none⟩)),
                        Fact.eq (.int .u64 v2),
                        Fact.eq (.bool true),
                        Fact.eq (.bool false),
                        Fact.eq (.bool false)]
                      [[], [(0, 73)], [(1, 74)], [(2, 75)], [(2, 75)], [(4, 77), (2, 75)], [(3, 76), (5, 78), (2, 75)], [(6, 79), (2, 75)], [(2, 75)], [(2, 75)], [(8, 81), (9, 82), (2, 75)], [(10, 83), (2, 75)], [(7, 80), (11, 84), (2, 75)], [(12, 85), (2, 75)], [(2, 75), (13, 86)]]
                      [(0, 73), (1, 74), (2, 75), (3, 76), (4, 77), (5, 78), (6, 79), (7, 80), (8, 81), (9, 82), (10, 83), (11, 84), (12, 85), (13, 86), (14, 87)] (by kernel_rfl) (by kernel_rfl) ?_ ?_
                    · refine ⟨?_, ?_, ?_, ?_, ?_, ?_, ?_, ?_, ?_, ?_, ?_, ?_, ?_, ?_, ?_, trivial⟩
                      · intro w1 hx1; change wpList _ _ _ _ _ _; exact ob_move rfl rfl rfl rfl rfl
                      · intro w1 hx1; rintro _ rfl; change wpList _ _ _ _ _ _; go_wp2_with fail; exact ⟨rfl, Ext.refl _, rfl, rfl⟩
                      · intro w1 hx1; rintro _ rfl; change wpList _ _ _ _ _ _; exact ob_move rfl rfl rfl rfl rfl
                      · intro w1 hx1; rintro _ rfl; change wpList _ _ _ _ _ _; exact ob_move rfl rfl rfl rfl rfl
                      · intro w1 hx1; rintro _ rfl; change wpList _ _ _ _ _ _; exact ob_move rfl rfl rfl rfl rfl
                      · intro w1 hx1; rintro _ rfl; rintro _ rfl; change wpList _ _ _ _ _ _; go_wp2_with fail; exact ⟨rfl, Ext.refl _, rfl, rfl⟩
                      · intro w1 hx1; rintro _ rfl; rintro _ rfl; rintro _ rfl; change wpList _ _ _ _ _ _; go_wp2_with fail; exact ⟨rfl, Ext.refl _, rfl, rfl⟩
                      · intro w1 hx1; rintro _ rfl; rintro _ rfl; change wpList _ _ _ _ _ _; have m0 := hx1.cell kx; go_wp2_with fail; exact ⟨rfl, Ext.refl _, rfl, rfl⟩
                      · intro w1 hx1; rintro _ rfl; change wpList _ _ _ _ _ _; exact ob_move rfl rfl rfl rfl rfl
                      · intro w1 hx1; rintro _ rfl; change wpList _ _ _ _ _ _; exact ob_move rfl rfl rfl rfl rfl
                      · intro w1 hx1; rintro _ rfl; rintro _ rfl; rintro _ rfl; change wpList _ _ _ _ _ _; go_wp2_with fail; exact ⟨rfl, Ext.refl _, rfl, rfl⟩
                      · intro w1 hx1; rintro _ rfl; rintro _ rfl; change wpList _ _ _ _ _ _; have m0 := hx1.cell kq; go_wp2_with fail; exact ⟨rfl, Ext.refl _, rfl, rfl⟩
                      · intro w1 hx1; rintro _ rfl; rintro _ rfl; rintro _ rfl; change wpList _ _ _ _ _ _; go_wp2_with fail; refine (less_yes HL.out _).mono ?_; rintro e w2 ⟨rfl, hx2⟩; go_wp2_with fail; exact ⟨rfl, hx2, rfl, rfl⟩
                      · intro w1 hx1; rintro _ rfl; rintro _ rfl; change wpList _ _ _ _ _ _; go_wp2_with fail; exact ⟨rfl, Ext.refl _, rfl, rfl⟩
                      · intro w1 hx1; rintro _ rfl; rintro _ rfl; change wpList _ _ _ _ _ _; exact ob_pick rfl rfl rfl rfl rfl rfl
                    · intro w1 hx1; rintro _ rfl; rintro _ rfl; rintro _ rfl; rintro _ rfl; rintro _ rfl; rintro _ rfl; rintro _ rfl; rintro _ rfl; rintro _ rfl; rintro _ rfl; rintro _ rfl; rintro _ rfl; rintro _ rfl; rintro _ rfl; rintro _ rfl; refine depsThen_nil ?_; dsimp only; simp only [Act.put, List.setIfInBounds_toArray, List.set_cons_zero, List.set_cons_succ]
                      have U5 := Lib.hid (U2.out.ext hx1)
                      have G5 := Lib.hid (grown_trans G2.out (grown_of_ext hx1))
                      clear hx1 kx kq qxm b1 b2 hI7
                      obtain ⟨mid, ap, d4, hpt⟩ : ∃ mid ap d4, Sort.partition ltN d2 x y q = (mid, ap, d4) := ⟨_, _, _, rfl⟩
                      have hc := part_any base g cap d2 x y q _ U5.out hq1 hq2 (by rw [HZ2.out]; omega) (by rw [HZ2.out]; omega)
                      rw [HZ2.out, hpt] at hc
                      have HC := Lib.hid hc
                      clear hc
                      obtain ⟨r1, r2, r3, r4, r5, r6, r7⟩ := Sort.round_part (lt := ltN) swo_ltN (Sort.partition_holds ltN) hq1 hq2 (by rw [HZ2.out]; omega) B2.out hpt
                      have R3 := Lib.hid (r3.trans HZ2.out)
                      have R4 := Lib.hid r4
                      have R5 := Lib.hid r5
                      have R6 := Lib.hid r6
                      have R7 := Lib.hid r7
                      clear r3 r4 r5 r6 r7 hpt
                      obtain ⟨l1, hl1⟩ : ∃ z, z = mid - x := ⟨_, rfl⟩
                      obtain ⟨l2, hl2⟩ : ∃ z, z = y - mid := ⟨_, rfl⟩
                      obtain ⟨l8, hl8⟩ : ∃ z, z = l0 / 8 := ⟨_, rfl⟩
                      obtain ⟨m1, hm1⟩ : ∃ z, z = mid + 1 := ⟨_, rfl⟩
                      have z1 : (mid : Int) - (x : Int) = (l1 : Int) := by omega
                      have z2 : (y : Int) - (mid : Int) = (l2 : Int) := by omega
                      have z3 : (l0 : Int) / 8 = (l8 : Int) := by omega
                      have z4 : (mid : Int) + 1 = (m1 : Int) := by omega
                      have z5 : l1 ≤ 512 := by omega
                      have z6 : l2 ≤ 512 := by omega
                      have z7 : l8 ≤ 512 := by omega
                      have z8 : m1 ≤ y := by omega
                      have z9 : mid ≤ 512 := by omega
                      have M1 := Lib.hid hm1
                      clear hl1 hl2 hl8 hm1
                      go_upto_region 22 with ((with_reducible refine HC.out.mono ?_); rintro e w5 ⟨rfl, h1, h2⟩; have U6 := Lib.hid h1; have G6 := Lib.hid (grown_trans G5.out h2); clear h1 h2)
                      by_cases hlr : l1 < l2
                      · have hI9 : decide ((l1 : Int) < (l2 : Int)) = true := decide_eq_true (by omega)
                        have hr := IH.out (mid - x) (by have := HN0.out; omega) x mid d4 L2 w5 (Nat.le_refl _) r1 (by rw [R3.out]; omega) (by rw [R3.out]; exact hsz) hL3 R4.out U6.out
                        rw [R3.out] at hr
                        have HR := Lib.hid hr
                        clear hr
                        go_wp2_with ((with_reducible refine HR.out.mono ?_); rintro e w6 ⟨rfl, d6, h1, h2, h3, h4⟩; have V1 := Lib.hid h1; have V2 := Lib.hid h2; have V3 := Lib.hid h3; have V4 := Lib.hid (grown_trans G6.out h4); clear h1 h2 h3 h4)
                        go_roundw
                        case rel =>
                          obtain ⟨k1, k2⟩ := R6.out d6 V1.out V2.out
                          rw [← M1.out] at k1 k2
                          exact ⟨m1, y, L2, _, ap, rfl, rfl, rfl, rfl, rfl, by have := M1.out; omega, z8, hyb, hL3, d6, V1.out.1.trans R3.out, V3.out, V4.out, k1, fun R h1 h2 => by obtain ⟨j1, j2⟩ := k2 R h1 h2; exact HF2.out R j1 j2⟩
                        case measure => have := M1.out; simp [intOf]; omega
                      · have hI9 : decide ((l1 : Int) < (l2 : Int)) = false := decide_eq_false (by omega)
                        have hr := IH.out (y - m1) (by have := HN0.out; have := M1.out; omega) m1 y d4 L2 w5 (Nat.le_refl _) z8 (by rw [R3.out]; omega) (by rw [R3.out]; exact hsz) hL3 (by rw [M1.out]; exact R5.out) U6.out
                        rw [R3.out] at hr
                        have HR := Lib.hid hr
                        clear hr
                        go_wp2_with ((with_reducible refine HR.out.mono ?_); rintro e w6 ⟨rfl, d6, h1, h2, h3, h4⟩; have V1 := Lib.hid h1; have V2 := Lib.hid h2; have V3 := Lib.hid h3; have V4 := Lib.hid (grown_trans G6.out h4); clear h1 h2 h3 h4)
                        go_roundw
                        case rel =>
                          obtain ⟨k1, k2⟩ := R7.out d6 (by rw [← M1.out]; exact V1.out) (by rw [← M1.out]; exact V2.out)
                          exact ⟨x, mid, L2, _, ap, rfl, rfl, rfl, rfl, rfl, hax, r1, by omega, hL3, d6, V1.out.1.trans R3.out, V3.out, V4.out, k1, fun R h1 h2 => by obtain ⟨j1, j2⟩ := k2 R h1 h2; exact HF2.out R j1 j2⟩
                        case measure => have := M1.out; simp [intOf]; omega
                · have hI7 : decide ((0 : Int) < (x : Int)) = false := decide_eq_false (by omega)
                  refine wp_region_facts [Fact.eq (.int .i64 x),
                      Fact.eq (.bool false),
                      Fact.eq (.bool false),
                      Fact.eq undef,
                      Fact.eq undef,
                      Fact.eq undef,
                      Fact.eq undef,
                      Fact.eq undef,
                      Fact.eq undef,
                      Fact.eq undef,
                      Fact.eq undef,
                      Fact.eq undef,
                      Fact.eq undef,
                      Fact.eq undef,
                      Fact.eq (.bool false)]
                    [[], [(0, 73)], [(1, 74)], [(2, 75)], [(2, 75)], [(4, 77), (2, 75)], [(3, 76), (5, 78), (2, 75)], [(6, 79), (2, 75)], [(2, 75)], [(2, 75)], [(8, 81), (9, 82), (2, 75)], [(10, 83), (2, 75)], [(7, 80), (11, 84), (2, 75)], [(12, 85), (2, 75)], [(2, 75), (13, 86)]]
                    [(0, 73), (1, 74), (2, 75), (3, 76), (4, 77), (5, 78), (6, 79), (7, 80), (8, 81), (9, 82), (10, 83), (11, 84), (12, 85), (13, 86), (14, 87)] (by kernel_rfl) (by kernel_rfl) ?_ ?_
                  · refine ⟨?_, ?_, ?_, ?_, ?_, ?_, ?_, ?_, ?_, ?_, ?_, ?_, ?_, ?_, ?_, trivial⟩
                    · intro w1 hx1; change wpList _ _ _ _ _ _; exact ob_move rfl rfl rfl rfl rfl
                    · intro w1 hx1; rintro _ rfl; change wpList _ _ _ _ _ _; go_wp2_with fail; exact ⟨rfl, Ext.refl _, rfl, rfl⟩
                    · intro w1 hx1; rintro _ rfl; change wpList _ _ _ _ _ _; exact ob_move rfl rfl rfl rfl rfl
                    · intro w1 hx1; rintro _ rfl; change wpList _ _ _ _ _ _; exact ob_skip rfl rfl rfl rfl
                    · intro w1 hx1; rintro _ rfl; change wpList _ _ _ _ _ _; exact ob_skip rfl rfl rfl rfl
                    · intro w1 hx1; rintro _ rfl; rintro _ rfl; change wpList _ _ _ _ _ _; exact ob_skip rfl rfl rfl rfl
                    · intro w1 hx1; rintro _ rfl; rintro _ rfl; rintro _ rfl; change wpList _ _ _ _ _ _; exact ob_skip rfl rfl rfl rfl
                    · intro w1 hx1; rintro _ rfl; rintro _ rfl; change wpList _ _ _ _ _ _; exact ob_skip rfl rfl rfl rfl
                    · intro w1 hx1; rintro _ rfl; change wpList _ _ _ _ _ _; exact ob_skip rfl rfl rfl rfl
                    · intro w1 hx1; rintro _ rfl; change wpList _ _ _ _ _ _; exact ob_skip rfl rfl rfl rfl
                    · intro w1 hx1; rintro _ rfl; rintro _ rfl; rintro _ rfl; change wpList _ _ _ _ _ _; exact ob_skip rfl rfl rfl rfl
                    · intro w1 hx1; rintro _ rfl; rintro _ rfl; change wpList _ _ _ _ _ _; exact ob_skip rfl rfl rfl rfl
                    · intro w1 hx1; rintro _ rfl; rintro _ rfl; rintro _ rfl; change wpList _ _ _ _ _ _; exact ob_skip rfl rfl rfl rfl
                    · intro w1 hx1; rintro _ rfl; rintro _ rfl; change wpList _ _ _ _ _ _; exact ob_skip rfl rfl rfl rfl
                    · intro w1 hx1; rintro _ rfl; rintro _ rfl; change wpList _ _ _ _ _ _; exact ob_pick rfl rfl rfl rfl rfl rfl
                  · intro w1 hx1; rintro _ rfl; rintro _ rfl; rintro _ rfl; rintro _ rfl; rintro _ rfl; rintro _ rfl; rintro _ rfl; rintro _ rfl; rintro _ rfl; rintro _ rfl; rintro _ rfl; rintro _ rfl; rintro _ rfl; rintro _ rfl; rintro _ rfl; refine depsThen_nil ?_; dsimp only; simp only [Act.put, List.setIfInBounds_toArray, List.set_cons_zero, List.set_cons_succ]
                    have U5 := Lib.hid (U2.out.ext hx1)
                    have G5 := Lib.hid (grown_trans G2.out (grown_of_ext hx1))
                    clear hx1 hI7
                    obtain ⟨mid, ap, d4, hpt⟩ : ∃ mid ap d4, Sort.partition ltN d2 x y q = (mid, ap, d4) := ⟨_, _, _, rfl⟩
                    have hc := part_any base g cap d2 x y q _ U5.out hq1 hq2 (by rw [HZ2.out]; omega) (by rw [HZ2.out]; omega)
                    rw [HZ2.out, hpt] at hc
                    have HC := Lib.hid hc
                    clear hc
                    obtain ⟨r1, r2, r3, r4, r5, r6, r7⟩ := Sort.round_part (lt := ltN) swo_ltN (Sort.partition_holds ltN) hq1 hq2 (by rw [HZ2.out]; omega) B2.out hpt
                    have R3 := Lib.hid (r3.trans HZ2.out)
                    have R4 := Lib.hid r4
                    have R5 := Lib.hid r5
                    have R6 := Lib.hid r6
                    have R7 := Lib.hid r7
                    clear r3 r4 r5 r6 r7 hpt
                    obtain ⟨l1, hl1⟩ : ∃ z, z = mid - x := ⟨_, rfl⟩
                    obtain ⟨l2, hl2⟩ : ∃ z, z = y - mid := ⟨_, rfl⟩
                    obtain ⟨l8, hl8⟩ : ∃ z, z = l0 / 8 := ⟨_, rfl⟩
                    obtain ⟨m1, hm1⟩ : ∃ z, z = mid + 1 := ⟨_, rfl⟩
                    have z1 : (mid : Int) - (x : Int) = (l1 : Int) := by omega
                    have z2 : (y : Int) - (mid : Int) = (l2 : Int) := by omega
                    have z3 : (l0 : Int) / 8 = (l8 : Int) := by omega
                    have z4 : (mid : Int) + 1 = (m1 : Int) := by omega
                    have z5 : l1 ≤ 512 := by omega
                    have z6 : l2 ≤ 512 := by omega
                    have z7 : l8 ≤ 512 := by omega
                    have z8 : m1 ≤ y := by omega
                    have z9 : mid ≤ 512 := by omega
                    have M1 := Lib.hid hm1
                    clear hl1 hl2 hl8 hm1
                    go_upto_region 22 with ((with_reducible refine HC.out.mono ?_); rintro e w5 ⟨rfl, h1, h2⟩; have U6 := Lib.hid h1; have G6 := Lib.hid (grown_trans G5.out h2); clear h1 h2)
                    by_cases hlr : l1 < l2
                    · have hI9 : decide ((l1 : Int) < (l2 : Int)) = true := decide_eq_true (by omega)
                      have hr := IH.out (mid - x) (by have := HN0.out; omega) x mid d4 L2 w5 (Nat.le_refl _) r1 (by rw [R3.out]; omega) (by rw [R3.out]; exact hsz) hL3 R4.out U6.out
                      rw [R3.out] at hr
                      have HR := Lib.hid hr
                      clear hr
                      go_wp2_with ((with_reducible refine HR.out.mono ?_); rintro e w6 ⟨rfl, d6, h1, h2, h3, h4⟩; have V1 := Lib.hid h1; have V2 := Lib.hid h2; have V3 := Lib.hid h3; have V4 := Lib.hid (grown_trans G6.out h4); clear h1 h2 h3 h4)
                      go_roundw
                      case rel =>
                        obtain ⟨k1, k2⟩ := R6.out d6 V1.out V2.out
                        rw [← M1.out] at k1 k2
                        exact ⟨m1, y, L2, _, ap, rfl, rfl, rfl, rfl, rfl, by have := M1.out; omega, z8, hyb, hL3, d6, V1.out.1.trans R3.out, V3.out, V4.out, k1, fun R h1 h2 => by obtain ⟨j1, j2⟩ := k2 R h1 h2; exact HF2.out R j1 j2⟩
                      case measure => have := M1.out; simp [intOf]; omega
                    · have hI9 : decide ((l1 : Int) < (l2 : Int)) = false := decide_eq_false (by omega)
                      have hr := IH.out (y - m1) (by have := HN0.out; have := M1.out; omega) m1 y d4 L2 w5 (Nat.le_refl _) z8 (by rw [R3.out]; omega) (by rw [R3.out]; exact hsz) hL3 (by rw [M1.out]; exact R5.out) U6.out
                      rw [R3.out] at hr
                      have HR := Lib.hid hr
                      clear hr
                      go_wp2_with ((with_reducible refine HR.out.mono ?_); rintro e w6 ⟨rfl, d6, h1, h2, h3, h4⟩; have V1 := Lib.hid h1; have V2 := Lib.hid h2; have V3 := Lib.hid h3; have V4 := Lib.hid (grown_trans G6.out h4); clear h1 h2 h3 h4)
                      go_roundw
                      case rel =>
                        obtain ⟨k1, k2⟩ := R7.out d6 (by rw [← M1.out]; exact V1.out) (by rw [← M1.out]; exact V2.out)
                        exact ⟨x, mid, L2, _, ap, rfl, rfl, rfl, rfl, rfl, hax, r1, by omega, hL3, d6, V1.out.1.trans R3.out, V3.out, V4.out, k1, fun R h1 h2 => by obtain ⟨j1, j2⟩ := k2 R h1 h2; exact HF2.out R j1 j2⟩
                      case measure => have := M1.out; simp [intOf]; omega
              | true =>
                cases wp with
                | false =>
                  obtain ⟨xm, hxm⟩ : ∃ z, z = x - 1 := ⟨_, rfl⟩
                  have HXM := Lib.hid hxm
                  clear hxm
                  go_upto_region 17 with fail
                  by_cases hx0 : 0 < x
                  · have hI7 : decide ((0 : Int) < (x : Int)) = true := decide_eq_true (by omega)
                    have qxm : (x : Int) - 1 = (xm : Int) := by have := HXM.out; omega
                    have hxN : xm < N ∧ q < N := by have := HXM.out; omega
                    have b1 : (xm : Int) < (N : Int) := by omega
                    have b2 : (q : Int) < (N : Int) := by omega
                    have kx := U2.out.cell (i := xm) (by rw [HZ2.out]; omega)
                    have kq := U2.out.cell (i := q) (by rw [HZ2.out]; omega)
                    cases hl : ltN d2[xm]! d2[q]! with
                    | false =>
                      have hnl : ltN d2[x - 1]! d2[q]! = false := by rw [← HXM.out]; exact hl
                      have HNL := Lib.hid hnl
                      clear hnl
                      have HL := Lib.hid hl
                      clear hl
                      obtain ⟨v1, hv1⟩ : ∃ v, d2[xm]! = v := ⟨_, rfl⟩
                      obtain ⟨v2, hv2⟩ : ∃ v, d2[q]! = v := ⟨_, rfl⟩
                      rw [hv1] at kx
                      rw [hv2] at kq
                      rw [hv1, hv2] at HL
                      clear hv1 hv2
                      refine wp_region_facts [Fact.eq (.int .i64 x),
                          Fact.eq (.bool true),
                          Fact.eq (.bool true),
                          Fact.eq (.slice (some ⟨g, 0, none⟩) N cap),
                          Fact.eq (.int .i64 x),
                          Fact.eq (.int .i64 xm),
                          Fact.eq (.pointer (some ⟨g, xm, none⟩)),
                          Fact.eq (.int .u64 v1),
                          Fact.eq (.slice (some ⟨g, 0, none⟩) N cap),
                          Fact.eq (.int .i64 q),
                          Fact.eq (.pointer (some ⟨g, q, none⟩)),
                          Fact.eq (.int .u64 v2),
                          Fact.eq (.bool false),
                          Fact.eq (.bool true),
                          Fact.eq (.bool true)]
                        [[], [(0, 73)], [(1, 74)], [(2, 75)], [(2, 75)], [(4, 77), (2, 75)], [(3, 76), (5, 78), (2, 75)], [(6, 79), (2, 75)], [(2, 75)], [(2, 75)], [(8, 81), (9, 82), (2, 75)], [(10, 83), (2, 75)], [(7, 80), (11, 84), (2, 75)], [(12, 85), (2, 75)], [(2, 75), (13, 86)]]
                        [(0, 73), (1, 74), (2, 75), (3, 76), (4, 77), (5, 78), (6, 79), (7, 80), (8, 81), (9, 82), (10, 83), (11, 84), (12, 85), (13, 86), (14, 87)] (by kernel_rfl) (by kernel_rfl) ?_ ?_
                      · refine ⟨?_, ?_, ?_, ?_, ?_, ?_, ?_, ?_, ?_, ?_, ?_, ?_, ?_, ?_, ?_, trivial⟩
                        · intro w1 hx1; change wpList _ _ _ _ _ _; exact ob_move rfl rfl rfl rfl rfl
                        · intro w1 hx1; rintro _ rfl; change wpList _ _ _ _ _ _; go_wp2_with fail; exact ⟨rfl, Ext.refl _, rfl, rfl⟩
                        · intro w1 hx1; rintro _ rfl; change wpList _ _ _ _ _ _; exact ob_move rfl rfl rfl rfl rfl
                        · intro w1 hx1; rintro _ rfl; change wpList _ _ _ _ _ _; exact ob_move rfl rfl rfl rfl rfl
                        · intro w1 hx1; rintro _ rfl; change wpList _ _ _ _ _ _; exact ob_move rfl rfl rfl rfl rfl
                        · intro w1 hx1; rintro _ rfl; rintro _ rfl; change wpList _ _ _ _ _ _; go_wp2_with fail; exact ⟨rfl, Ext.refl _, rfl, rfl⟩
                        · intro w1 hx1; rintro _ rfl; rintro _ rfl; rintro _ rfl; change wpList _ _ _ _ _ _; go_wp2_with fail; exact ⟨rfl, Ext.refl _, rfl, rfl⟩
                        · intro w1 hx1; rintro _ rfl; rintro _ rfl; change wpList _ _ _ _ _ _; have m0 := hx1.cell kx; go_wp2_with fail; exact ⟨rfl, Ext.refl _, rfl, rfl⟩
                        · intro w1 hx1; rintro _ rfl; change wpList _ _ _ _ _ _; exact ob_move rfl rfl rfl rfl rfl
                        · intro w1 hx1; rintro _ rfl; change wpList _ _ _ _ _ _; exact ob_move rfl rfl rfl rfl rfl
                        · intro w1 hx1; rintro _ rfl; rintro _ rfl; rintro _ rfl; change wpList _ _ _ _ _ _; go_wp2_with fail; exact ⟨rfl, Ext.refl _, rfl, rfl⟩
                        · intro w1 hx1; rintro _ rfl; rintro _ rfl; change wpList _ _ _ _ _ _; have m0 := hx1.cell kq; go_wp2_with fail; exact ⟨rfl, Ext.refl _, rfl, rfl⟩
                        · intro w1 hx1; rintro _ rfl; rintro _ rfl; rintro _ rfl; change wpList _ _ _ _ _ _; go_wp2_with fail; refine (less_no HL.out _).mono ?_; rintro e w2 ⟨rfl, hx2⟩; go_wp2_with fail; exact ⟨rfl, hx2, rfl, rfl⟩
                        · intro w1 hx1; rintro _ rfl; rintro _ rfl; change wpList _ _ _ _ _ _; go_wp2_with fail; exact ⟨rfl, Ext.refl _, rfl, rfl⟩
                        · intro w1 hx1; rintro _ rfl; rintro _ rfl; change wpList _ _ _ _ _ _; exact ob_pick rfl rfl rfl rfl rfl rfl
                      · intro w1 hx1; rintro _ rfl; rintro _ rfl; rintro _ rfl; rintro _ rfl; rintro _ rfl; rintro _ rfl; rintro _ rfl; rintro _ rfl; rintro _ rfl; rintro _ rfl; rintro _ rfl; rintro _ rfl; rintro _ rfl; rintro _ rfl; rintro _ rfl; refine depsThen_nil ?_; dsimp only; simp only [Act.put, List.setIfInBounds_toArray, List.set_cons_zero, List.set_cons_succ]
                        have U5 := Lib.hid (U2.out.ext hx1)
                        have G5 := Lib.hid (grown_trans G2.out (grown_of_ext hx1))
                        clear hx1 kx kq qxm b1 b2 hI7
                        obtain ⟨mid, d4, hpt⟩ : ∃ mid d4, Sort.partitionEqual ltN d2 x y q = (mid, d4) := ⟨_, _, rfl⟩
                        have hc := partEq_any base g cap d2 x y q _ U5.out hq1 hq2 (by rw [HZ2.out]; omega) (by rw [HZ2.out]; omega)
                        rw [HZ2.out, hpt] at hc
                        have HC := Lib.hid hc
                        clear hc
                        obtain ⟨r1, r2, r3, r4, r5⟩ := Sort.round_eq (lt := ltN) swo_ltN (Sort.partitionEqual_holds ltN) hx0 hq1 hq2 (by rw [HZ2.out]; omega) B2.out HNL.out hpt
                        have R3 := Lib.hid (r3.trans HZ2.out)
                        have R4 := Lib.hid r4
                        have R5 := Lib.hid r5
                        clear r3 r4 r5 hpt HNL
                        go_wp2_with ((with_reducible refine HC.out.mono ?_); rintro e w5 ⟨rfl, h1, h2⟩; have U6 := Lib.hid h1; have G6 := Lib.hid (grown_trans G5.out h2); clear h1 h2)
                        go_roundw
                        case rel => exact ⟨mid, y, L2, _, _, rfl, rfl, rfl, rfl, rfl, by omega, r2, hyb, hL3, d4, R3.out, U6.out, G6.out, R4.out, fun R h1 h2 => by obtain ⟨j1, j2⟩ := R5.out R h1 h2; exact HF2.out R j1 j2⟩
                        case measure => simp [intOf]; omega
                    | true =>
                      have HL := Lib.hid hl
                      clear hl
                      obtain ⟨v1, hv1⟩ : ∃ v, d2[xm]! = v := ⟨_, rfl⟩
                      obtain ⟨v2, hv2⟩ : ∃ v, d2[q]! = v := ⟨_, rfl⟩
                      rw [hv1] at kx
                      rw [hv2] at kq
                      rw [hv1, hv2] at HL
                      clear hv1 hv2
                      refine wp_region_facts [Fact.eq (.int .i64 x),
                          Fact.eq (.bool true),
                          Fact.eq (.bool true),
                          Fact.eq (.slice (some ⟨g, 0, none⟩) N cap),
                          Fact.eq (.int .i64 x),
                          Fact.eq (.int .i64 xm),
                          Fact.eq (.pointer (some ⟨g, xm, none⟩)),
                          Fact.eq (.int .u64 v1),
                          Fact.eq (.slice (some ⟨g, 0, none⟩) N cap),
                          Fact.eq (.int .i64 q),
                          Fact.eq (.pointer (some ⟨g, q, none⟩)),
                          Fact.eq (.int .u64 v2),
                          Fact.eq (.bool true),
                          Fact.eq (.bool false),
                          Fact.eq (.bool false)]
                        [[], [(0, 73)], [(1, 74)], [(2, 75)], [(2, 75)], [(4, 77), (2, 75)], [(3, 76), (5, 78), (2, 75)], [(6, 79), (2, 75)], [(2, 75)], [(2, 75)], [(8, 81), (9, 82), (2, 75)], [(10, 83), (2, 75)], [(7, 80), (11, 84), (2, 75)], [(12, 85), (2, 75)], [(2, 75), (13, 86)]]
                        [(0, 73), (1, 74), (2, 75), (3, 76), (4, 77), (5, 78), (6, 79), (7, 80), (8, 81), (9, 82), (10, 83), (11, 84), (12, 85), (13, 86), (14, 87)] (by kernel_rfl) (by kernel_rfl) ?_ ?_
                      · refine ⟨?_, ?_, ?_, ?_, ?_, ?_, ?_, ?_, ?_, ?_, ?_, ?_, ?_, ?_, ?_, trivial⟩
                        · intro w1 hx1; change wpList _ _ _ _ _ _; exact ob_move rfl rfl rfl rfl rfl
                        · intro w1 hx1; rintro _ rfl; change wpList _ _ _ _ _ _; go_wp2_with fail; exact ⟨rfl, Ext.refl _, rfl, rfl⟩
                        · intro w1 hx1; rintro _ rfl; change wpList _ _ _ _ _ _; exact ob_move rfl rfl rfl rfl rfl
                        · intro w1 hx1; rintro _ rfl; change wpList _ _ _ _ _ _; exact ob_move rfl rfl rfl rfl rfl
                        · intro w1 hx1; rintro _ rfl; change wpList _ _ _ _ _ _; exact ob_move rfl rfl rfl rfl rfl
                        · intro w1 hx1; rintro _ rfl; rintro _ rfl; change wpList _ _ _ _ _ _; go_wp2_with fail; exact ⟨rfl, Ext.refl _, rfl, rfl⟩
                        · intro w1 hx1; rintro _ rfl; rintro _ rfl; rintro _ rfl; change wpList _ _ _ _ _ _; go_wp2_with fail; exact ⟨rfl, Ext.refl _, rfl, rfl⟩
                        · intro w1 hx1; rintro _ rfl; rintro _ rfl; change wpList _ _ _ _ _ _; have m0 := hx1.cell kx; go_wp2_with fail; exact ⟨rfl, Ext.refl _, rfl, rfl⟩
                        · intro w1 hx1; rintro _ rfl; change wpList _ _ _ _ _ _; exact ob_move rfl rfl rfl rfl rfl
                        · intro w1 hx1; rintro _ rfl; change wpList _ _ _ _ _ _; exact ob_move rfl rfl rfl rfl rfl
                        · intro w1 hx1; rintro _ rfl; rintro _ rfl; rintro _ rfl; change wpList _ _ _ _ _ _; go_wp2_with fail; exact ⟨rfl, Ext.refl _, rfl, rfl⟩
                        · intro w1 hx1; rintro _ rfl; rintro _ rfl; change wpList _ _ _ _ _ _; have m0 := hx1.cell kq; go_wp2_with fail; exact ⟨rfl, Ext.refl _, rfl, rfl⟩
                        · intro w1 hx1; rintro _ rfl; rintro _ rfl; rintro _ rfl; change wpList _ _ _ _ _ _; go_wp2_with fail; refine (less_yes HL.out _).mono ?_; rintro e w2 ⟨rfl, hx2⟩; go_wp2_with fail; exact ⟨rfl, hx2, rfl, rfl⟩
                        · intro w1 hx1; rintro _ rfl; rintro _ rfl; change wpList _ _ _ _ _ _; go_wp2_with fail; exact ⟨rfl, Ext.refl _, rfl, rfl⟩
                        · intro w1 hx1; rintro _ rfl; rintro _ rfl; change wpList _ _ _ _ _ _; exact ob_pick rfl rfl rfl rfl rfl rfl
                      · intro w1 hx1; rintro _ rfl; rintro _ rfl; rintro _ rfl; rintro _ rfl; rintro _ rfl; rintro _ rfl; rintro _ rfl; rintro _ rfl; rintro _ rfl; rintro _ rfl; rintro _ rfl; rintro _ rfl; rintro _ rfl; rintro _ rfl; rintro _ rfl; refine depsThen_nil ?_; dsimp only; simp only [Act.put, List.setIfInBounds_toArray, List.set_cons_zero, List.set_cons_succ]
                        have U5 := Lib.hid (U2.out.ext hx1)
                        have G5 := Lib.hid (grown_trans G2.out (grown_of_ext hx1))
                        clear hx1 kx kq qxm b1 b2 hI7
                        obtain ⟨mid, ap, d4, hpt⟩ : ∃ mid ap d4, Sort.partition ltN d2 x y q = (mid, ap, d4) := ⟨_, _, _, rfl⟩
                        have hc := part_any base g cap d2 x y q _ U5.out hq1 hq2 (by rw [HZ2.out]; omega) (by rw [HZ2.out]; omega)
                        rw [HZ2.out, hpt] at hc
                        have HC := Lib.hid hc
                        clear hc
                        obtain ⟨r1, r2, r3, r4, r5, r6, r7⟩ := Sort.round_part (lt := ltN) swo_ltN (Sort.partition_holds ltN) hq1 hq2 (by rw [HZ2.out]; omega) B2.out hpt
                        have R3 := Lib.hid (r3.trans HZ2.out)
                        have R4 := Lib.hid r4
                        have R5 := Lib.hid r5
                        have R6 := Lib.hid r6
                        have R7 := Lib.hid r7
                        clear r3 r4 r5 r6 r7 hpt
                        obtain ⟨l1, hl1⟩ : ∃ z, z = mid - x := ⟨_, rfl⟩
                        obtain ⟨l2, hl2⟩ : ∃ z, z = y - mid := ⟨_, rfl⟩
                        obtain ⟨l8, hl8⟩ : ∃ z, z = l0 / 8 := ⟨_, rfl⟩
                        obtain ⟨m1, hm1⟩ : ∃ z, z = mid + 1 := ⟨_, rfl⟩
                        have z1 : (mid : Int) - (x : Int) = (l1 : Int) := by omega
                        have z2 : (y : Int) - (mid : Int) = (l2 : Int) := by omega
                        have z3 : (l0 : Int) / 8 = (l8 : Int) := by omega
                        have z4 : (mid : Int) + 1 = (m1 : Int) := by omega
                        have z5 : l1 ≤ 512 := by omega
                        have z6 : l2 ≤ 512 := by omega
                        have z7 : l8 ≤ 512 := by omega
                        have z8 : m1 ≤ y := by omega
                        have z9 : mid ≤ 512 := by omega
                        have M1 := Lib.hid hm1
                        clear hl1 hl2 hl8 hm1
                        go_upto_region 22 with ((with_reducible refine HC.out.mono ?_); rintro e w5 ⟨rfl, h1, h2⟩; have U6 := Lib.hid h1; have G6 := Lib.hid (grown_trans G5.out h2); clear h1 h2)
                        by_cases hlr : l1 < l2
                        · have hI9 : decide ((l1 : Int) < (l2 : Int)) = true := decide_eq_true (by omega)
                          have hr := IH.out (mid - x) (by have := HN0.out; omega) x mid d4 L2 w5 (Nat.le_refl _) r1 (by rw [R3.out]; omega) (by rw [R3.out]; exact hsz) hL3 R4.out U6.out
                          rw [R3.out] at hr
                          have HR := Lib.hid hr
                          clear hr
                          go_wp2_with ((with_reducible refine HR.out.mono ?_); rintro e w6 ⟨rfl, d6, h1, h2, h3, h4⟩; have V1 := Lib.hid h1; have V2 := Lib.hid h2; have V3 := Lib.hid h3; have V4 := Lib.hid (grown_trans G6.out h4); clear h1 h2 h3 h4)
                          go_roundw
                          case rel =>
                            obtain ⟨k1, k2⟩ := R6.out d6 V1.out V2.out
                            rw [← M1.out] at k1 k2
                            exact ⟨m1, y, L2, _, ap, rfl, rfl, rfl, rfl, rfl, by have := M1.out; omega, z8, hyb, hL3, d6, V1.out.1.trans R3.out, V3.out, V4.out, k1, fun R h1 h2 => by obtain ⟨j1, j2⟩ := k2 R h1 h2; exact HF2.out R j1 j2⟩
                          case measure => have := M1.out; simp [intOf]; omega
                        · have hI9 : decide ((l1 : Int) < (l2 : Int)) = false := decide_eq_false (by omega)
                          have hr := IH.out (y - m1) (by have := HN0.out; have := M1.out; omega) m1 y d4 L2 w5 (Nat.le_refl _) z8 (by rw [R3.out]; omega) (by rw [R3.out]; exact hsz) hL3 (by rw [M1.out]; exact R5.out) U6.out
                          rw [R3.out] at hr
                          have HR := Lib.hid hr
                          clear hr
                          go_wp2_with ((with_reducible refine HR.out.mono ?_); rintro e w6 ⟨rfl, d6, h1, h2, h3, h4⟩; have V1 := Lib.hid h1; have V2 := Lib.hid h2; have V3 := Lib.hid h3; have V4 := Lib.hid (grown_trans G6.out h4); clear h1 h2 h3 h4)
                          go_roundw
                          case rel =>
                            obtain ⟨k1, k2⟩ := R7.out d6 (by rw [← M1.out]; exact V1.out) (by rw [← M1.out]; exact V2.out)
                            exact ⟨x, mid, L2, _, ap, rfl, rfl, rfl, rfl, rfl, hax, r1, by omega, hL3, d6, V1.out.1.trans R3.out, V3.out, V4.out, k1, fun R h1 h2 => by obtain ⟨j1, j2⟩ := k2 R h1 h2; exact HF2.out R j1 j2⟩
                          case measure => have := M1.out; simp [intOf]; omega
                  · have hI7 : decide ((0 : Int) < (x : Int)) = false := decide_eq_false (by omega)
                    refine wp_region_facts [Fact.eq (.int .i64 x),
                        Fact.eq (.bool false),
                        Fact.eq (.bool false),
                        Fact.eq undef,
                        Fact.eq undef,
                        Fact.eq undef,
                        Fact.eq undef,
                        Fact.eq undef,
                        Fact.eq undef,
                        Fact.eq undef,
                        Fact.eq undef,
                        Fact.eq undef,
                        Fact.eq undef,
                        Fact.eq undef,
                        Fact.eq (.bool false)]
                      [[], [(0, 73)], [(1, 74)], [(2, 75)], [(2, 75)], [(4, 77), (2, 75)], [(3, 76), (5, 78), (2, 75)], [(6, 79), (2, 75)], [(2, 75)], [(2, 75)], [(8, 81), (9, 82), (2, 75)], [(10, 83), (2, 75)], [(7, 80), (11, 84), (2, 75)], [(12, 85), (2, 75)], [(2, 75), (13, 86)]]
                      [(0, 73), (1, 74), (2, 75), (3, 76), (4, 77), (5, 78), (6, 79), (7, 80), (8, 81), (9, 82), (10, 83), (11, 84), (12, 85), (13, 86), (14, 87)] (by kernel_rfl) (by kernel_rfl) ?_ ?_
                    · refine ⟨?_, ?_, ?_, ?_, ?_, ?_, ?_, ?_, ?_, ?_, ?_, ?_, ?_, ?_, ?_, trivial⟩
                      · intro w1 hx1; change wpList _ _ _ _ _ _; exact ob_move rfl rfl rfl rfl rfl
                      · intro w1 hx1; rintro _ rfl; change wpList _ _ _ _ _ _; go_wp2_with fail; exact ⟨rfl, Ext.refl _, rfl, rfl⟩
                      · intro w1 hx1; rintro _ rfl; change wpList _ _ _ _ _ _; exact ob_move rfl rfl rfl rfl rfl
                      · intro w1 hx1; rintro _ rfl; change wpList _ _ _ _ _ _; exact ob_skip rfl rfl rfl rfl
                      · intro w1 hx1; rintro _ rfl; change wpList _ _ _ _ _ _; exact ob_skip rfl rfl rfl rfl
                      · intro w1 hx1; rintro _ rfl; rintro _ rfl; change wpList _ _ _ _ _ _; exact ob_skip rfl rfl rfl rfl
                      · intro w1 hx1; rintro _ rfl; rintro _ rfl; rintro _ rfl; change wpList _ _ _ _ _ _; exact ob_skip rfl rfl rfl rfl
                      · intro w1 hx1; rintro _ rfl; rintro _ rfl; change wpList _ _ _ _ _ _; exact ob_skip rfl rfl rfl rfl
                      · intro w1 hx1; rintro _ rfl; change wpList _ _ _ _ _ _; exact ob_skip rfl rfl rfl rfl
                      · intro w1 hx1; rintro _ rfl; change wpList _ _ _ _ _ _; exact ob_skip rfl rfl rfl rfl
                      · intro w1 hx1; rintro _ rfl; rintro _ rfl; rintro _ rfl; change wpList _ _ _ _ _ _; exact ob_skip rfl rfl rfl rfl
                      · intro w1 hx1; rintro _ rfl; rintro _ rfl; change wpList _ _ _ _ _ _; exact ob_skip rfl rfl rfl rfl
                      · intro w1 hx1; rintro _ rfl; rintro _ rfl; rintro _ rfl; change wpList _ _ _ _ _ _; exact ob_skip rfl rfl rfl rfl
                      · intro w1 hx1; rintro _ rfl; rintro _ rfl; change wpList _ _ _ _ _ _; exact ob_skip rfl rfl rfl rfl
                      · intro w1 hx1; rintro _ rfl; rintro _ rfl; change wpList _ _ _ _ _ _; exact ob_pick rfl rfl rfl rfl rfl rfl
                    · intro w1 hx1; rintro _ rfl; rintro _ rfl; rintro _ rfl; rintro _ rfl; rintro _ rfl; rintro _ rfl; rintro _ rfl; rintro _ rfl; rintro _ rfl; rintro _ rfl; rintro _ rfl; rintro _ rfl; rintro _ rfl; rintro _ rfl; rintro _ rfl; refine depsThen_nil ?_; dsimp only; simp only [Act.put, List.setIfInBounds_toArray, List.set_cons_zero, List.set_cons_succ]
                      have U5 := Lib.hid (U2.out.ext hx1)
                      have G5 := Lib.hid (grown_trans G2.out (grown_of_ext hx1))
                      clear hx1 hI7
                      obtain ⟨mid, ap, d4, hpt⟩ : ∃ mid ap d4, Sort.partition ltN d2 x y q = (mid, ap, d4) := ⟨_, _, _, rfl⟩
                      have hc := part_any base g cap d2 x y q _ U5.out hq1 hq2 (by rw [HZ2.out]; omega) (by rw [HZ2.out]; omega)
                      rw [HZ2.out, hpt] at hc
                      have HC := Lib.hid hc
                      clear hc
                      obtain ⟨r1, r2, r3, r4, r5, r6, r7⟩ := Sort.round_part (lt := ltN) swo_ltN (Sort.partition_holds ltN) hq1 hq2 (by rw [HZ2.out]; omega) B2.out hpt
                      have R3 := Lib.hid (r3.trans HZ2.out)
                      have R4 := Lib.hid r4
                      have R5 := Lib.hid r5
                      have R6 := Lib.hid r6
                      have R7 := Lib.hid r7
                      clear r3 r4 r5 r6 r7 hpt
                      obtain ⟨l1, hl1⟩ : ∃ z, z = mid - x := ⟨_, rfl⟩
                      obtain ⟨l2, hl2⟩ : ∃ z, z = y - mid := ⟨_, rfl⟩
                      obtain ⟨l8, hl8⟩ : ∃ z, z = l0 / 8 := ⟨_, rfl⟩
                      obtain ⟨m1, hm1⟩ : ∃ z, z = mid + 1 := ⟨_, rfl⟩
                      have z1 : (mid : Int) - (x : Int) = (l1 : Int) := by omega
                      have z2 : (y : Int) - (mid : Int) = (l2 : Int) := by omega
                      have z3 : (l0 : Int) / 8 = (l8 : Int) := by omega
                      have z4 : (mid : Int) + 1 = (m1 : Int) := by omega
                      have z5 : l1 ≤ 512 := by omega
                      have z6 : l2 ≤ 512 := by omega
                      have z7 : l8 ≤ 512 := by omega
                      have z8 : m1 ≤ y := by omega
                      have z9 : mid ≤ 512 := by omega
                      have M1 := Lib.hid hm1
                      clear hl1 hl2 hl8 hm1
                      go_upto_region 22 with ((with_reducible refine HC.out.mono ?_); rintro e w5 ⟨rfl, h1, h2⟩; have U6 := Lib.hid h1; have G6 := Lib.hid (grown_trans G5.out h2); clear h1 h2)
                      by_cases hlr : l1 < l2
                      · have hI9 : decide ((l1 : Int) < (l2 : Int)) = true := decide_eq_true (by omega)
                        have hr := IH.out (mid - x) (by have := HN0.out; omega) x mid d4 L2 w5 (Nat.le_refl _) r1 (by rw [R3.out]; omega) (by rw [R3.out]; exact hsz) hL3 R4.out U6.out
                        rw [R3.out] at hr
                        have HR := Lib.hid hr
                        clear hr
                        go_wp2_with ((with_reducible refine HR.out.mono ?_); rintro e w6 ⟨rfl, d6, h1, h2, h3, h4⟩; have V1 := Lib.hid h1; have V2 := Lib.hid h2; have V3 := Lib.hid h3; have V4 := Lib.hid (grown_trans G6.out h4); clear h1 h2 h3 h4)
                        go_roundw
                        case rel =>
                          obtain ⟨k1, k2⟩ := R6.out d6 V1.out V2.out
                          rw [← M1.out] at k1 k2
                          exact ⟨m1, y, L2, _, ap, rfl, rfl, rfl, rfl, rfl, by have := M1.out; omega, z8, hyb, hL3, d6, V1.out.1.trans R3.out, V3.out, V4.out, k1, fun R h1 h2 => by obtain ⟨j1, j2⟩ := k2 R h1 h2; exact HF2.out R j1 j2⟩
                        case measure => have := M1.out; simp [intOf]; omega
                      · have hI9 : decide ((l1 : Int) < (l2 : Int)) = false := decide_eq_false (by omega)
                        have hr := IH.out (y - m1) (by have := HN0.out; have := M1.out; omega) m1 y d4 L2 w5 (Nat.le_refl _) z8 (by rw [R3.out]; omega) (by rw [R3.out]; exact hsz) hL3 (by rw [M1.out]; exact R5.out) U6.out
                        rw [R3.out] at hr
                        have HR := Lib.hid hr
                        clear hr
                        go_wp2_with ((with_reducible refine HR.out.mono ?_); rintro e w6 ⟨rfl, d6, h1, h2, h3, h4⟩; have V1 := Lib.hid h1; have V2 := Lib.hid h2; have V3 := Lib.hid h3; have V4 := Lib.hid (grown_trans G6.out h4); clear h1 h2 h3 h4)
                        go_roundw
                        case rel =>
                          obtain ⟨k1, k2⟩ := R7.out d6 (by rw [← M1.out]; exact V1.out) (by rw [← M1.out]; exact V2.out)
                          exact ⟨x, mid, L2, _, ap, rfl, rfl, rfl, rfl, rfl, hax, r1, by omega, hL3, d6, V1.out.1.trans R3.out, V3.out, V4.out, k1, fun R h1 h2 => by obtain ⟨j1, j2⟩ := k2 R h1 h2; exact HF2.out R j1 j2⟩
                        case measure => have := M1.out; simp [intOf]; omega
                | true =>
                  have hne : h ≠ 1 := fun e => hcond ⟨rfl, rfl, e⟩
                  have t1 : ((h : Int) == 1) = false := beq_eq_false_iff_ne.2 (by omega)
                  have t2 : (h == 1) = false := beq_eq_false_iff_ne.2 hne
                  obtain ⟨xm, hxm⟩ : ∃ z, z = x - 1 := ⟨_, rfl⟩
                  have HXM := Lib.hid hxm
                  clear hxm
                  go_upto_region 17 with fail
                  by_cases hx0 : 0 < x
                  · have hI7 : decide ((0 : Int) < (x : Int)) = true := decide_eq_true (by omega)
                    have qxm : (x : Int) - 1 = (xm : Int) := by have := HXM.out; omega
                    have hxN : xm < N ∧ q < N := by have := HXM.out; omega
                    have b1 : (xm : Int) < (N : Int) := by omega
                    have b2 : (q : Int) < (N : Int) := by omega
                    have kx := U2.out.cell (i := xm) (by rw [HZ2.out]; omega)
                    have kq := U2.out.cell (i := q) (by rw [HZ2.out]; omega)
                    cases hl : ltN d2[xm]! d2[q]! with
                    | false =>
                      have hnl : ltN d2[x - 1]! d2[q]! = false := by rw [← HXM.out]; exact hl
                      have HNL := Lib.hid hnl
                      clear hnl
                      have HL := Lib.hid hl
                      clear hl
                      obtain ⟨v1, hv1⟩ : ∃ v, d2[xm]! = v := ⟨_, rfl⟩
                      obtain ⟨v2, hv2⟩ : ∃ v, d2[q]! = v := ⟨_, rfl⟩
                      rw [hv1] at kx
                      rw [hv2] at kq
                      rw [hv1, hv2] at HL
                      clear hv1 hv2
                      refine wp_region_facts [Fact.eq (.int .i64 x),
                          Fact.eq (.bool true),
                          Fact.eq (.bool true),
                          Fact.eq (.slice (some ⟨g, 0, none⟩) N cap),
                          Fact.eq (.int .i64 x),
                          Fact.eq (.int .i64 xm),
                          Fact.eq (.pointer (some ⟨g, xm, none⟩)),
                          Fact.eq (.int .u64 v1),
                          Fact.eq (.slice (some ⟨g, 0, none⟩) N cap),
                          Fact.eq (.int .i64 q),
                          Fact.eq (.pointer (some ⟨g, q, none⟩)),
                          Fact.eq (.int .u64 v2),
                          Fact.eq (.bool false),
                          Fact.eq (.bool true),
                          Fact.eq (.bool true)]
                        [[], [(0, 73)], [(1, 74)], [(2, 75)], [(2, 75)], [(4, 77), (2, 75)], [(3, 76), (5, 78), (2, 75)], [(6, 79), (2, 75)], [(2, 75)], [(2, 75)], [(8, 81), (9, 82), (2, 75)], [(10, 83), (2, 75)], [(7, 80), (11, 84), (2, 75)], [(12, 85), (2, 75)], [(2, 75), (13, 86)]]
                        [(0, 73), (1, 74), (2, 75), (3, 76), (4, 77), (5, 78), (6, 79), (7, 80), (8, 81), (9, 82), (10, 83), (11, 84), (12, 85), (13, 86), (14, 87)] (by kernel_rfl) (by kernel_rfl) ?_ ?_
                      · refine ⟨?_, ?_, ?_, ?_, ?_, ?_, ?_, ?_, ?_, ?_, ?_, ?_, ?_, ?_, ?_, trivial⟩
                        · intro w1 hx1; change wpList _ _ _ _ _ _; exact ob_move rfl rfl rfl rfl rfl
                        · intro w1 hx1; rintro _ rfl; change wpList _ _ _ _ _ _; go_wp2_with fail; exact ⟨rfl, Ext.refl _, rfl, rfl⟩
                        · intro w1 hx1; rintro _ rfl; change wpList _ _ _ _ _ _; exact ob_move rfl rfl rfl rfl rfl
                        · intro w1 hx1; rintro _ rfl; change wpList _ _ _ _ _ _; exact ob_move rfl rfl rfl rfl rfl
                        · intro w1 hx1; rintro _ rfl; change wpList _ _ _ _ _ _; exact ob_move rfl rfl rfl rfl rfl
                        · intro w1 hx1; rintro _ rfl; rintro _ rfl; change wpList _ _ _ _ _ _; go_wp2_with fail; exact ⟨rfl, Ext.refl _, rfl, rfl⟩
                        · intro w1 hx1; rintro _ rfl; rintro _ rfl; rintro _ rfl; change wpList _ _ _ _ _ _; go_wp2_with fail; exact ⟨rfl, Ext.refl _, rfl, rfl⟩
                        · intro w1 hx1; rintro _ rfl; rintro _ rfl; change wpList _ _ _ _ _ _; have m0 := hx1.cell kx; go_wp2_with fail; exact ⟨rfl, Ext.refl _, rfl, rfl⟩
                        · intro w1 hx1; rintro _ rfl; change wpList _ _ _ _ _ _; exact ob_move rfl rfl rfl rfl rfl
                        · intro w1 hx1; rintro _ rfl; change wpList _ _ _ _ _ _; exact ob_move rfl rfl rfl rfl rfl
                        · intro w1 hx1; rintro _ rfl; rintro _ rfl; rintro _ rfl; change wpList _ _ _ _ _ _; go_wp2_with fail; exact ⟨rfl, Ext.refl _, rfl, rfl⟩
                        · intro w1 hx1; rintro _ rfl; rintro _ rfl; change wpList _ _ _ _ _ _; have m0 := hx1.cell kq; go_wp2_with fail; exact ⟨rfl, Ext.refl _, rfl, rfl⟩
                        · intro w1 hx1; rintro _ rfl; rintro _ rfl; rintro _ rfl; change wpList _ _ _ _ _ _; go_wp2_with fail; refine (less_no HL.out _).mono ?_; rintro e w2 ⟨rfl, hx2⟩; go_wp2_with fail; exact ⟨rfl, hx2, rfl, rfl⟩
                        · intro w1 hx1; rintro _ rfl; rintro _ rfl; change wpList _ _ _ _ _ _; go_wp2_with fail; exact ⟨rfl, Ext.refl _, rfl, rfl⟩
                        · intro w1 hx1; rintro _ rfl; rintro _ rfl; change wpList _ _ _ _ _ _; exact ob_pick rfl rfl rfl rfl rfl rfl
                      · intro w1 hx1; rintro _ rfl; rintro _ rfl; rintro _ rfl; rintro _ rfl; rintro _ rfl; rintro _ rfl; rintro _ rfl; rintro _ rfl; rintro _ rfl; rintro _ rfl; rintro _ rfl; rintro _ rfl; rintro _ rfl; rintro _ rfl; rintro _ rfl; refine depsThen_nil ?_; dsimp only; simp only [Act.put, List.setIfInBounds_toArray, List.set_cons_zero, List.set_cons_succ]
                        have U5 := Lib.hid (U2.out.ext hx1)
                        have G5 := Lib.hid (grown_trans G2.out (grown_of_ext hx1))
                        clear hx1 kx kq qxm b1 b2 hI7
                        obtain ⟨mid, d4, hpt⟩ : ∃ mid d4, Sort.partitionEqual ltN d2 x y q = (mid, d4) := ⟨_, _, rfl⟩
                        have hc := partEq_any base g cap d2 x y q _ U5.out hq1 hq2 (by rw [HZ2.out]; omega) (by rw [HZ2.out]; omega)
                        rw [HZ2.out, hpt] at hc
                        have HC := Lib.hid hc
                        clear hc
                        obtain ⟨r1, r2, r3, r4, r5⟩ := Sort.round_eq (lt := ltN) swo_ltN (Sort.partitionEqual_holds ltN) hx0 hq1 hq2 (by rw [HZ2.out]; omega) B2.out HNL.out hpt
                        have R3 := Lib.hid (r3.trans HZ2.out)
                        have R4 := Lib.hid r4
                        have R5 := Lib.hid r5
                        clear r3 r4 r5 hpt HNL
                        go_wp2_with ((with_reducible refine HC.out.mono ?_); rintro e w5 ⟨rfl, h1, h2⟩; have U6 := Lib.hid h1; have G6 := Lib.hid (grown_trans G5.out h2); clear h1 h2)
                        go_roundw
                        case rel => exact ⟨mid, y, L2, _, _, rfl, rfl, rfl, rfl, rfl, by omega, r2, hyb, hL3, d4, R3.out, U6.out, G6.out, R4.out, fun R h1 h2 => by obtain ⟨j1, j2⟩ := R5.out R h1 h2; exact HF2.out R j1 j2⟩
                        case measure => simp [intOf]; omega
                    | true =>
                      have HL := Lib.hid hl
                      clear hl
                      obtain ⟨v1, hv1⟩ : ∃ v, d2[xm]! = v := ⟨_, rfl⟩
                      obtain ⟨v2, hv2⟩ : ∃ v, d2[q]! = v := ⟨_, rfl⟩
                      rw [hv1] at kx
                      rw [hv2] at kq
                      rw [hv1, hv2] at HL
                      clear hv1 hv2
                      refine wp_region_facts [Fact.eq (.int .i64 x),
                          Fact.eq (.bool true),
                          Fact.eq (.bool true),
                          Fact.eq (.slice (some ⟨g, 0, none⟩) N cap),
                          Fact.eq (.int .i64 x),
                          Fact.eq (.int .i64 xm),
                          Fact.eq (.pointer (some ⟨g, xm, none⟩)),
                          Fact.eq (.int .u64 v1),
                          Fact.eq (.slice (some ⟨g, 0, none⟩) N cap),
                          Fact.eq (.int .i64 q),
                          Fact.eq (.pointer (some ⟨g, q, none⟩)),
                          Fact.eq (.int .u64 v2),
                          Fact.eq (.bool true),
                          Fact.eq (.bool false),
                          Fact.eq (.bool false)]
                        [[], [(0, 73)], [(1, 74)], [(2, 75)], [(2, 75)], [(4, 77), (2, 75)], [(3, 76), (5, 78), (2, 75)], [(6, 79), (2, 75)], [(2, 75)], [(2, 75)], [(8, 81), (9, 82), (2, 75)], [(10, 83), (2, 75)], [(7, 80), (11, 84), (2, 75)], [(12, 85), (2, 75)], [(2, 75), (13, 86)]]
                        [(0, 73), (1, 74), (2, 75), (3, 76), (4, 77), (5, 78), (6, 79), (7, 80), (8, 81), (9, 82), (10, 83), (11, 84), (12, 85), (13, 86), (14, 87)] (by kernel_rfl) (by kernel_rfl) ?_ ?_
                      · refine ⟨?_, ?_, ?_, ?_, ?_, ?_, ?_, ?_, ?_, ?_, ?_, ?_, ?_, ?_, ?_, trivial⟩
                        · intro w1 hx1; change wpList _ _ _ _ _ _; exact ob_move rfl rfl rfl rfl rfl
                        · intro w1 hx1; rintro _ rfl; change wpList _ _ _ _ _ _; go_wp2_with fail; exact ⟨rfl, Ext.refl _, rfl, rfl⟩
                        · intro w1 hx1; rintro _ rfl; change wpList _ _ _ _ _ _; exact ob_move rfl rfl rfl rfl rfl
                        · intro w1 hx1; rintro _ rfl; change wpList _ _ _ _ _ _; exact ob_move rfl rfl rfl rfl rfl
                        · intro w1 hx1; rintro _ rfl; change wpList _ _ _ _ _ _; exact ob_move rfl rfl rfl rfl rfl
                        · intro w1 hx1; rintro _ rfl; rintro _ rfl; change wpList _ _ _ _ _ _; go_wp2_with fail; exact ⟨rfl, Ext.refl _, rfl, rfl⟩
                        · intro w1 hx1; rintro _ rfl; rintro _ rfl; rintro _ rfl; change wpList _ _ _ _ _ _; go_wp2_with fail; exact ⟨rfl, Ext.refl _, rfl, rfl⟩
                        · intro w1 hx1; rintro _ rfl; rintro _ rfl; change wpList _ _ _ _ _ _; have m0 := hx1.cell kx; go_wp2_with fail; exact ⟨rfl, Ext.refl _, rfl, rfl⟩
                        · intro w1 hx1; rintro _ rfl; change wpList _ _ _ _ _ _; exact ob_move rfl rfl rfl rfl rfl
                        · intro w1 hx1; rintro _ rfl; change wpList _ _ _ _ _ _; exact ob_move rfl rfl rfl rfl rfl
                        · intro w1 hx1; rintro _ rfl; rintro _ rfl; rintro _ rfl; change wpList _ _ _ _ _ _; go_wp2_with fail; exact ⟨rfl, Ext.refl _, rfl, rfl⟩
                        · intro w1 hx1; rintro _ rfl; rintro _ rfl; change wpList _ _ _ _ _ _; have m0 := hx1.cell kq; go_wp2_with fail; exact ⟨rfl, Ext.refl _, rfl, rfl⟩
                        · intro w1 hx1; rintro _ rfl; rintro _ rfl; rintro _ rfl; change wpList _ _ _ _ _ _; go_wp2_with fail; refine (less_yes HL.out _).mono ?_; rintro e w2 ⟨rfl, hx2⟩; go_wp2_with fail; exact ⟨rfl, hx2, rfl, rfl⟩
                        · intro w1 hx1; rintro _ rfl; rintro _ rfl; change wpList _ _ _ _ _ _; go_wp2_with fail; exact ⟨rfl, Ext.refl _, rfl, rfl⟩
                        · intro w1 hx1; rintro _ rfl; rintro _ rfl; change wpList _ _ _ _ _ _; exact ob_pick rfl rfl rfl rfl rfl rfl
                      · intro w1 hx1; rintro _ rfl; rintro _ rfl; rintro _ rfl; rintro _ rfl; rintro _ rfl; rintro _ rfl; rintro _ rfl; rintro _ rfl; rintro _ rfl; rintro _ rfl; rintro _ rfl; rintro _ rfl; rintro _ rfl; rintro _ rfl; rintro _ rfl; refine depsThen_nil ?_; dsimp only; simp only [Act.put, List.setIfInBounds_toArray, List.set_cons_zero, List.set_cons_succ]
                        have U5 := Lib.hid (U2.out.ext hx1)
                        have G5 := Lib.hid (grown_trans G2.out (grown_of_ext hx1))
                        clear hx1 kx kq qxm b1 b2 hI7
                        obtain ⟨mid, ap, d4, hpt⟩ : ∃ mid ap d4, Sort.partition ltN d2 x y q = (mid, ap, d4) := ⟨_, _, _, rfl⟩
                        have hc := part_any base g cap d2 x y q _ U5.out hq1 hq2 (by rw [HZ2.out]; omega) (by rw [HZ2.out]; omega)
                        rw [HZ2.out, hpt] at hc
                        have HC := Lib.hid hc
                        clear hc
                        obtain ⟨r1, r2, r3, r4, r5, r6, r7⟩ := Sort.round_part (lt := ltN) swo_ltN (Sort.partition_holds ltN) hq1 hq2 (by rw [HZ2.out]; omega) B2.out hpt
                        have R3 := Lib.hid (r3.trans HZ2.out)
                        have R4 := Lib.hid r4
                        have R5 := Lib.hid r5
                        have R6 := Lib.hid r6
                        have R7 := Lib.hid r7
                        clear r3 r4 r5 r6 r7 hpt
                        obtain ⟨l1, hl1⟩ : ∃ z, z = mid - x := ⟨_, rfl⟩
                        obtain ⟨l2, hl2⟩ : ∃ z, z = y - mid := ⟨_, rfl⟩
                        obtain ⟨l8, hl8⟩ : ∃ z, z = l0 / 8 := ⟨_, rfl⟩
                        obtain ⟨m1, hm1⟩ : ∃ z, z = mid + 1 := ⟨_, rfl⟩
                        have z1 : (mid : Int) - (x : Int) = (l1 : Int) := by omega
                        have z2 : (y : Int) - (mid : Int) = (l2 : Int) := by omega
                        have z3 : (l0 : Int) / 8 = (l8 : Int) := by omega
                        have z4 : (mid : Int) + 1 = (m1 : Int) := by omega
                        have z5 : l1 ≤ 512 := by omega
                        have z6 : l2 ≤ 512 := by omega
                        have z7 : l8 ≤ 512 := by omega
                        have z8 : m1 ≤ y := by omega
                        have z9 : mid ≤ 512 := by omega
                        have M1 := Lib.hid hm1
                        clear hl1 hl2 hl8 hm1
                        go_upto_region 22 with ((with_reducible refine HC.out.mono ?_); rintro e w5 ⟨rfl, h1, h2⟩; have U6 := Lib.hid h1; have G6 := Lib.hid (grown_trans G5.out h2); clear h1 h2)
                        by_cases hlr : l1 < l2
                        · have hI9 : decide ((l1 : Int) < (l2 : Int)) = true := decide_eq_true (by omega)
                          have hr := IH.out (mid - x) (by have := HN0.out; omega) x mid d4 L2 w5 (Nat.le_refl _) r1 (by rw [R3.out]; omega) (by rw [R3.out]; exact hsz) hL3 R4.out U6.out
                          rw [R3.out] at hr
                          have HR := Lib.hid hr
                          clear hr
                          go_wp2_with ((with_reducible refine HR.out.mono ?_); rintro e w6 ⟨rfl, d6, h1, h2, h3, h4⟩; have V1 := Lib.hid h1; have V2 := Lib.hid h2; have V3 := Lib.hid h3; have V4 := Lib.hid (grown_trans G6.out h4); clear h1 h2 h3 h4)
                          go_roundw
                          case rel =>
                            obtain ⟨k1, k2⟩ := R6.out d6 V1.out V2.out
                            rw [← M1.out] at k1 k2
                            exact ⟨m1, y, L2, _, ap, rfl, rfl, rfl, rfl, rfl, by have := M1.out; omega, z8, hyb, hL3, d6, V1.out.1.trans R3.out, V3.out, V4.out, k1, fun R h1 h2 => by obtain ⟨j1, j2⟩ := k2 R h1 h2; exact HF2.out R j1 j2⟩
                          case measure => have := M1.out; simp [intOf]; omega
                        · have hI9 : decide ((l1 : Int) < (l2 : Int)) = false := decide_eq_false (by omega)
                          have hr := IH.out (y - m1) (by have := HN0.out; have := M1.out; omega) m1 y d4 L2 w5 (Nat.le_refl _) z8 (by rw [R3.out]; omega) (by rw [R3.out]; exact hsz) hL3 (by rw [M1.out]; exact R5.out) U6.out
                          rw [R3.out] at hr
                          have HR := Lib.hid hr
                          clear hr
                          go_wp2_with ((with_reducible refine HR.out.mono ?_); rintro e w6 ⟨rfl, d6, h1, h2, h3, h4⟩; have V1 := Lib.hid h1; have V2 := Lib.hid h2; have V3 := Lib.hid h3; have V4 := Lib.hid (grown_trans G6.out h4); clear h1 h2 h3 h4)
                          go_roundw
                          case rel =>
                            obtain ⟨k1, k2⟩ := R7.out d6 (by rw [← M1.out]; exact V1.out) (by rw [← M1.out]; exact V2.out)
                            exact ⟨x, mid, L2, _, ap, rfl, rfl, rfl, rfl, rfl, hax, r1, by omega, hL3, d6, V1.out.1.trans R3.out, V3.out, V4.out, k1, fun R h1 h2 => by obtain ⟨j1, j2⟩ := k2 R h1 h2; exact HF2.out R j1 j2⟩
                          case measure => have := M1.out; simp [intOf]; omega
                  · have hI7 : decide ((0 : Int) < (x : Int)) = false := decide_eq_false (by omega)
                    refine wp_region_facts [Fact.eq (.int .i64 x),
                        Fact.eq (.bool false),
                        Fact.eq (.bool false),
                        Fact.eq undef,
                        Fact.eq undef,
                        Fact.eq undef,
                        Fact.eq undef,
                        Fact.eq undef,
                        Fact.eq undef,
                        Fact.eq undef,
                        Fact.eq undef,
                        Fact.eq undef,
                        Fact.eq undef,
                        Fact.eq undef,
                        Fact.eq (.bool false)]
                      [[], [(0, 73)], [(1, 74)], [(2, 75)], [(2, 75)], [(4, 77), (2, 75)], [(3, 76), (5, 78), (2, 75)], [(6, 79), (2, 75)], [(2, 75)], [(2, 75)], [(8, 81), (9, 82), (2, 75)], [(10, 83), (2, 75)], [(7, 80), (11, 84), (2, 75)], [(12, 85), (2, 75)], [(2, 75), (13, 86)]]
                      [(0, 73), (1, 74), (2, 75), (3, 76), (4, 77), (5, 78), (6, 79), (7, 80), (8, 81), (9, 82), (10, 83), (11, 84), (12, 85), (13, 86), (14, 87)] (by kernel_rfl) (by kernel_rfl) ?_ ?_
                    · refine ⟨?_, ?_, ?_, ?_, ?_, ?_, ?_, ?_, ?_, ?_, ?_, ?_, ?_, ?_, ?_, trivial⟩
                      · intro w1 hx1; change wpList _ _ _ _ _ _; exact ob_move rfl rfl rfl rfl rfl
                      · intro w1 hx1; rintro _ rfl; change wpList _ _ _ _ _ _; go_wp2_with fail; exact ⟨rfl, Ext.refl _, rfl, rfl⟩
                      · intro w1 hx1; rintro _ rfl; change wpList _ _ _ _ _ _; exact ob_move rfl rfl rfl rfl rfl
                      · intro w1 hx1; rintro _ rfl; change wpList _ _ _ _ _ _; exact ob_skip rfl rfl rfl rfl
                      · intro w1 hx1; rintro _ rfl; change wpList _ _ _ _ _ _; exact ob_skip rfl rfl rfl rfl
                      · intro w1 hx1; rintro _ rfl; rintro _ rfl; change wpList _ _ _ _ _ _; exact ob_skip rfl rfl rfl rfl
                      · intro w1 hx1; rintro _ rfl; rintro _ rfl; rintro _ rfl; change wpList _ _ _ _ _ _; exact ob_skip rfl rfl rfl rfl
                      · intro w1 hx1; rintro _ rfl; rintro _ rfl; change wpList _ _ _ _ _ _; exact ob_skip rfl rfl rfl rfl
                      · intro w1 hx1; rintro _ rfl; change wpList _ _ _ _ _ _; exact ob_skip rfl rfl rfl rfl
                      · intro w1 hx1; rintro _ rfl; change wpList _ _ _ _ _ _; exact ob_skip rfl rfl rfl rfl
                      · intro w1 hx1; rintro _ rfl; rintro _ rfl; rintro _ rfl; change wpList _ _ _ _ _ _; exact ob_skip rfl rfl rfl rfl
                      · intro w1 hx1; rintro _ rfl; rintro _ rfl; change wpList _ _ _ _ _ _; exact ob_skip rfl rfl rfl rfl
                      · intro w1 hx1; rintro _ rfl; rintro _ rfl; rintro _ rfl; change wpList _ _ _ _ _ _; exact ob_skip rfl rfl rfl rfl
                      · intro w1 hx1; rintro _ rfl; rintro _ rfl; change wpList _ _ _ _ _ _; exact ob_skip rfl rfl rfl rfl
                      · intro w1 hx1; rintro _ rfl; rintro _ rfl; change wpList _ _ _ _ _ _; exact ob_pick rfl rfl rfl rfl rfl rfl
                    · intro w1 hx1; rintro _ rfl; rintro _ rfl; rintro _ rfl; rintro _ rfl; rintro _ rfl; rintro _ rfl; rintro _ rfl; rintro _ rfl; rintro _ rfl; rintro _ rfl; rintro _ rfl; rintro _ rfl; rintro _ rfl; rintro _ rfl; rintro _ rfl; refine depsThen_nil ?_; dsimp only; simp only [Act.put, List.setIfInBounds_toArray, List.set_cons_zero, List.set_cons_succ]
                      have U5 := Lib.hid (U2.out.ext hx1)
                      have G5 := Lib.hid (grown_trans G2.out (grown_of_ext hx1))
                      clear hx1 hI7
                      obtain ⟨mid, ap, d4, hpt⟩ : ∃ mid ap d4, Sort.partition ltN d2 x y q = (mid, ap, d4) := ⟨_, _, _, rfl⟩
                      have hc := part_any base g cap d2 x y q _ U5.out hq1 hq2 (by rw [HZ2.out]; omega) (by rw [HZ2.out]; omega)
                      rw [HZ2.out, hpt] at hc
                      have HC := Lib.hid hc
                      clear hc
                      obtain ⟨r1, r2, r3, r4, r5, r6, r7⟩ := Sort.round_part (lt := ltN) swo_ltN (Sort.partition_holds ltN) hq1 hq2 (by rw [HZ2.out]; omega) B2.out hpt
                      have R3 := Lib.hid (r3.trans HZ2.out)
                      have R4 := Lib.hid r4
                      have R5 := Lib.hid r5
                      have R6 := Lib.hid r6
                      have R7 := Lib.hid r7
                      clear r3 r4 r5 r6 r7 hpt
                      obtain ⟨l1, hl1⟩ : ∃ z, z = mid - x := ⟨_, rfl⟩
                      obtain ⟨l2, hl2⟩ : ∃ z, z = y - mid := ⟨_, rfl⟩
                      obtain ⟨l8, hl8⟩ : ∃ z, z = l0 / 8 := ⟨_, rfl⟩
                      obtain ⟨m1, hm1⟩ : ∃ z, z = mid + 1 := ⟨_, rfl⟩
                      have z1 : (mid : Int) - (x : Int) = (l1 : Int) := by omega
                      have z2 : (y : Int) - (mid : Int) = (l2 : Int) := by omega
                      have z3 : (l0 : Int) / 8 = (l8 : Int) := by omega
                      have z4 : (mid : Int) + 1 = (m1 : Int) := by omega
                      have z5 : l1 ≤ 512 := by omega
                      have z6 : l2 ≤ 512 := by omega
                      have z7 : l8 ≤ 512 := by omega
                      have z8 : m1 ≤ y := by omega
                      have z9 : mid ≤ 512 := by omega
                      have M1 := Lib.hid hm1
                      clear hl1 hl2 hl8 hm1
                      go_upto_region 22 with ((with_reducible refine HC.out.mono ?_); rintro e w5 ⟨rfl, h1, h2⟩; have U6 := Lib.hid h1; have G6 := Lib.hid (grown_trans G5.out h2); clear h1 h2)
                      by_cases hlr : l1 < l2
                      · have hI9 : decide ((l1 : Int) < (l2 : Int)) = true := decide_eq_true (by omega)
                        have hr := IH.out (mid - x) (by have := HN0.out; omega) x mid d4 L2 w5 (Nat.le_refl _) r1 (by rw [R3.out]; omega) (by rw [R3.out]; exact hsz) hL3 R4.out U6.out
                        rw [R3.out] at hr
                        have HR := Lib.hid hr
                        clear hr
                        go_wp2_with ((with_reducible refine HR.out.mono ?_); rintro e w6 ⟨rfl, d6, h1, h2, h3, h4⟩; have V1 := Lib.hid h1; have V2 := Lib.hid h2; have V3 := Lib.hid h3; have V4 := Lib.hid (grown_trans G6.out h4); clear h1 h2 h3 h4)
                        go_roundw
                        case rel =>
                          obtain ⟨k1, k2⟩ := R6.out d6 V1.out V2.out
                          rw [← M1.out] at k1 k2
                          exact ⟨m1, y, L2, _, ap, rfl, rfl, rfl, rfl, rfl, by have := M1.out; omega, z8, hyb, hL3, d6, V1.out.1.trans R3.out, V3.out, V4.out, k1, fun R h1 h2 => by obtain ⟨j1, j2⟩ := k2 R h1 h2; exact HF2.out R j1 j2⟩
                        case measure => have := M1.out; simp [intOf]; omega
                      · have hI9 : decide ((l1 : Int) < (l2 : Int)) = false := decide_eq_false (by omega)
                        have hr := IH.out (y - m1) (by have := HN0.out; have := M1.out; omega) m1 y d4 L2 w5 (Nat.le_refl _) z8 (by rw [R3.out]; omega) (by rw [R3.out]; exact hsz) hL3 (by rw [M1.out]; exact R5.out) U6.out
                        rw [R3.out] at hr
                        have HR := Lib.hid hr
                        clear hr
                        go_wp2_with ((with_reducible refine HR.out.mono ?_); rintro e w6 ⟨rfl, d6, h1, h2, h3, h4⟩; have V1 := Lib.hid h1; have V2 := Lib.hid h2; have V3 := Lib.hid h3; have V4 := Lib.hid (grown_trans G6.out h4); clear h1 h2 h3 h4)
                        go_roundw
                        case rel =>
                          obtain ⟨k1, k2⟩ := R7.out d6 (by rw [← M1.out]; exact V1.out) (by rw [← M1.out]; exact V2.out)
                          exact ⟨x, mid, L2, _, ap, rfl, rfl, rfl, rfl, rfl, hax, r1, by omega, hL3, d6, V1.out.1.trans R3.out, V3.out, V4.out, k1, fun R h1 h2 => by obtain ⟨j1, j2⟩ := k2 R h1 h2; exact HF2.out R j1 j2⟩
                        case measure => have := M1.out; simp [intOf]; omega
end Go.Proofs.Ytlgopjfnknjgjaa