/- DiskKeeps, walked. -/
import Derived.Test.YtdfnfmanpdafpaaDoorD32
import Derived.Deep.CutBlock
namespace Go.Proofs.YtdfnfmanpdafpaaDoor
open Go.RowKit

set_option maxRecDepth 100000 in
set_option maxHeartbeats 8000000 in
theorem diskKeeps_walk (w : World) (v : Value) (us : List AX) (B0 : ActsD w v us) (vp : Value) (ps : List Nat) (P0 : Row w 1 vp ps.length (u16V ps)) (P1 : ∀ p ∈ ps, p < 65536) (vt : Value) (ts : List UInt8) (T0 : Bytes w vt ts) (T1 : ts.length ≤ 1048576) :
    Calls Tryd.prog 3 #[v, vp, vt] w fun e w' => e = .returned (.bool true) ∧ Ext w w' := by
  obtain ⟨va, vc, rfl, hvc, hvm⟩ := Row.shape B0.row
  obtain ⟨pa, pc, rfl, _, _⟩ := Row.shape P0
  obtain ⟨ta, tc, rfl, _, _⟩ := T0.shape
  obtain ⟨n, hn⟩ : ∃ n, n = us.length := ⟨_, rfl⟩
  have HN := Lib.hid hn
  have HB := Lib.hid B0
  rw [← hn] at hvc ⊢
  obtain ⟨pn, hpn⟩ : ∃ pn, pn = ps.length := ⟨_, rfl⟩
  obtain ⟨tn, htn⟩ : ∃ tn, tn = ts.length := ⟨_, rfl⟩
  rw [← hpn] at P0 ⊢
  have HT1 := Lib.hid T1
  rw [← htn] at T0 ⊢
  have HP := Lib.hid (And.intro hpn (And.intro P0 P1))
  have HT := Lib.hid (And.intro htn T0)
  clear B0 hn hpn htn P0 P1 T0 T1
  unfold maxLen at hvm
  go_enter Tryd.func3, Tryd.ntmps3
  go_upto_block 0 with (first
    | (go_at_call 6; (with_reducible refine (AtD.new w _ (Ext.refl _) 4194304 (by omega) (by omega)).mono ?_); rintro e w1 ⟨b, rfl, h⟩; have H0 := Lib.hid h; clear h)
    | (go_at_call 7; (with_reducible refine (awakeD _).mono ?_); rintro e w2 ⟨rfl, hx⟩; have H1 := Lib.hid (H0.out.ext hx); clear hx H0))
  go_cut [9, 10] from 39 to 52 (fun _ _ wx => ∃ S, Hid (AtD w b S wx ∧ S.off = false ∧ S.fz = -1))
  case first =>
    go_wp2_with fail
    go_loopw [39] (fun i wr => ∃ (k : Nat) (S : DS), k ≤ n ∧ i = .int .i64 k ∧ Hid (AtD w b S wr) ∧ Hid (S.off = false ∧ S.fz = -1)) (fun i _ => n - (intOf i).toNat)
    case atStart => exact ⟨0, _, Nat.zero_le _, rfl, H1.out, rfl, rfl⟩
    case round =>
      clear H1
      obtain ⟨k, S, hk, rfl, HA, HS⟩ := hrel
      by_cases hlt : k < n
      · have hI : decide ((k : Int) < (n : Int)) = true := decide_eq_true (by omega)
        have hkN : (k : Int) < (n : Int) := by omega
        have hkl : k < us.length := by have := HN.out; omega
        obtain ⟨x, hx⟩ : ∃ x, us[k]? = some x := ⟨_, List.getElem?_eq_getElem hkl⟩
        have hxm : x ∈ us := List.mem_of_getElem? hx
        obtain ⟨B, o, rfl, c0, c1, c2, c3, c4, c5⟩ := (HB.out.ext HA.out.out).at hx
        have hac := HB.out.acts x hxm
        have hnn := HB.out.ns x hxm
        obtain ⟨a, vb, vq⟩ := x
        dsimp only at c0 c1 c2 c3 c4 c5 hac hnn
        obtain ⟨ba, bc, rfl, _, _⟩ := hac.b.shape
        obtain ⟨qa, qc, rfl, _, _⟩ := Row.shape hac.ps
        have HAC := Lib.hid (And.intro hac hnn)
        obtain ⟨lb, hlb⟩ : ∃ lb, a.b.length = lb := ⟨_, rfl⟩
        obtain ⟨lp, hlp⟩ : ∃ lp, a.ps.length = lp := ⟨_, rfl⟩
        rw [hlb] at HAC c3
        rw [hlp] at HAC c5
        clear hx hxm hkl hac hnn hlb hlp
        go_upto_region 7 with fail
        obtain ⟨hxa, hba⟩ := boxes1 wr (.cells #[.int .i64 a.what, .string (strOf a.nm), .string (strOf a.ot), .slice ba lb bc, .int .i64 a.n, .slice qa lp qc] 31)
        have q0 := cell_of_row _ _ 0 _ _ _ hba
        have q1 := cell_of_row _ _ 1 _ _ _ hba
        have q2 := cell_of_row _ _ 2 _ _ _ hba
        have q3 := cell_of_row _ _ 3 _ _ _ hba
        have q4 := cell_of_row _ _ 4 _ _ _ hba
        have q5 := cell_of_row _ _ 5 _ _ _ hba
        have HAA := Lib.hid (HA.out.ext hxa)
        clear hxa hba c0 c1 c2 c3 c4 c5 HA
        generalize hbxn : wr.heap.size = bx at *
        clear hbxn
        generalize wr.alloc (.cells #[.int .i64 a.what, .string (strOf a.nm), .string (strOf a.ot), .slice ba lb bc, .int .i64 a.n, .slice qa lp qc] 31) = wa at *
        by_cases hk1 : k = 100
        · have hke : ((k : Int) == 100) = true := by rw [beq_iff_eq]; omega
          clear hk1 q0 q1 q2 q3 q4 q5
          go_wp2_with fail
          go_meet
          exact ⟨S, HAA.out, HS.out⟩
        · have hke : ((k : Int) == 100) = false := by rw [beq_eq_false_iff_ne]; omega
          clear hk1
          by_cases h7 : a.what = 7
          · have e7 : (a.what == 7) = true := by rw [beq_iff_eq]; exact h7
            have e7n : (a.what != 7) = false := by unfold bne; rw [e7]; rfl
            clear h7
            go_wp2_with fail
            go_roundw
            case rel => exact ⟨k + 1, S, hlt, by go_num, HAA.out, HS.out⟩
            case measure => simp [intOf]; omega
          · have e7 : (a.what == 7) = false := by rw [beq_eq_false_iff_ne]; exact h7
            have e7n : (a.what != 7) = true := by unfold bne; rw [e7]; rfl
            have hdo := AtD.doit (x := ⟨a, .slice ba lb bc, .slice qa lp qc⟩) HAA.out HAC.out.1 HAC.out.2
            unfold actV at hdo
            dsimp only at hdo
            have HDO := Lib.hid hdo
            have HCM := Lib.hid (calm_do HS.out.1 HS.out.2 h7)
            clear hdo h7
            go_wp2_with (go_at_call 8; (with_reducible refine HDO.out.mono ?_); rintro e w6 ⟨rfl, h⟩; have HA6 := Lib.hid h; clear h)
            go_roundw
            case rel => exact ⟨k + 1, _, hlt, by go_num, HA6.out, HCM.out⟩
            case measure => simp [intOf]; omega
      · obtain rfl : k = n := by omega
        have hI : decide ((k : Int) < (k : Int)) = false := decide_eq_false (by omega)
        go_wp2_with fail
        go_meet
        exact ⟨S, HA.out, HS.out⟩
  case rest =>
    obtain ⟨S, hS⟩ := hcut
    clear H1 HB HN hvc hvm
    obtain ⟨hA, ho, _⟩ := hS.out
    have ok1 : OkD (crashS ps ts S) := okD_do hA.1 ⟨8, [], [], ts, 0, ps⟩ (by show (0 : Int) < 9223372036854775808; omega)
    obtain ⟨b0, m0, b1, hT⟩ := toldAll hA.1 ho ps ts ok1
    obtain ⟨T, hTe⟩ : ∃ T, crashS ps ts S = T := ⟨_, rfl⟩
    have hTT : ∀ qs rs, crashS qs rs T = T := fun qs rs => by rw [← hTe]; exact crash_twice hA.1 ps qs ts rs
    have hnT : namesS T = namesS S := by rw [← hTe]; exact names_crash ho ps ts
    rw [hTe] at hT
    obtain ⟨ns, hns⟩ : ∃ ns, namesS S = ns := ⟨_, rfl⟩
    rw [hns] at hT hnT
    obtain ⟨nn, hnn⟩ : ∃ nn, nn = ns.length := ⟨_, rfl⟩
    have hn5 : nn ≤ 512 := by
      rw [hnn, ← hns]
      unfold namesS
      rw [ho]
      show (S.fs.map Fl.nm).length ≤ 512
      rw [List.length_map]
      exact hA.1.len
    have HA := Lib.hid hA
    have HTD := Lib.hid hT
    have HTE := Lib.hid (And.intro hTe (And.intro hTT hnT))
    have HNS := Lib.hid hns
    have HNN := Lib.hid hnn
    clear hS hA ho ok1 hT hTe hTT hnT hns hnn
    go_upto_region 14 with (go_at_call 9; (with_reducible refine (AtK.start HA.out HNS.out).mono ?_); rintro e w3 ⟨nv, rfl, h⟩; have HK0 := Lib.hid h; clear h)
    obtain ⟨na, nc, rfl, _, _⟩ := Row.shape HK0.out.nmRow
    rw [← HNN.out] at HK0 ⊢
    go_wp2_with fail
    go_loopw [12, 13, 57] (fun wv lv i wr => ∃ (k : Nat) (ws : List Value) (ls : List Nat) (ds : List (Value × List UInt8)), k ≤ nn ∧ i = .int .i64 k ∧ Hid (AtK w b S (.slice na nn nc) wv lv ns ws ls ds wr) ∧ Hid (Was b0 k ws ds ∧ ls = (List.range k).map m0)) (fun _ _ i _ => nn - (intOf i).toNat)
    case atStart => exact ⟨0, [], [], [], Nat.zero_le _, rfl, HK0.out, Was.nil _, rfl⟩
    case round =>
      clear HK0
      obtain ⟨k, ws, ls, ds, hk, rfl, HA, HW⟩ := hrel
      by_cases hlt : k < nn
      · have hI : decide ((k : Int) < (nn : Int)) = true := decide_eq_true (by omega)
        have hkN : (k : Int) < (nn : Int) := by omega
        obtain ⟨NB, o, x, rfl, hx, c0⟩ := HA.out.nmCell HNN.out hlt
        have HTX := Lib.hid (HTD.out k x hx)
        have HWL : Hid (ws.length ≤ 1000000 ∧ ls.length ≤ 1000000) := ⟨by rw [HW.out.1.1]; omega, by rw [HW.out.2, List.length_map, List.length_range]; omega⟩
        clear hx
        go_upto_region 21 with (first
          | (go_at_call 10; (with_reducible refine (AtK.readS HA.out x (b0 k) HTX.out.z0 HTX.out.r0).mono ?_); rintro e w4 ⟨ra, rc, rfl, _, _, h⟩; have HA4 := Lib.hid h; clear h)
          | (refine pushW (.tmp 69) (.tmp 71) rfl rfl (HA4.out.ext ((Ext.refl _).alloc _)) rfl (.slice ra (b0 k).length rc) rfl (lit_slD _ _) HWL.out.1 ?_; intro v2 w5 h; have HA5 := Lib.hid h; clear h)
          | (go_at_call 11; (with_reducible refine (AtK.loosedK HA5.out x (m0 k) HTX.out.l0).mono ?_); rintro e w6 ⟨rfl, h⟩; have HA6 := Lib.hid h; clear h)
          | (refine pushL (.tmp 73) (.tmp 77) rfl rfl (HA6.out.ext ((Ext.refl _).alloc _)) rfl (m0 k) (lit_intD _ _) HWL.out.2 ?_; intro v3 w7 h; have HA7 := Lib.hid h; clear h))
        go_wp2_with fail
        go_roundw
        case rel => exact ⟨k + 1, _, _, _, hlt, by go_num, HA7.out, HW.out.1.push _, by rw [List.range_succ, List.map_append, HW.out.2]; rfl⟩
        case measure => simp [intOf]; omega
      · obtain rfl : k = nn := by omega
        have hI : decide ((k : Int) < (k : Int)) = false := decide_eq_false (by omega)
        obtain ⟨wa, wk, rfl, _, _⟩ := Row.shape HA.out.wasRow
        obtain ⟨la, lc, rfl, _, _⟩ := Row.shape HA.out.looseRow
        rw [HW.out.1.1, show ls.length = k by rw [HW.out.2, List.length_map, List.length_range]] at HA ⊢
        have HWS := Lib.hid (And.intro (Was.start (g := b1) HW.out.1) HW.out.2)
        clear HW
        go_upto_region 25 with (first
          | (go_at_call 12; (with_reducible refine (AtK.crash1 HA.out HP.out.1 HP.out.2.1 HP.out.2.2 HT.out.2 HTE.out.1).mono ?_); rintro e w8 ⟨rfl, h⟩; have HA1 := Lib.hid h; clear h)
          | (go_at_call 9; (with_reducible refine (AtK.namesN HA1.out HNN.out HTE.out.2.2).mono ?_); rintro e w9 ⟨v9, rfl, hr, h⟩; have HA2 := Lib.hid h; have HR2 := Lib.hid hr; clear h hr)
          | (go_at_call 13; (with_reducible refine (sameT HNN.out HR2.out (HA2.out.nmRowN HNN.out) hn5).mono ?_); rintro e w10 ⟨rfl, hx⟩; have HA3 := Lib.hid (HA2.out.ext hx); clear hx))
        clear HA HA1 HA2 HR2
        go_wp2_with fail
        go_loopw [91] (fun i wr => ∃ (j : Nat) (ws : List Value) (ds : List (Value × List UInt8)), j ≤ k ∧ i = .int .i64 j ∧ Hid (AtK w b T (.slice na k nc) (.slice wa k wk) (.slice la k lc) ns ws ls ds wr) ∧ Hid (Was (upK b0 b1 j) k ws ds)) (fun i _ => k - (intOf i).toNat)
        case atStart => exact ⟨0, _, _, Nat.zero_le _, rfl, HA3.out, HWS.out.1⟩
        case round =>
          have HLS := Lib.hid HWS.out.2
          clear HA3 HWS hI hlt
          obtain ⟨j, ws2, ds2, hj, rfl, HA, HW⟩ := hrel
          by_cases hlt : j < k
          · have hI : decide ((j : Int) < (k : Int)) = true := decide_eq_true (by omega)
            have hkN : (j : Int) < (k : Int) := by omega
            obtain ⟨NB, o, x, rfl, hx, c0⟩ := HA.out.nmCell HNN.out hlt
            have HTX := Lib.hid (HTD.out j x hx)
            clear hx
            go_upto_region 28 with fail
            go_upto_region 29 with (go_at_call 10; (with_reducible refine (AtK.readS HA.out x (b1 j) HTX.out.z1 HTX.out.r1).mono ?_); rintro e w4 ⟨ra, rc, rfl, hrc1, hrc2, h⟩; have HA4 := Lib.hid h; clear h)
            clear c0 HA
            obtain ⟨WB, ea, ec, rfl, hm, f0, -⟩ := HA4.out.wasCell (HW.out.more _) hlt
            obtain ⟨LB, p, rfl, g0⟩ := HA4.out.looseCell (k := j) (m := m0 j) (by rw [HLS.out, List.length_map, List.length_range]) (by rw [HLS.out, List.getElem?_map, List.getElem?_range hlt]; rfl)
            have hup : upK b0 b1 j j = b0 j := if_neg (Nat.lt_irrefl j)
            rw [hup] at hm f0
            have HWM := Lib.hid (HW.out.more (.slice ra (b1 j).length rc, b1 j))
            have HWN := Lib.hid (HW.out.set hlt (.slice ra (b1 j).length rc))
            have HTK := HTX.out
            obtain ⟨-, -, -, z1, r1, l1', hmle, hge, hle, htop, hfast, hmost⟩ := HTK
            have HLO : Hid (∀ W, Ext w4 W → Calls Tryd.prog 11 #[.pointer (some ⟨b, 0, none⟩), .string (strOf x)] W fun e w' => e = .returned (.int .i64 0) ∧ Ext W w') := fun W hW => (HA4.out.ext hW).loosed x 0 l1'
            have HB1 := Lib.hid (HA4.out.bytes (List.mem_cons_self ..))
            have HB0 := Lib.hid (HA4.out.bytes hm)
            dsimp only at HB0 HB1
            clear hup hm HTX z1 r1 l1' HW HLS
            generalize b0 j = l0 at *
            generalize b1 j = l1 at *
            generalize m0 j = m at *
            obtain ⟨sr, hsr⟩ : ∃ sr, l0.length - m = sr := ⟨_, rfl⟩
            rw [hsr] at hge hfast hmost
            have hJ : ((l0.length : Nat) : Int) - (m : Int) = (sr : Int) := by omega
            have hJw : IntKind.i64.wrap (sr : Int) = (sr : Int) := by rw [IntKind.wrap_i64]; omega
            have hsr4 : sr ≤ 4194304 := by omega
            have hl14 : l1.length ≤ 4194304 := by omega
            have hs1 : sr ≤ l0.length := by omega
            have HFA := Lib.hid hfast
            have HMO := Lib.hid hmost
            have HLE := Lib.hid (And.intro hge (And.intro hs1 hle))
            have q1 : decide ((l1.length : Int) < (sr : Int)) = false := decide_eq_false (by omega)
            have q2 : decide ((l0.length : Int) < (l1.length : Int)) = false := decide_eq_false (by omega)
            have q3 : decide (l1.length < sr) = false := decide_eq_false (by omega)
            have q4 : decide (l0.length < l1.length) = false := decide_eq_false (by omega)
            clear hfast hmost hsr hmle hge hle htop hs1
            refine wp_region_facts [Fact.eq (.slice (some ⟨WB, 0, none⟩) k wk),
                Fact.eq (.int .i64 (j : Int)),
                Fact.eq (.pointer (some ⟨WB, j, none⟩)),
                Fact.eq (.slice ea l0.length ec),
                Fact.eq (.int .i64 l0.length),
                Fact.eq (.slice (some ⟨LB, p, none⟩) k lc),
                Fact.eq (.int .i64 (j : Int)),
                Fact.eq (.pointer (some ⟨LB, p + j, none⟩)),
                Fact.eq (.int .i64 (m : Int)),
                Fact.eq (.int .i64 (sr : Int)),
                Fact.eq (.int .i64 (sr : Int))]
              [[], [], [(0, 102), (1, 103)], [(2, 104)], [(3, 105)], [], [], [(5, 107), (6, 108)], [(7, 109)], [(4, 106), (8, 110)], [(9, 111)]]
              [(0, 102), (1, 103), (2, 104), (3, 105), (4, 106), (5, 107), (6, 108), (7, 109), (8, 110), (9, 111), (10, 22)] (by kernel_rfl) (by kernel_rfl) ?_ ?_
            · refine ⟨?_, ?_, ?_, ?_, ?_, ?_, ?_, ?_, ?_, ?_, ?_, trivial⟩
              · intro w1 hx1; change wpList _ _ _ _ _ _; exact ob_move rfl rfl rfl rfl rfl
              · intro w1 hx1; change wpList _ _ _ _ _ _; exact ob_move rfl rfl rfl rfl rfl
              · intro w1 hx1; rintro _ rfl; rintro _ rfl; change wpList _ _ _ _ _ _; go_wp2_with fail; exact ⟨rfl, Ext.refl _, rfl, rfl⟩
              · intro w1 hx1; rintro _ rfl; change wpList _ _ _ _ _ _; have m0 := hx1.cell f0; go_wp2_with fail; exact ⟨rfl, Ext.refl _, rfl, rfl⟩
              · intro w1 hx1; rintro _ rfl; change wpList _ _ _ _ _ _; go_wp2_with fail; exact ⟨rfl, Ext.refl _, rfl, rfl⟩
              · intro w1 hx1; change wpList _ _ _ _ _ _; exact ob_move rfl rfl rfl rfl rfl
              · intro w1 hx1; change wpList _ _ _ _ _ _; exact ob_move rfl rfl rfl rfl rfl
              · intro w1 hx1; rintro _ rfl; rintro _ rfl; change wpList _ _ _ _ _ _; go_wp2_with fail; exact ⟨rfl, Ext.refl _, rfl, rfl⟩
              · intro w1 hx1; rintro _ rfl; change wpList _ _ _ _ _ _; have m0 := hx1.cell g0; go_wp2_with fail; exact ⟨rfl, Ext.refl _, rfl, rfl⟩
              · intro w1 hx1; rintro _ rfl; rintro _ rfl; change wpList _ _ _ _ _ _; go_wp2_with fail; exact ⟨rfl, Ext.refl _, rfl, rfl⟩
              · intro w1 hx1; rintro _ rfl; change wpList _ _ _ _ _ _; exact ob_assign rfl rfl rfl rfl rfl
            · intro w1 hx1; rintro _ rfl; rintro _ rfl; rintro _ rfl; rintro _ rfl; rintro _ rfl; rintro _ rfl; rintro _ rfl; rintro _ rfl; rintro _ rfl; rintro _ rfl; rintro _ rfl; refine depsThen_nil ?_; dsimp only; simp only [Act.put, List.setIfInBounds_toArray, List.set_cons_zero, List.set_cons_succ]
              have HA5 := Lib.hid (HA4.out.ext hx1)
              have f1 := hx1.cell f0
              have HB15 := Lib.hid (HB1.out.ext hx1)
              have HB05 := Lib.hid (HB0.out.ext hx1)
              have HLO5 : Hid (∀ W, Ext w1 W → Calls Tryd.prog 11 #[.pointer (some ⟨b, 0, none⟩), .string (strOf x)] W fun e w' => e = .returned (.int .i64 0) ∧ Ext W w') := fun W hW => HLO.out W (hx1.trans hW)
              clear HA4 HB1 HB0 HLO f0 g0 hx1 hJ hJw
              generalize w1 = w5 at *
              go_upto_region 30 with fail
              refine wp_region_facts [Fact.eq (.int .i64 0),
                  Fact.eq (.bool false),
                  Fact.eq (.bool false),
                  Fact.eq (.pointer (some ⟨b, 0, none⟩)),
                  Fact.eq (.string (strOf x)),
                  Fact.eq (.int .i64 0),
                  Fact.eq (.bool false),
                  Fact.eq (.bool false),
                  Fact.eq (.bool false),
                  Fact.eq (.slice ra l1.length rc),
                  Fact.eq (.int .i64 l1.length),
                  Fact.eq (.int .i64 (sr : Int)),
                  Fact.eq (.bool false),
                  Fact.eq (.bool false),
                  Fact.eq (.bool false),
                  Fact.eq (.slice ra l1.length rc),
                  Fact.eq (.int .i64 l1.length),
                  Fact.eq (.slice (some ⟨WB, 0, none⟩) k wk),
                  Fact.eq (.int .i64 (j : Int)),
                  Fact.eq (.pointer (some ⟨WB, j, none⟩)),
                  Fact.eq (.slice ea l0.length ec),
                  Fact.eq (.int .i64 l0.length),
                  Fact.eq (.bool false),
                  Fact.eq (.bool false),
                  Fact.eq (.bool false),
                  Fact.eq (.slice ra l1.length rc),
                  Fact.eq (.int .i64 (sr : Int)),
                  Fact.bytesD (l1.take sr),
                  Fact.eq (.slice (some ⟨WB, 0, none⟩) k wk),
                  Fact.eq (.int .i64 (j : Int)),
                  Fact.eq (.pointer (some ⟨WB, j, none⟩)),
                  Fact.eq (.slice ea l0.length ec),
                  Fact.eq (.int .i64 (sr : Int)),
                  Fact.bytesD (l0.take sr),
                  Fact.eq (.bool true),
                  Fact.eq (.bool false),
                  Fact.eq (.bool false)]
                [[], [(0, 112)], [(1, 113)], [(2, 114)], [(2, 114)], [(3, 115), (4, 116), (2, 114)], [(5, 117), (2, 114)], [(2, 114), (6, 118)], [(7, 119)], [(8, 120)], [(9, 121), (8, 120)], [(8, 120)], [(10, 122), (11, 123), (8, 120)], [(8, 120), (12, 124)], [(13, 125)], [(14, 126)], [(15, 127), (14, 126)], [(14, 126)], [(14, 126)], [(17, 129), (18, 130), (14, 126)], [(19, 131), (14, 126)], [(20, 132), (14, 126)], [(16, 128), (21, 133), (14, 126)], [(14, 126), (22, 134)], [(23, 135)], [(24, 136)], [(24, 136)], [(25, 137), (26, 138), (24, 136)], [(24, 136)], [(24, 136)], [(28, 140), (29, 141), (24, 136)], [(30, 142), (24, 136)], [(24, 136)], [(31, 143), (32, 144), (24, 136)], [(27, 139), (33, 145), (24, 136)], [(34, 146), (24, 136)], [(24, 136), (35, 147)]]
                [(0, 112), (1, 113), (2, 114), (3, 115), (4, 116), (5, 117), (6, 118), (7, 119), (8, 120), (9, 121), (10, 122), (11, 123), (12, 124), (13, 125), (14, 126), (15, 127), (16, 128), (17, 129), (18, 130), (19, 131), (20, 132), (21, 133), (22, 134), (23, 135), (24, 136), (25, 137), (26, 138), (27, 139), (28, 140), (29, 141), (30, 142), (31, 143), (32, 144), (33, 145), (34, 146), (35, 147), (36, 148)] (by kernel_rfl) (by kernel_rfl) ?_ ?_
              · refine ⟨?_, ?_, ?_, ?_, ?_, ?_, ?_, ?_, ?_, ?_, ?_, ?_, ?_, ?_, ?_, ?_, ?_, ?_, ?_, ?_, ?_, ?_, ?_, ?_, ?_, ?_, ?_, ?_, ?_, ?_, ?_, ?_, ?_, ?_, ?_, ?_, ?_, trivial⟩
                · intro w1 hx1; change wpList _ _ _ _ _ _; exact ob_move rfl rfl rfl rfl rfl
                · intro w1 hx1; rintro _ rfl; change wpList _ _ _ _ _ _; go_wp2_with fail; exact ⟨rfl, Ext.refl _, rfl, rfl⟩
                · intro w1 hx1; rintro _ rfl; change wpList _ _ _ _ _ _; exact ob_move rfl rfl rfl rfl rfl
                · intro w1 hx1; rintro _ rfl; change wpList _ _ _ _ _ _; exact ob_move rfl rfl rfl rfl rfl
                · intro w1 hx1; rintro _ rfl; change wpList _ _ _ _ _ _; exact ob_move rfl rfl rfl rfl rfl
                · intro w1 hx1; rintro _ rfl; rintro _ rfl; rintro _ rfl; change wpList _ _ _ _ _ _; go_wp2_with fail; refine (HLO5.out w1 hx1).mono ?_; rintro e w2 ⟨rfl, hx2⟩; go_wp2_with fail; exact ⟨rfl, hx2, rfl, rfl⟩
                · intro w1 hx1; rintro _ rfl; rintro _ rfl; change wpList _ _ _ _ _ _; go_wp2_with fail; exact ⟨rfl, Ext.refl _, rfl, rfl⟩
                · intro w1 hx1; rintro _ rfl; rintro _ rfl; change wpList _ _ _ _ _ _; exact ob_pick rfl rfl rfl rfl rfl rfl
                · intro w1 hx1; rintro _ rfl; change wpList _ _ _ _ _ _; exact ob_move rfl rfl rfl rfl rfl
                · intro w1 hx1; rintro _ rfl; change wpList _ _ _ _ _ _; exact ob_move rfl rfl rfl rfl rfl
                · intro w1 hx1; rintro _ rfl; rintro _ rfl; change wpList _ _ _ _ _ _; go_wp2_with fail; exact ⟨rfl, Ext.refl _, rfl, rfl⟩
                · intro w1 hx1; rintro _ rfl; change wpList _ _ _ _ _ _; exact ob_move rfl rfl rfl rfl rfl
                · intro w1 hx1; rintro _ rfl; rintro _ rfl; rintro _ rfl; change wpList _ _ _ _ _ _; go_wp2_with fail; exact ⟨rfl, Ext.refl _, rfl, rfl⟩
                · intro w1 hx1; rintro _ rfl; rintro _ rfl; change wpList _ _ _ _ _ _; exact ob_pick rfl rfl rfl rfl rfl rfl
                · intro w1 hx1; rintro _ rfl; change wpList _ _ _ _ _ _; exact ob_move rfl rfl rfl rfl rfl
                · intro w1 hx1; rintro _ rfl; change wpList _ _ _ _ _ _; exact ob_move rfl rfl rfl rfl rfl
                · intro w1 hx1; rintro _ rfl; rintro _ rfl; change wpList _ _ _ _ _ _; go_wp2_with fail; exact ⟨rfl, Ext.refl _, rfl, rfl⟩
                · intro w1 hx1; rintro _ rfl; change wpList _ _ _ _ _ _; exact ob_move rfl rfl rfl rfl rfl
                · intro w1 hx1; rintro _ rfl; change wpList _ _ _ _ _ _; exact ob_move rfl rfl rfl rfl rfl
                · intro w1 hx1; rintro _ rfl; rintro _ rfl; rintro _ rfl; change wpList _ _ _ _ _ _; go_wp2_with fail; exact ⟨rfl, Ext.refl _, rfl, rfl⟩
                · intro w1 hx1; rintro _ rfl; rintro _ rfl; change wpList _ _ _ _ _ _; have m0 := hx1.cell f1; go_wp2_with fail; exact ⟨rfl, Ext.refl _, rfl, rfl⟩
                · intro w1 hx1; rintro _ rfl; rintro _ rfl; change wpList _ _ _ _ _ _; go_wp2_with fail; exact ⟨rfl, Ext.refl _, rfl, rfl⟩
                · intro w1 hx1; rintro _ rfl; rintro _ rfl; rintro _ rfl; change wpList _ _ _ _ _ _; go_wp2_with fail; exact ⟨rfl, Ext.refl _, rfl, rfl⟩
                · intro w1 hx1; rintro _ rfl; rintro _ rfl; change wpList _ _ _ _ _ _; exact ob_pick rfl rfl rfl rfl rfl rfl
                · intro w1 hx1; rintro _ rfl; change wpList _ _ _ _ _ _; exact ob_move rfl rfl rfl rfl rfl
                · intro w1 hx1; rintro _ rfl; change wpList _ _ _ _ _ _; exact ob_move rfl rfl rfl rfl rfl
                · intro w1 hx1; rintro _ rfl; change wpList _ _ _ _ _ _; exact ob_move rfl rfl rfl rfl rfl
                · intro w1 hx1; rintro _ rfl; rintro _ rfl; rintro _ rfl; change wpList _ _ _ _ _ _; refine cutD (.tmp 137) (.tmp 138) rfl rfl l1 _ rfl (HB15.out.ext hx1) sr HLE.out.1 rfl ?_; intro v hv; exact wpList_nil ⟨rfl, Ext.refl _, rfl, hv⟩
                · intro w1 hx1; rintro _ rfl; change wpList _ _ _ _ _ _; exact ob_move rfl rfl rfl rfl rfl
                · intro w1 hx1; rintro _ rfl; change wpList _ _ _ _ _ _; exact ob_move rfl rfl rfl rfl rfl
                · intro w1 hx1; rintro _ rfl; rintro _ rfl; rintro _ rfl; change wpList _ _ _ _ _ _; go_wp2_with fail; exact ⟨rfl, Ext.refl _, rfl, rfl⟩
                · intro w1 hx1; rintro _ rfl; rintro _ rfl; change wpList _ _ _ _ _ _; have m0 := hx1.cell f1; go_wp2_with fail; exact ⟨rfl, Ext.refl _, rfl, rfl⟩
                · intro w1 hx1; rintro _ rfl; change wpList _ _ _ _ _ _; exact ob_move rfl rfl rfl rfl rfl
                · intro w1 hx1; rintro _ rfl; rintro _ rfl; rintro _ rfl; change wpList _ _ _ _ _ _; refine cutD (.tmp 143) (.tmp 144) rfl rfl l0 _ rfl (HB05.out.ext hx1) sr HLE.out.2.1 rfl ?_; intro v hv; exact wpList_nil ⟨rfl, Ext.refl _, rfl, hv⟩
                · intro w1 hx1; intro v139 h139; intro v145 h145; rintro _ rfl; change wpList _ _ _ _ _ _; go_wp2_with fail; refine (beqT h139 h145 HFA.out).mono ?_; rintro e w2 ⟨rfl, hx2⟩; go_wp2_with fail; exact ⟨rfl, hx2, rfl, rfl⟩
                · intro w1 hx1; rintro _ rfl; rintro _ rfl; change wpList _ _ _ _ _ _; go_wp2_with fail; exact ⟨rfl, Ext.refl _, rfl, rfl⟩
                · intro w1 hx1; rintro _ rfl; rintro _ rfl; change wpList _ _ _ _ _ _; exact ob_pick rfl rfl rfl rfl rfl rfl
              · intro w1 hx1; rintro _ rfl; rintro _ rfl; rintro _ rfl; rintro _ rfl; rintro _ rfl; rintro _ rfl; rintro _ rfl; rintro _ rfl; rintro _ rfl; rintro _ rfl; rintro _ rfl; rintro _ rfl; rintro _ rfl; rintro _ rfl; rintro _ rfl; rintro _ rfl; rintro _ rfl; rintro _ rfl; rintro _ rfl; rintro _ rfl; rintro _ rfl; rintro _ rfl; rintro _ rfl; rintro _ rfl; rintro _ rfl; rintro _ rfl; rintro _ rfl; intro v139 h139; rintro _ rfl; rintro _ rfl; rintro _ rfl; rintro _ rfl; rintro _ rfl; intro v145 h145; rintro _ rfl; rintro _ rfl; rintro _ rfl; refine depsThen_nil ?_; dsimp only; simp only [Act.put, List.setIfInBounds_toArray, List.set_cons_zero, List.set_cons_succ]
                replace h139 : (Fact.bytesD (l1.take sr)).p v139 w1 := h139
                replace h145 : (Fact.bytesD (l0.take sr)).p v145 w1 := h145
                have HA6 := Lib.hid (HA5.out.ext hx1)
                have f2 := hx1.cell f1
                have HB16 := Lib.hid (HB15.out.ext hx1)
                have HB06 := Lib.hid (HB05.out.ext hx1)
                clear HA5 HB15 HB05 HLO5 f1 hx1 HFA q1 q2 q3 q4
                generalize w1 = w6 at *
                go_upto_region 32 with fail
                go_cut [169] from 149 to 169 (fun v169 wx => v169 = .bool false ∧ Ext w6 wx)
                case first =>
                  by_cases hgt : sr < l1.length
                  · have g1 : decide ((sr : Int) < (l1.length : Int)) = true := decide_eq_true (by omega)
                    have g2 : decide (sr < l1.length) = true := decide_eq_true hgt
                    obtain ⟨lm, hlm⟩ : ∃ lm, l1.length - 1 = lm := ⟨_, rfl⟩
                    have hfm : l1.take lm = l0.take lm := by rw [← hlm]; exact HMO.out hgt
                    have hJ : ((l1.length : Nat) : Int) - 1 = (lm : Int) := by omega
                    have hJw : IntKind.i64.wrap (lm : Int) = (lm : Int) := by rw [IntKind.wrap_i64]; omega
                    have HL2 : Hid (lm ≤ l1.length ∧ lm ≤ l0.length) := by
                      have := HLE.out
                      exact ⟨by omega, by omega⟩
                    have HFM := Lib.hid hfm
                    clear hfm hlm hgt
                    refine wp_region_facts [Fact.eq (.slice ra l1.length rc),
                        Fact.eq (.int .i64 l1.length),
                        Fact.eq (.int .i64 (sr : Int)),
                        Fact.eq (.bool true),
                        Fact.eq (.bool true),
                        Fact.eq (.slice ra l1.length rc),
                        Fact.eq (.slice ra l1.length rc),
                        Fact.eq (.int .i64 l1.length),
                        Fact.eq (.int .i64 (lm : Int)),
                        Fact.bytesD (l1.take lm),
                        Fact.eq (.slice (some ⟨WB, 0, none⟩) k wk),
                        Fact.eq (.int .i64 (j : Int)),
                        Fact.eq (.pointer (some ⟨WB, j, none⟩)),
                        Fact.eq (.slice ea l0.length ec),
                        Fact.eq (.slice ra l1.length rc),
                        Fact.eq (.int .i64 l1.length),
                        Fact.eq (.int .i64 (lm : Int)),
                        Fact.bytesD (l0.take lm),
                        Fact.eq (.bool true),
                        Fact.eq (.bool false),
                        Fact.eq (.bool false)]
                      [[], [(0, 149)], [], [(1, 150), (2, 151)], [(3, 152)], [(4, 153)], [(4, 153)], [(6, 155), (4, 153)], [(7, 156), (4, 153)], [(5, 154), (8, 157), (4, 153)], [(4, 153)], [(4, 153)], [(10, 159), (11, 160), (4, 153)], [(12, 161), (4, 153)], [(4, 153)], [(14, 163), (4, 153)], [(15, 164), (4, 153)], [(13, 162), (16, 165), (4, 153)], [(9, 158), (17, 166), (4, 153)], [(18, 167), (4, 153)], [(4, 153), (19, 168)]]
                      [(0, 149), (1, 150), (2, 151), (3, 152), (4, 153), (5, 154), (6, 155), (7, 156), (8, 157), (9, 158), (10, 159), (11, 160), (12, 161), (13, 162), (14, 163), (15, 164), (16, 165), (17, 166), (18, 167), (19, 168), (20, 169)] (by kernel_rfl) (by kernel_rfl) ?_ ?_
                    · refine ⟨?_, ?_, ?_, ?_, ?_, ?_, ?_, ?_, ?_, ?_, ?_, ?_, ?_, ?_, ?_, ?_, ?_, ?_, ?_, ?_, ?_, trivial⟩
                      · intro w1 hx1; change wpList _ _ _ _ _ _; exact ob_move rfl rfl rfl rfl rfl
                      · intro w1 hx1; rintro _ rfl; change wpList _ _ _ _ _ _; go_wp2_with fail; exact ⟨rfl, Ext.refl _, rfl, rfl⟩
                      · intro w1 hx1; change wpList _ _ _ _ _ _; exact ob_move rfl rfl rfl rfl rfl
                      · intro w1 hx1; rintro _ rfl; rintro _ rfl; change wpList _ _ _ _ _ _; go_wp2_with fail; exact ⟨rfl, Ext.refl _, rfl, rfl⟩
                      · intro w1 hx1; rintro _ rfl; change wpList _ _ _ _ _ _; exact ob_move rfl rfl rfl rfl rfl
                      · intro w1 hx1; rintro _ rfl; change wpList _ _ _ _ _ _; exact ob_move rfl rfl rfl rfl rfl
                      · intro w1 hx1; rintro _ rfl; change wpList _ _ _ _ _ _; exact ob_move rfl rfl rfl rfl rfl
                      · intro w1 hx1; rintro _ rfl; rintro _ rfl; change wpList _ _ _ _ _ _; go_wp2_with fail; exact ⟨rfl, Ext.refl _, rfl, rfl⟩
                      · intro w1 hx1; rintro _ rfl; rintro _ rfl; change wpList _ _ _ _ _ _; go_wp2_with fail; exact ⟨rfl, Ext.refl _, rfl, rfl⟩
                      · intro w1 hx1; rintro _ rfl; rintro _ rfl; rintro _ rfl; change wpList _ _ _ _ _ _; refine cutD (.tmp 154) (.tmp 157) rfl rfl l1 _ rfl (HB16.out.ext hx1) lm HL2.out.1 rfl ?_; intro v hv; exact wpList_nil ⟨rfl, Ext.refl _, rfl, hv⟩
                      · intro w1 hx1; rintro _ rfl; change wpList _ _ _ _ _ _; exact ob_move rfl rfl rfl rfl rfl
                      · intro w1 hx1; rintro _ rfl; change wpList _ _ _ _ _ _; exact ob_move rfl rfl rfl rfl rfl
                      · intro w1 hx1; rintro _ rfl; rintro _ rfl; rintro _ rfl; change wpList _ _ _ _ _ _; go_wp2_with fail; exact ⟨rfl, Ext.refl _, rfl, rfl⟩
                      · intro w1 hx1; rintro _ rfl; rintro _ rfl; change wpList _ _ _ _ _ _; have m0 := hx1.cell f2; go_wp2_with fail; exact ⟨rfl, Ext.refl _, rfl, rfl⟩
                      · intro w1 hx1; rintro _ rfl; change wpList _ _ _ _ _ _; exact ob_move rfl rfl rfl rfl rfl
                      · intro w1 hx1; rintro _ rfl; rintro _ rfl; change wpList _ _ _ _ _ _; go_wp2_with fail; exact ⟨rfl, Ext.refl _, rfl, rfl⟩
                      · intro w1 hx1; rintro _ rfl; rintro _ rfl; change wpList _ _ _ _ _ _; go_wp2_with fail; exact ⟨rfl, Ext.refl _, rfl, rfl⟩
                      · intro w1 hx1; rintro _ rfl; rintro _ rfl; rintro _ rfl; change wpList _ _ _ _ _ _; refine cutD (.tmp 162) (.tmp 165) rfl rfl l0 _ rfl (HB06.out.ext hx1) lm HL2.out.2 rfl ?_; intro v hv; exact wpList_nil ⟨rfl, Ext.refl _, rfl, hv⟩
                      · intro w1 hx1; intro v158 h158; intro v166 h166; rintro _ rfl; change wpList _ _ _ _ _ _; go_wp2_with fail; refine (beqT h158 h166 HFM.out).mono ?_; rintro e w2 ⟨rfl, hx2⟩; go_wp2_with fail; exact ⟨rfl, hx2, rfl, rfl⟩
                      · intro w1 hx1; rintro _ rfl; rintro _ rfl; change wpList _ _ _ _ _ _; go_wp2_with fail; exact ⟨rfl, Ext.refl _, rfl, rfl⟩
                      · intro w1 hx1; rintro _ rfl; rintro _ rfl; change wpList _ _ _ _ _ _; exact ob_pick rfl rfl rfl rfl rfl rfl
                    · intro w1 hx1; rintro _ rfl; rintro _ rfl; rintro _ rfl; rintro _ rfl; rintro _ rfl; rintro _ rfl; rintro _ rfl; rintro _ rfl; rintro _ rfl; intro v158 h158; rintro _ rfl; rintro _ rfl; rintro _ rfl; rintro _ rfl; rintro _ rfl; rintro _ rfl; rintro _ rfl; intro v166 h166; rintro _ rfl; rintro _ rfl; rintro _ rfl; refine depsThen_nil ?_; dsimp only; simp only [Act.put, List.setIfInBounds_toArray, List.set_cons_zero, List.set_cons_succ]
                      replace h158 : (Fact.bytesD (l1.take lm)).p v158 w1 := h158
                      replace h166 : (Fact.bytesD (l0.take lm)).p v166 w1 := h166
                      go_wp2_with fail
                      go_meet
                      exact ⟨rfl, hx1⟩
                  · have g1 : decide ((sr : Int) < (l1.length : Int)) = false := decide_eq_false (by omega)
                    have g2 : decide (sr < l1.length) = false := decide_eq_false hgt
                    clear hgt
                    refine wp_region_facts [Fact.eq (.slice ra l1.length rc),
                        Fact.eq (.int .i64 l1.length),
                        Fact.eq (.int .i64 (sr : Int)),
                        Fact.eq (.bool false),
                        Fact.eq (.bool false),
                        Fact.eq undef,
                        Fact.eq undef,
                        Fact.eq undef,
                        Fact.eq undef,
                        Fact.eq undef,
                        Fact.eq undef,
                        Fact.eq undef,
                        Fact.eq undef,
                        Fact.eq undef,
                        Fact.eq undef,
                        Fact.eq undef,
                        Fact.eq undef,
                        Fact.eq undef,
                        Fact.eq undef,
                        Fact.eq undef,
                        Fact.eq (.bool false)]
                      [[], [(0, 149)], [], [(1, 150), (2, 151)], [(3, 152)], [(4, 153)], [(4, 153)], [(6, 155), (4, 153)], [(7, 156), (4, 153)], [(5, 154), (8, 157), (4, 153)], [(4, 153)], [(4, 153)], [(10, 159), (11, 160), (4, 153)], [(12, 161), (4, 153)], [(4, 153)], [(14, 163), (4, 153)], [(15, 164), (4, 153)], [(13, 162), (16, 165), (4, 153)], [(9, 158), (17, 166), (4, 153)], [(18, 167), (4, 153)], [(4, 153), (19, 168)]]
                      [(0, 149), (1, 150), (2, 151), (3, 152), (4, 153), (5, 154), (6, 155), (7, 156), (8, 157), (9, 158), (10, 159), (11, 160), (12, 161), (13, 162), (14, 163), (15, 164), (16, 165), (17, 166), (18, 167), (19, 168), (20, 169)] (by kernel_rfl) (by kernel_rfl) ?_ ?_
                    · refine ⟨?_, ?_, ?_, ?_, ?_, ?_, ?_, ?_, ?_, ?_, ?_, ?_, ?_, ?_, ?_, ?_, ?_, ?_, ?_, ?_, ?_, trivial⟩
                      · intro w1 hx1; change wpList _ _ _ _ _ _; exact ob_move rfl rfl rfl rfl rfl
                      · intro w1 hx1; rintro _ rfl; change wpList _ _ _ _ _ _; go_wp2_with fail; exact ⟨rfl, Ext.refl _, rfl, rfl⟩
                      · intro w1 hx1; change wpList _ _ _ _ _ _; exact ob_move rfl rfl rfl rfl rfl
                      · intro w1 hx1; rintro _ rfl; rintro _ rfl; change wpList _ _ _ _ _ _; go_wp2_with fail; exact ⟨rfl, Ext.refl _, rfl, rfl⟩
                      · intro w1 hx1; rintro _ rfl; change wpList _ _ _ _ _ _; exact ob_move rfl rfl rfl rfl rfl
                      · intro w1 hx1; rintro _ rfl; change wpList _ _ _ _ _ _; exact ob_skip rfl rfl rfl rfl
                      · intro w1 hx1; rintro _ rfl; change wpList _ _ _ _ _ _; exact ob_skip rfl rfl rfl rfl
                      · intro w1 hx1; rintro _ rfl; rintro _ rfl; change wpList _ _ _ _ _ _; exact ob_skip rfl rfl rfl rfl
                      · intro w1 hx1; rintro _ rfl; rintro _ rfl; change wpList _ _ _ _ _ _; exact ob_skip rfl rfl rfl rfl
                      · intro w1 hx1; rintro _ rfl; rintro _ rfl; rintro _ rfl; change wpList _ _ _ _ _ _; exact ob_skip rfl rfl rfl rfl
                      · intro w1 hx1; rintro _ rfl; change wpList _ _ _ _ _ _; exact ob_skip rfl rfl rfl rfl
                      · intro w1 hx1; rintro _ rfl; change wpList _ _ _ _ _ _; exact ob_skip rfl rfl rfl rfl
                      · intro w1 hx1; rintro _ rfl; rintro _ rfl; rintro _ rfl; change wpList _ _ _ _ _ _; exact ob_skip rfl rfl rfl rfl
                      · intro w1 hx1; rintro _ rfl; rintro _ rfl; change wpList _ _ _ _ _ _; exact ob_skip rfl rfl rfl rfl
                      · intro w1 hx1; rintro _ rfl; change wpList _ _ _ _ _ _; exact ob_skip rfl rfl rfl rfl
                      · intro w1 hx1; rintro _ rfl; rintro _ rfl; change wpList _ _ _ _ _ _; exact ob_skip rfl rfl rfl rfl
                      · intro w1 hx1; rintro _ rfl; rintro _ rfl; change wpList _ _ _ _ _ _; exact ob_skip rfl rfl rfl rfl
                      · intro w1 hx1; rintro _ rfl; rintro _ rfl; rintro _ rfl; change wpList _ _ _ _ _ _; exact ob_skip rfl rfl rfl rfl
                      · intro w1 hx1; rintro _ rfl; rintro _ rfl; rintro _ rfl; change wpList _ _ _ _ _ _; exact ob_skip rfl rfl rfl rfl
                      · intro w1 hx1; rintro _ rfl; rintro _ rfl; change wpList _ _ _ _ _ _; exact ob_skip rfl rfl rfl rfl
                      · intro w1 hx1; rintro _ rfl; rintro _ rfl; change wpList _ _ _ _ _ _; exact ob_pick rfl rfl rfl rfl rfl rfl
                    · intro w1 hx1; rintro _ rfl; rintro _ rfl; rintro _ rfl; rintro _ rfl; rintro _ rfl; rintro _ rfl; rintro _ rfl; rintro _ rfl; rintro _ rfl; rintro _ rfl; rintro _ rfl; rintro _ rfl; rintro _ rfl; rintro _ rfl; rintro _ rfl; rintro _ rfl; rintro _ rfl; rintro _ rfl; rintro _ rfl; rintro _ rfl; rintro _ rfl; refine depsThen_nil ?_; dsimp only; simp only [Act.put, List.setIfInBounds_toArray, List.set_cons_zero, List.set_cons_succ]
                      go_wp2_with fail
                      go_meet
                      exact ⟨rfl, hx1⟩
                case rest =>
                  obtain ⟨rfl, hx1⟩ := hcut
                  have HA7 := Lib.hid (HA6.out.ext hx1)
                  have k5 := hx1.cell f2
                  obtain ⟨WB', ea', ec', e', -, -, j5⟩ := HA7.out.wasCell HWM.out hlt
                  obtain rfl : WB = WB' := by cases e'; rfl
                  clear HA6 f2 HB16 HB06 hx1 HWM e' HMO HLE
                  go_wp2_with fail
                  go_roundw
                  case rel => exact ⟨j + 1, _, _, hlt, by go_num, HA7.out.setW _, HWN.out⟩
                  case measure => simp [intOf]; omega
          · obtain rfl : j = k := by omega
            have hI : decide ((j : Int) < (j : Int)) = false := decide_eq_false (by omega)
            have HWD := Lib.hid HW.out.done
            clear HW HLS
            go_upto_region 37 with (first
              | (go_at_call 15; (with_reducible refine (AtK.torn HA.out HT.out.2 HT1.out).mono ?_); rintro e w11 ⟨v11, rfl, ho, hx⟩; have HO := Lib.hid ho; have HX := Lib.hid hx; clear ho hx)
              | (go_at_call 12; (with_reducible refine (AtK.crash2 HA.out HX.out HO.out HT.out.2 HTE.out.2.1).mono ?_); rintro e w12 ⟨rfl, h⟩; have HA8 := Lib.hid h; clear h))
            clear HA HX HO
            go_wp2_with fail
            go_loopw [182] (fun i wr => ∃ (m : Nat) (ds : List (Value × List UInt8)), m ≤ j ∧ i = .int .i64 m ∧ Hid (AtK w b T (.slice na j nc) (.slice wa j wk) (.slice la j lc) ns ws2 ls ds wr) ∧ Hid (Was b1 j ws2 ds)) (fun i _ => j - (intOf i).toNat)
            case atStart => exact ⟨0, _, Nat.zero_le _, rfl, HA8.out, HWD.out⟩
            case round =>
              clear HA8 HWD hI hlt
              obtain ⟨m, ds3, hm, rfl, HA, HW⟩ := hrel
              by_cases hlt : m < j
              · have hI : decide ((m : Int) < (j : Int)) = true := decide_eq_true (by omega)
                have hkN : (m : Int) < (j : Int) := by omega
                obtain ⟨NB, o, x, rfl, hx, c0⟩ := HA.out.nmCell HNN.out hlt
                have HTX := Lib.hid (HTD.out m x hx)
                clear hx
                go_upto_region 41 with (go_at_call 10; (with_reducible refine (AtK.readS HA.out x (b1 m) HTX.out.z1 HTX.out.r1).mono ?_); rintro e w13 ⟨ra, rc, rfl, hrc1, hrc2, h⟩; have HA9 := Lib.hid h; clear h)
                clear c0 HA
                obtain ⟨WB, ea, ec, rfl, hmm, f0, -⟩ := HA9.out.wasCell (HW.out.more _) hlt
                have HB1 := Lib.hid (HA9.out.bytes (List.mem_cons_self ..))
                have HB0 := Lib.hid (HA9.out.bytes hmm)
                dsimp only at HB0 HB1
                clear hmm
                go_wp2_with (go_at_call 14; (with_reducible refine (beqT HB1.out HB0.out rfl).mono ?_); rintro e w14 ⟨rfl, hx⟩; have HA10 := Lib.hid (HA9.out.ext hx); clear hx)
                go_roundw
                case rel => exact ⟨m + 1, _, hlt, by go_num, HA10.out, HW.out.more _⟩
                case measure => simp [intOf]; omega
              · obtain rfl : m = j := by omega
                have hI : decide ((m : Int) < (m : Int)) = false := decide_eq_false (by omega)
                go_wp2_with (first
                  | (go_at_call 9; (with_reducible refine (AtK.namesN HA.out HNN.out HTE.out.2.2).mono ?_); rintro e w15 ⟨v15, rfl, hr, h⟩; have HA2 := Lib.hid h; have HR2 := Lib.hid hr; clear h hr)
                  | (go_at_call 13; (with_reducible refine (sameT HNN.out HR2.out (HA2.out.nmRowN HNN.out) hn5).mono ?_); rintro e w16 ⟨rfl, hx⟩; have HA3 := Lib.hid (HA2.out.ext hx); clear hx))
                exact bodyPost_ret (v := .bool true) (by simp [results, Tryd.results3, go_sem]) rfl ⟨rfl, HA3.out.out⟩
end Go.Proofs.YtdfnfmanpdafpaaDoor
