/- The walk through SubsSame. -/
import Derived.Deep.CutBlock
import Derived.BigRegion
import Derived.Test.YtlhbpflcffjhmaaGreatPk18
namespace Go.Proofs.YtlhbpflcffjhmaaGreat
open Go.RowKit Go.Sort

theorem link3 (x : Int) : ∃ q : Nat, q < 3 ∧ wrap64 ((IntKind.u64.wrap x).tmod 3) = (q : Int) := by
  have h0 : 0 ≤ IntKind.u64.wrap x := by rw [IntKind.wrap_u64]; omega
  have h1 := Int.tmod_lt_of_pos (IntKind.u64.wrap x) (b := 3) (by decide)
  have h2 := Int.tmod_nonneg (b := 3) (a := IntKind.u64.wrap x) h0
  refine ⟨((IntKind.u64.wrap x).tmod 3).toNat, by omega, ?_⟩
  unfold wrap64
  omega
theorem in3 {q : Nat} (h : q < 3) : (q : Int) ∈ L3 := by
  unfold L3
  simp only [List.mem_cons, List.not_mem_nil, or_false]
  omega
theorem actN : ¬ tbl 40 := by unfold tbl; decide
theorem jS_le {k j : Nat} {S U : TbS} {A : Int → List (List C)} (h : JS k S U A) (hj : k ≤ j) : JS j S U A := by
  obtain ⟨d, rfl⟩ := Nat.exists_eq_add_of_le hj
  clear hj
  induction d with
  | zero => exact h
  | succ d ih => exact ih.more
set_option maxRecDepth 100000 in
set_option maxHeartbeats 16000000 in
theorem subsSame_walk (W : World) (v : Value) (us : List SA) (B0 : SActsR W v us) (O0 : ∀ y ∈ us, okSA y) :
    Calls Tryz.prog 4 #[v] W fun e W' => e = .returned (.bool true) ∧ Ext W W' := by
  obtain ⟨va, vc, rfl, hvc, hvm⟩ := Row.shape B0.row
  obtain ⟨n, hn⟩ : ∃ n, n = us.length := ⟨_, rfl⟩
  rw [← hn] at hvc B0 ⊢
  have HN := Lib.hid hn
  have HB0 := Lib.hid B0
  have HO0 := Lib.hid O0
  unfold maxLen at hvm
  clear B0 O0 hn
  go_enter Tryz.func4, Tryz.ntmps4
  go_upto_region 2 with (go_at_call 13; (with_reducible refine (new3 W _ (Ext.refl W) 0 1 2 good012 wf012).mono ?_); rintro e w1 ⟨bt, F, rfl, hi, hx, hlo⟩; have HT1 := Lib.hid hi; clear hi hx hlo)
  go_upto_region 3 with (go_at_call 13; (with_reducible refine (new3 W _ HT1.out.ext 2 0 1 good201 wf201).mono ?_); rintro e w2 ⟨bu, G, rfl, hi, hx, hlo⟩; have HU2 := Lib.hid hi; have HT2 := Lib.hid (HT1.out.later hx); have HLO := Lib.hid hlo; have HLT := Lib.hid HT1.out.lt; clear hi hx hlo HT1)
  have HFG : Hid (∀ i ∈ F, i ∉ G) := fun i hi hg => by have h1 := HLT.out i hi; have h2 := HLO.out i hg; omega
  have HGF : Hid (∀ i ∈ G, i ∉ F) := fun i hi hg => HFG.out i hg hi
  clear HLO HLT
  go_upto_region 5 with (go_at_call 11; (with_reducible refine (awake24_any _).mono ?_); rintro e w3 ⟨rfl, hx⟩; have HT3 := Lib.hid (HT2.out.later hx); have HU3 := Lib.hid (HU2.out.later hx); clear hx HT2 HU2)
  obtain ⟨hxa, hba⟩ := boxes1 w3 (.cells #[.slice none 0 0, .slice none 0 0, .slice none 0 0] 38)
  have hst : StW W (w3.alloc (.cells #[.slice none 0 0, .slice none 0 0, .slice none 0 0] 38)) bt bu w3.heap.size F G ⟨[zL 0, zL 1, zL 2], []⟩ ⟨[zL 2, zL 0, zL 1], []⟩ (fun _ => []) :=
    ⟨HT3.out.later hxa, HU3.out.later hxa, ⟨fun _ => .slice none 0 0, hba, fun _ => RowA.nil W⟩⟩
  have HST := Lib.hid hst
  have hba0 : W.heap.size ≤ w3.heap.size := HT3.out.ext.size
  clear hst hxa hba HT3 HU3
  go_upto_region 6 with fail
  generalize w3.alloc (.cells #[.slice none 0 0, .slice none 0 0, .slice none 0 0] 38) = w4 at *
  have HBA := Lib.hid hba0
  clear hba0
  generalize w3.heap.size = ba at *
  go_upto_block 0 with fail
  go_cut [2, 8, 9] from 39 to 132 (fun _ _ _ wx => ∃ S U A, Hid (JS 60 S U A ∧ StW W wx bt bu ba F G S U A))
  case first =>
    go_wp2_with fail
    go_loopw [41] (fun iv wr => ∃ (i : Nat) (S U : TbS) (A : Int → List (List C)), i ≤ n ∧ i ≤ 60 ∧ iv = .int .i64 i ∧ Hid (JS i S U A) ∧ Hid (StW W wr bt bu ba F G S U A)) (fun iv _ => n - (intOf iv).toNat)
    case atStart => exact ⟨0, _, _, _, Nat.zero_le _, Nat.zero_le _, rfl, start_JS _ _ rfl rfl, HST.out⟩
    case round =>
      clear HST
      obtain ⟨i, S, U, A, hi, hi60, rfl, hJ, hS⟩ := hrel
      by_cases hlt : i < n
      · have hI : decide ((i : Int) < (n : Int)) = true := decide_eq_true (by omega)
        have hil : i < us.length := by rw [← HN.out]; exact hlt
        obtain ⟨B, o, rfl, c0, c1, c2, c3⟩ := SActsR.at (HB0.out.ext hS.out.t.ext) hil
        have hmem := List.getElem_mem hil
        have hok := HO0.out _ hmem
        have hph := HB0.out.hs _ hmem
        have hgs := HB0.out.gs _ hmem
        generalize us[i] = y at *
        generalize hwh : y.what = wh at *
        clear hwh
        obtain ⟨ya, yc, hyh, _, _⟩ := hph.shape
        obtain ⟨ga, gc, hgh, hgc, hgm⟩ := Row.shape hgs.row
        rw [hyh] at c2 hph
        rw [hgh] at c3 hgs
        by_cases h60 : i = 60
        · have hE : ((i : Int) == 60) = true := by simp; omega
          have hEN : decide ((i : Int) = 60) = true := decide_eq_true (by omega)
          have hS2 := hS.out.ext ((Ext.refl wr).alloc (.cells #[.int .i64 wh, .int .i64 y.link, .slice ya y.p.length yc, .slice ga y.us.length gc] 40))
          have hJ2 : JS 60 S U A := by have h := hJ.out; rwa [h60] at h
          have HS2 := Lib.hid (And.intro hJ2 hS2)
          clear hS2 hJ2 h60
          go_wp2_with fail
          go_meet
          exact ⟨S, U, A, HS2.out⟩
        · have hE : ((i : Int) == 60) = false := by simp; omega
          have hEN : decide ((i : Int) = 60) = false := decide_eq_false (by omega)
          obtain ⟨hxb, hbb⟩ := boxes1 wr (.cells #[.int .i64 wh, .int .i64 y.link, .slice ya y.p.length yc, .slice ga y.us.length gc] 40)
          obtain ⟨m, hm⟩ : ∃ m, m = min y.us.length 20 := ⟨_, rfl⟩
          have q1 : min ((y.us.length : Nat) : Int) 20 = (m : Int) := by omega
          have hml : m ≤ y.us.length := by omega
          have hmc : m ≤ gc := by omega
          have hm20 : m ≤ 20 := by omega
          have HCUT := Lib.hid (cutQ_head hgs hml)
          have HXB := Lib.hid hxb
          have HBB := Lib.hid hbb
          have HPH := Lib.hid hph
          have HOK := Lib.hid hok
          clear hm hxb hbb hph hok hgs hmem hyh hgh
          have H60 := Lib.hid h60
          clear h60
          go_upto_region 10 with fail
          clear c0 c1 c2 c3
          generalize wr.alloc (.cells #[.int .i64 wh, .int .i64 y.link, .slice ya y.p.length yc, .slice ga y.us.length gc] 40) = wb at *
          obtain ⟨bx, hbx⟩ : ∃ bx, bx = wr.heap.size := ⟨_, rfl⟩
          have HBX := Lib.hid (show wr.heap.size ≤ bx by omega)
          rw [← hbx] at HBB ⊢
          clear hbx
          go_cut [] from 48 to 61 (fun wx => Hid (∃ e1 f1 q, q < 3 ∧ wx.heap[bx]? = some (.cells #[.int .i64 wh, .int .i64 (q : Nat), .slice ya y.p.length yc, .slice e1 m f1] 40 (0, 0)) ∧ PredsR W (.slice e1 m f1) (y.us.take m) ∧ Ext wr wx))
          case first =>
            have x1 := cell_of_row _ _ 1 _ _ _ HBB.out
            have z1 := frozen_of_row _ _ 1 _ _ HBB.out
            have x3 := cell_of_row _ _ 3 _ _ _ HBB.out
            have z3 := frozen_of_row _ _ 3 _ _ HBB.out
            obtain ⟨q, hq3, hq⟩ := link3 y.link
            have k1 := setCell_rowS (i := 1) HBB.out (.int .i64 (q : Nat))
            simp only [List.setIfInBounds_toArray, List.set_cons_zero, List.set_cons_succ] at k1
            have k2 := setCell_rowS (i := 3) k1 (.slice ga m gc)
            simp only [List.setIfInBounds_toArray, List.set_cons_zero, List.set_cons_succ] at k2
            have hxe := (HXB.out.setCell (p := ⟨bx, 1, none⟩) HBX.out (.int .i64 (q : Nat))).setCell (p := ⟨bx, 3, none⟩) HBX.out (.slice ga m gc)
            have HR := Lib.hid (And.intro k2 (And.intro HCUT.out hxe.drew))
            clear HBB HXB k1 k2 hxe HCUT
            go_region
            go_wp2_with fail
            go_meet
            exact ⟨_, _, q, hq3, HR.out⟩
          case rest =>
            obtain ⟨ea, ef, q, hq3, kb, hcr, hxc⟩ := hcut.out
            have HST := Lib.hid (hS.out.ext hxc)
            have HP := Lib.hid (HPH.out.ext HST.out.t.ext)
            have g0 := cell_of_row _ _ 0 _ _ _ kb
            have g1 := cell_of_row _ _ 1 _ _ _ kb
            have g2 := cell_of_row _ _ 2 _ _ _ kb
            have g3 := cell_of_row _ _ 3 _ _ _ kb
            have KB := Lib.hid kb
            have HCR := Lib.hid hcr
            clear kb hcr hxc hcut hS HCUT HXB HBB
            by_cases w2 : wh = 2
            · subst w2
              have hcall := HST.out.t.learn (fun x hx => by have := hJ.out.s.came x hx; omega) (q : Nat) _ y.p HP.out HOK.out.p
              have HC := Lib.hid hcall
              clear hcall
              go_wp2_with (go_at_call 16; (with_reducible refine HC.out.mono ?_); rintro e w9 ⟨rfl, hl⟩; have HS9 := Lib.hid (HST.out.left hl HGF.out); clear hl)
              go_roundw
              case rel => exact ⟨i + 1, _, _, _, hlt, by have := H60.out; omega, by go_num, hJ.out.learnS (q : Nat) y.p, HS9.out⟩
              case measure => simp [intOf]; omega
            · by_cases w3 : wh = 3
              · subst w3
                have hcall := HST.out.t.forget (fun x hx => by have := hJ.out.s.came x hx; omega) (q : Nat) _ y.p HP.out
                have HC := Lib.hid hcall
                clear hcall
                go_wp2_with (go_at_call 17; (with_reducible refine HC.out.mono ?_); rintro e w9 ⟨rfl, hl⟩; have HS9 := Lib.hid (HST.out.left hl HGF.out); clear hl)
                go_roundw
                case rel => exact ⟨i + 1, _, _, _, hlt, by have := H60.out; omega, by go_num, hJ.out.forgetS (q : Nat) y.p, HS9.out⟩
                case measure => simp [intOf]; omega
              · by_cases w0 : wh = 0
                · subst w0
                  have hcall := HST.out.t.own (by have := hJ.out.s.own; omega) _ y.p HP.out HOK.out.p
                  have hul : U.own.length ≤ 50000 := by rw [hJ.out.own]; have := hJ.out.s.own; omega
                  have HUL := Lib.hid hul
                  clear hul
                  cases hm : mayP y.p
                  · rw [show ownTE y.p = 30 by unfold ownTE; rw [hm]; rfl] at hcall
                    have HC := Lib.hid hcall
                    have hu := own_not U hm
                    have HU := Lib.hid hu
                    clear hcall hu hm
                    go_wp2_with (go_at_call 14; (with_reducible refine HC.out.mono ?_); rintro e w9 ⟨rfl, hl⟩; have HS9 := Lib.hid (HST.out.left hl HGF.out); clear hl)
                    go_roundw
                    case rel => exact ⟨i + 1, _, _, _, hlt, by have := H60.out; omega, by go_num, hJ.out.ownS y.p, by rw [HU.out]; exact HS9.out⟩
                    case measure => simp [intOf]; omega
                  · rw [show ownTE y.p = 0 by unfold ownTE; rw [hm]; rfl] at hcall
                    have HC := Lib.hid hcall
                    clear hcall hm
                    go_wp2_with (first
                      | (go_at_call 14; (with_reducible refine HC.out.mono ?_); rintro e w9 ⟨rfl, hl⟩; have HS9 := Lib.hid (HST.out.left hl HGF.out); have kb9 := hl.far KB.out actN; have g92 := cell_of_row _ _ 2 _ _ _ kb9; clear hl kb9 HC)
                      | (go_at_call 14; (with_reducible refine (HS9.out.u.own HUL.out _ y.p (HPH.out.ext HS9.out.t.ext) HOK.out.p).mono ?_); rintro e w10 ⟨rfl, hl⟩; have HS10 := Lib.hid (HS9.out.right hl HFG.out); clear hl))
                    go_roundw
                    case rel => exact ⟨i + 1, _, _, _, hlt, by have := H60.out; omega, by go_num, hJ.out.ownS y.p, HS10.out⟩
                    case measure => simp [intOf]; omega
                · by_cases w1 : wh = 1
                  · subst w1
                    have hcall := HST.out.t.disown (by have := hJ.out.s.own; omega) _ y.p HP.out
                    have hul : U.own.length ≤ 50000 := by rw [hJ.out.own]; have := hJ.out.s.own; omega
                    have HUL := Lib.hid hul
                    clear hul
                    by_cases hd : disTE S y.p = 0
                    · rw [hd] at hcall
                      have hd2 : disTE U y.p = 0 := by rw [hJ.out.disE]; exact hd
                      have HC := Lib.hid hcall
                      have HD2 := Lib.hid hd2
                      have hcu : ∀ W', AtS W W' bu G U → PredR W' (.slice ya y.p.length yc) y.p → Calls Tryz.prog 15 #[.pointer (some ⟨bu, 0, none⟩), .slice ya y.p.length yc] W' fun e w' => e = .returned (.int .i64 0) ∧ LeftS W W' w' bu G (disTS U y.p) := fun W' k hp => by
                        have := k.disown HUL.out _ y.p hp
                        rw [HD2.out] at this
                        exact this
                      have HCU := Lib.hid hcu
                      clear hcall hd hd2 hcu
                      go_wp2_with (first
                        | (go_at_call 15; (with_reducible refine HC.out.mono ?_); rintro e w9 ⟨rfl, hl⟩; have HS9 := Lib.hid (HST.out.left hl HGF.out); have kb9 := hl.far KB.out actN; have g92 := cell_of_row _ _ 2 _ _ _ kb9; clear hl kb9 HC)
                        | (go_at_call 15; (with_reducible refine (HCU.out _ HS9.out.u (HPH.out.ext HS9.out.t.ext)).mono ?_); rintro e w10 ⟨rfl, hl⟩; have HS10 := Lib.hid (HS9.out.right hl HFG.out); clear hl))
                      go_roundw
                      case rel => exact ⟨i + 1, _, _, _, hlt, by have := H60.out; omega, by go_num, hJ.out.disS y.p, HS10.out⟩
                      case measure => simp [intOf]; omega
                    · have hu := dis_not U (p := y.p) (by rw [hJ.out.disE]; exact hd)
                      have HU := Lib.hid hu
                      have hc6 : disTE S y.p = 6 ∨ disTE S y.p = 30 := by
                        unfold disTE at hd ⊢
                        split
                        · rename_i h1
                          rw [if_pos h1] at hd
                          split
                          · rename_i h2
                            rw [if_pos h2] at hd
                            exact absurd rfl hd
                          · exact .inl rfl
                        · exact .inr rfl
                      clear hd hu
                      rcases hc6 with h6 | h6 <;> rw [h6] at hcall
                      all_goals
                        have HC := Lib.hid hcall
                        clear hcall h6
                        go_wp2_with (go_at_call 15; (with_reducible refine HC.out.mono ?_); rintro e w9 ⟨rfl, hl⟩; have HS9 := Lib.hid (HST.out.left hl HGF.out); clear hl)
                        go_roundw
                        case rel => exact ⟨i + 1, _, _, _, hlt, by have := H60.out; omega, by go_num, hJ.out.disS y.p, by rw [HU.out]; exact HS9.out⟩
                        case measure => simp [intOf]; omega
                  · by_cases w4 : wh = 4
                    · subst w4
                      have hlt30 : (psP (y.us.take m)).length ≤ 30 := by rw [psP_len, List.length_take]; omega
                      have hcall := HST.out.t.ads (q : Nat) _ (y.us.take m) (HCR.out.ext HST.out.t.ext) (fun x hx => HOK.out.us x (List.mem_of_mem_take hx)) (by rw [List.length_take]; omega)
                      have hrow : RowA W (.slice ea m ef) (psP (y.us.take m)) := ⟨ea, m, ef, _, rfl, HCR.out, rfl, fun x hx => HOK.out.us x (List.mem_of_mem_take hx), by rw [List.length_take]; omega⟩
                      rw [show (y.us.take m).map PP.p = psP (y.us.take m) from rfl, hJ.out.adsE (in3 hq3)] at hcall
                      have HROW := Lib.hid hrow
                      have HL30 := Lib.hid hlt30
                      clear hrow hlt30
                      cases hm : (psP (y.us.take m)).all mayP
                      · rw [hm] at hcall
                        have hj := hJ.out.adsN (q : Nat) hm
                        have HJ2 := Lib.hid hj
                        have HC := Lib.hid hcall
                        clear hcall hj hm
                        go_wp2_with (go_at_call 18; (with_reducible refine HC.out.mono ?_); rintro e w9 ⟨rfl, hl⟩; have HS9 := Lib.hid (HST.out.left hl HGF.out); clear hl)
                        go_roundw
                        case rel => exact ⟨i + 1, _, _, _, hlt, by have := H60.out; omega, by go_num, HJ2.out, HS9.out⟩
                        case measure => simp [intOf]; omega
                      · rw [hm] at hcall
                        have hj := hJ.out.adsS (in3 hq3) HL30.out hm
                        have HJ2 := Lib.hid hj
                        have HC := Lib.hid hcall
                        clear hcall hj hm
                        have hqN : decide ((q : Int) < 3) = true := decide_eq_true (by omega)
                        go_wp2_with (go_at_call 18; (with_reducible refine HC.out.mono ?_); rintro e w9 ⟨rfl, hl⟩; have HS9 := Lib.hid (HST.out.left hl HGF.out); have kb9 := hl.far KB.out actN; have g91 := cell_of_row _ _ 1 _ _ _ kb9; have g93 := cell_of_row _ _ 3 _ _ _ kb9; have fz9 := HS9.out.a.fz hq3; obtain ⟨xa, xm, xc, _, ca9, _⟩ := HS9.out.a.at hq3; clear hl kb9 HC)
                        go_roundw
                        case rel => exact ⟨i + 1, _, _, _, hlt, by have := H60.out; omega, by go_num, HJ2.out, HS9.out.set HBA.out hq3 _ _ HROW.out⟩
                        case measure => simp [intOf]; omega
                    · by_cases w5 : wh = 5
                      · subst w5
                        have hcall := HST.out.t.reset (q : Nat)
                        have HC := Lib.hid hcall
                        clear hcall
                        have hqN : decide ((q : Int) < 3) = true := decide_eq_true (by omega)
                        go_wp2_with (go_at_call 19; (with_reducible refine HC.out.mono ?_); rintro e w9 ⟨rfl, hl⟩; have HS9 := Lib.hid (HST.out.left hl HGF.out); have kb9 := hl.far KB.out actN; have g91 := cell_of_row _ _ 1 _ _ _ kb9; have fz9 := HS9.out.a.fz hq3; obtain ⟨xa, xm, xc, _, ca9, _⟩ := HS9.out.a.at hq3; clear hl kb9 HC)
                        go_roundw
                        case rel => exact ⟨i + 1, _, _, _, hlt, by have := H60.out; omega, by go_num, hJ.out.resetS (in3 hq3), HS9.out.set HBA.out hq3 _ _ (RowA.nil W)⟩
                        case measure => simp [intOf]; omega
                      · obtain ⟨x, hx⟩ := hJ.out.s.has (in3 hq3)
                        have hcall := HST.out.t.changes (hJ.out.s.smallT (by omega)) (q : Nat) x hx
                        have HC := Lib.hid hcall
                        have e0 : (wh == 0) = false := by simpa using w0
                        have e1 : (wh == 1) = false := by simpa using w1
                        have e2 : (wh == 2) = false := by simpa using w2
                        have e3 : (wh == 3) = false := by simpa using w3
                        have e4 : (wh == 4) = false := by simpa using w4
                        have e5 : (wh == 5) = false := by simpa using w5
                        have d0 : decide (wh = 0) = false := decide_eq_false w0
                        have d1 : decide (wh = 1) = false := decide_eq_false w1
                        have d2 : decide (wh = 2) = false := decide_eq_false w2
                        have d3 : decide (wh = 3) = false := decide_eq_false w3
                        have d4 : decide (wh = 4) = false := decide_eq_false w4
                        have d5 : decide (wh = 5) = false := decide_eq_false w5
                        clear hcall w0 w1 w2 w3 w4 w5 hx
                        go_wp2_with (go_at_call 20; (with_reducible refine HC.out.mono ?_); rintro e w9 ⟨v1, v2, rfl, _, _, hl⟩; have HS9 := Lib.hid (HST.out.left hl HGF.out); clear hl HC)
                        go_roundw
                        case rel => exact ⟨i + 1, _, _, _, hlt, by have := H60.out; omega, by go_num, hJ.out.chS (q : Nat), HS9.out⟩
                        case measure => simp [intOf]; omega
      · obtain rfl : i = n := by omega
        have hI : decide ((i : Int) < (i : Int)) = false := decide_eq_false (by omega)
        have hJ2 : JS 60 S U A := jS_le hJ.out hi60
        have HS2 := Lib.hid (And.intro hJ2 hS.out)
        clear hJ2
        go_wp2_with fail
        go_meet
        exact ⟨S, U, A, HS2.out⟩
  case rest =>
    clear HST
    obtain ⟨S, U, A, hh⟩ := hcut
    obtain ⟨hJ0, hS0⟩ := hh.out
    rw [hJ0.start] at hS0
    have HJ := Lib.hid hJ0
    have HS := Lib.hid hS0
    have HOKS := Lib.hid hS0.t.ok
    clear hJ0 hS0 hh
    go_wp2_with fail
    go_loopw [133] (fun iv wr => ∃ k : Nat, k ≤ 3 ∧ iv = .int .i64 k ∧ Hid (StW W wr bt bu ba F G S (tbU (fU S (k : Int) 0) S.own) A)) (fun iv _ => 3 - (intOf iv).toNat)
    case atStart => exact ⟨0, Nat.zero_le _, rfl, HS.out⟩
    case round =>
      clear HS
      obtain ⟨k, hk, rfl, hS⟩ := hrel
      by_cases hlt : k < 3
      · have hI : decide ((k : Int) < 3) = true := decide_eq_true (by omega)
        have hcm := hS.out.t.came (fun x hx => by have := HJ.out.s.came x hx; omega) (k : Int)
        have HCM := Lib.hid hcm
        clear hcm
        go_wp2_with (go_at_call 21; (with_reducible refine HCM.out.mono ?_); rintro e w5 ⟨v5, rfl, ha, hx⟩; obtain ⟨ra, rm, rc, rs, rfl, hrm, hrc, hps, hrow⟩ := ha.open; have HROW := Lib.hid hrow; have HPS := Lib.hid hps; have HRM := Lib.hid hrm; have HS5 := Lib.hid (hS.out.ext hx); clear ha hx hps hrow hrm HCM)
        have hr60 : rm ≤ 60 := by have h1 := came_len HJ.out.s (k : Int); have h2 := HRM.out; have h3 := psP_len rs; rw [HPS.out] at h3; omega
        go_loopw [140] (fun jv wr => ∃ j : Nat, j ≤ rm ∧ jv = .int .i64 j ∧ Hid (RowQ W.heap.size wr (.slice ra rm rc) rs) ∧ Hid (StW W wr bt bu ba F G S (tbU (fU S (k : Int) j) S.own) A)) (fun jv _ => rm - (intOf jv).toNat)
        case atStart => exact ⟨0, Nat.zero_le _, rfl, HROW.out, HS5.out⟩
        case round =>
          clear HROW HS5 hS
          obtain ⟨j, hj, rfl, hrow, hS⟩ := hrel
          have hclen : (cameF S (k : Int)).length = rm := by rw [← HPS.out, psP_len]; exact HRM.out.symm
          by_cases hjt : j < rm
          · have hJ : decide ((j : Int) < (rm : Int)) = true := decide_eq_true (by omega)
            have hjl : j < rs.length := by rw [← HRM.out]; exact hjt
            obtain ⟨B, o, ya, yn, yc, rfl, c0, hp⟩ := PredsR.elh2 hrow.out.preds hjl
            have hok := hrow.out.ok _ (List.getElem_mem hjl)
            have hpe : (cameF S (k : Int))[j]'(by omega) = rs[j].p := by simp only [← HPS.out, psP, List.getElem_map]
            have htl := told_learn HOKS.out (k : Int) (j := j) (by omega)
            rw [hpe] at htl
            have hcall := hS.out.u.learn (fun x hx => by have := (fU_much HJ.out.s (k : Int) j).came x hx; omega) (k : Int) _ rs[j].p hp hok
            rw [htl] at hcall
            generalize rs[j].p = yp at *
            have HC := Lib.hid hcall
            clear hcall htl hpe hp hok
            go_wp2_with (go_at_call 16; (with_reducible refine HC.out.mono ?_); rintro e w6 ⟨rfl, hl⟩; have HS6 := Lib.hid (hS.out.right hl HFG.out); have HROW6 := Lib.hid (hrow.out.turnF hl.tbb hl.turns); clear hl HC)
            go_roundw
            case rel => exact ⟨j + 1, hjt, by go_num, HROW6.out, HS6.out⟩
            case measure => simp [intOf]; omega
          · obtain rfl : j = rm := by omega
            have hJ : decide ((j : Int) < (j : Int)) = false := decide_eq_false (by omega)
            obtain ⟨xa, xm, xc, xs, c0, hxs, hxe, hxk, hxl⟩ := hS.out.a.at hlt
            have hta := told_ads (S := S) (A := A) (k : Int) (HJ.out.ads _ (in3 hlt))
            rw [hclen] at hta
            have hcall := hS.out.u.ads (k : Int) _ xs (hxs.ext hS.out.t.ext) hxk (by omega)
            rw [show xs.map PP.p = psP xs from rfl, hxe, hta] at hcall
            have HC := Lib.hid hcall
            have hqN : decide ((k : Int) < 3) = true := decide_eq_true (by omega)
            clear hcall hta hxs hxe hxk hxl hclen
            go_wp2_with (go_at_call 18; (with_reducible refine HC.out.mono ?_); rintro e w6 ⟨rfl, hl⟩; have HS6 := Lib.hid (hS.out.right hl HFG.out); clear hl HC)
            go_roundw
            case rel => exact ⟨k + 1, hlt, by go_num, by have h := HS6.out; rwa [show ((k + 1 : Nat) : Int) = (k : Int) + 1 by omega]⟩
            case measure => simp [intOf]; omega
      · obtain rfl : k = 3 := by omega
        have hI : decide (((3 : Nat) : Int) < 3) = false := by decide
        have hL4 : L4 W wr bt bu ba F G 0 S (tbU (fU S 3 0) S.own) A := ⟨told_same HJ.out.s.names, HJ.out.ads, HJ.out.s, fU_much HJ.out.s 3 0, hS.out⟩
        have HL4 := Lib.hid hL4
        clear hL4 hS HOKS HJ
        go_wp2_with fail
        go_loopw [156] (fun iv wr => ∃ (k : Nat) (S U : TbS), k ≤ 3 ∧ iv = .int .i64 k ∧ Hid (L4 W wr bt bu ba F G k S U A)) (fun iv _ => 3 - (intOf iv).toNat)
        case atStart => exact ⟨0, _, _, Nat.zero_le _, rfl, HL4.out⟩
        case round =>
          clear HL4 hI hlt
          obtain ⟨k, S, U, hk, rfl, hL⟩ := hrel
          by_cases hlt : k < 3
          · have hI : decide ((k : Int) < 3) = true := decide_eq_true (by omega)
            obtain ⟨x, hx⟩ := hL.out.s.has (in3 hlt)
            obtain ⟨y, hy⟩ := hL.out.u.has (in3 hlt)
            have hc1 := hL.out.st.t.changes (hL.out.s.smallT (by omega)) (k : Int) x hx
            have HC1 := Lib.hid hc1
            have HSU := Lib.hid (hL.out.u.smallT (by omega))
            have HY := Lib.hid hy
            have HM2 := Lib.hid (hL.out.s.chS (k : Int))
            have HN2 := Lib.hid (hL.out.u.chS (k : Int))
            have HSE := Lib.hid (hL.out.same.sent (in3 hlt))
            have HSC := Lib.hid (hL.out.same.ch (k : Int))
            have hsl : ∀ z ∈ (chTS S (k : Int)).ls, z.sent.length ≤ 100000 := fun z hz => by have := HM2.out.sent z hz; omega
            have hul : ∀ z ∈ (chTS U (k : Int)).ls, z.sent.length ≤ 100000 := fun z hz => by have := HN2.out.sent z hz; omega
            have HSL := Lib.hid hsl
            have HUL := Lib.hid hul
            clear hc1 hx hy hsl hul
            go_wp2_with (first
              | (go_at_call 20; (with_reducible refine HC1.out.mono ?_); rintro e w5 ⟨va1, va2, rfl, _, _, hl⟩; have HS5 := Lib.hid (hL.out.st.left hl HGF.out); clear hl HC1)
              | (go_at_call 20; (with_reducible refine (HS5.out.u.changes HSU.out (k : Int) y HY.out).mono ?_); rintro e w6 ⟨vb1, vb2, rfl, _, _, hl⟩; have HS6 := Lib.hid (HS5.out.right hl HFG.out); clear hl HS5)
              | (go_at_call 22; (with_reducible refine (HS6.out.t.sent HSL.out (k : Int)).mono ?_); rintro e w7 ⟨v7, rfl, ha, hx⟩; have HA7 := Lib.hid ha; have HS7 := Lib.hid (HS6.out.ext hx); clear ha hx HS6)
              | (go_at_call 22; (with_reducible refine (HS7.out.u.sent HUL.out (k : Int)).mono ?_); rintro e w8 ⟨v8, rfl, ha, hx⟩; have HS8 := Lib.hid (HS7.out.ext hx); have HSM := Lib.hid (same_ans (HA7.out.later hx) ha HSE.out); clear ha hx HS7 HA7)
              | (go_at_call 12; (with_reducible refine HSM.out.mono ?_); rintro e w9 ⟨rfl, hx⟩; have HS9 := Lib.hid (HS8.out.ext hx); clear hx HS8 HSM)
              | (go_at_call 22; (with_reducible refine (HS9.out.t.sent HSL.out (k : Int)).mono ?_); rintro e w10 ⟨v10, rfl, ha, hx⟩; obtain ⟨ra, rm, rc, rs, rfl, hrm, hrc, hps, hrow⟩ := ha.open; have HROW := Lib.hid hrow; have HPS := Lib.hid hps; have HRM := Lib.hid hrm; have HS10 := Lib.hid (HS9.out.ext hx); clear ha hx hps hrow hrm HS9))
            have hr700 : rm ≤ 700 := by
              have h1 := HRM.out
              have h3 := psP_len rs
              rw [HPS.out] at h3
              have h4 := sent_len HM2.out (k : Int)
              omega
            go_loopw [177] (fun jv wr => ∃ j : Nat, j ≤ rm ∧ jv = .int .i64 j ∧ Hid (Ext w10 wr)) (fun jv _ => rm - (intOf jv).toNat)
            case atStart => exact ⟨0, Nat.zero_le _, rfl, Ext.refl _⟩
            case round =>
              obtain ⟨j, hj, rfl, hx⟩ := hrel
              by_cases hjt : j < rm
              · have hJ : decide ((j : Int) < (rm : Int)) = true := decide_eq_true (by omega)
                have hjl : j < rs.length := by rw [← HRM.out]; exact hjt
                obtain ⟨B, o, ya, yn, yc, rfl, c0, hp⟩ := PredsR.elh2 (HROW.out.preds.ext hx.out) hjl
                have hok := HROW.out.ok _ (List.getElem_mem hjl)
                have hpm : rs[j].p ∈ sentF (chTS S (k : Int)) (k : Int) := by rw [← HPS.out]; exact List.mem_map.2 ⟨_, List.getElem_mem hjl, rfl⟩
                have hnear := sent_near (hL.out.ads _ (in3 hlt)) hpm
                generalize rs[j].p = yp at *
                obtain ⟨xa, xm, xc, xs, c1, hxs, hxe, hxk, hxl⟩ := (HS10.out.a.ext hx.out).at hlt
                obtain ⟨xb, xd, e, hxm1, hxm2⟩ := Row.shape hxs.row
                simp only [Value.slice.injEq] at e
                have hxm : xm = xs.length := e.2.1
                have hxc : xm ≤ xc := by omega
                have HXM := Lib.hid hxm
                have hxm30 : xm ≤ 30 := by omega
                have hall : xs.any (fun z => overlapsF yp z.p) = true := by
                  obtain ⟨a, ha, hb⟩ := hnear
                  rw [← hxe] at ha
                  obtain ⟨z, hz, rfl⟩ := List.mem_map.1 ha
                  exact List.any_eq_true.2 ⟨z, hz, hb⟩
                have HALL := Lib.hid hall
                have HXS := Lib.hid (hxs.ext (HS10.out.t.ext.trans hx.out))
                have HXK := Lib.hid hxk
                have HP := Lib.hid hp
                have HOK := Lib.hid hok
                obtain ⟨w11, hw11⟩ : ∃ w11, w11 = wr := ⟨_, rfl⟩
                rw [← hw11] at HP HXS
                have HX11 : Hid (Ext w10 w11) := by show Ext w10 w11; rw [hw11]; exact hx.out
                have HX00 : Hid (Ext w11 wr) := by show Ext w11 wr; rw [hw11]; exact Ext.refl _
                have hqN : decide ((k : Int) < 3) = true := decide_eq_true (by omega)
                clear hall hxs hxk hp hok hxe hnear hpm e hxm1 hxm2 hxm hw11 hxl
                go_wp2_with fail
                go_loopw [16, 185] (fun bv lv wr => ∃ (l : Nat) (b : Bool), l ≤ xm ∧ lv = .int .i64 l ∧ bv = .bool b ∧ Hid (b = (xs.take l).any fun z => overlapsF yp z.p) ∧ Hid (Ext w11 wr)) (fun _ lv _ => xm - (intOf lv).toNat)
                case atStart => exact ⟨0, false, Nat.zero_le _, rfl, rfl, rfl, HX00.out⟩
                case round =>
                  clear c0 c1 HX00
                  obtain ⟨l, b, hl, rfl, rfl, hbb, hx2⟩ := hrel
                  by_cases hlt2 : l < xm
                  · have hL2 : decide ((l : Int) < (xm : Int)) = true := decide_eq_true (by omega)
                    have hll : l < xs.length := by rw [← HXM.out]; exact hlt2
                    obtain ⟨B2, o2, za, zn, zc, rfl, d0, hq⟩ := PredsR.elh2 (HXS.out.ext hx2.out) hll
                    have hokq := HXK.out _ (List.getElem_mem hll)
                    have hany : (xs.take (l + 1)).any (fun z => overlapsF yp z.p) = ((xs.take l).any (fun z => overlapsF yp z.p) || overlapsF yp xs[l].p) := by
                      rw [List.take_succ_eq_append_getElem hll, List.any_append]; simp
                    have hov := overlaps_any wr _ _ yp xs[l].p (HP.out.ext hx2.out) hq HOK.out hokq
                    generalize overlapsF yp xs[l].p = cc at *
                    have HANY := Lib.hid hany
                    have HOV := Lib.hid hov
                    clear hany hov hq hokq
                    cases b
                    · have hres : cc = (xs.take (l + 1)).any fun z => overlapsF yp z.p := by rw [HANY.out, ← hbb.out, Bool.false_or]
                      have HRES := Lib.hid hres
                      clear hres
                      go_wp2_with (go_at_call 23; (with_reducible refine HOV.out.mono ?_); rintro e w12 ⟨rfl, hy⟩; have HX12 := Lib.hid (hx2.out.trans hy); clear hy)
                      go_roundw
                      case rel => exact ⟨l + 1, cc, hlt2, by go_num, rfl, HRES.out, HX12.out⟩
                      case measure => simp [intOf]; omega
                    · have hres : true = (xs.take (l + 1)).any fun z => overlapsF yp z.p := by rw [HANY.out, ← hbb.out, Bool.true_or]
                      have HRES := Lib.hid hres
                      clear hres
                      go_wp2_with fail
                      go_roundw
                      case rel => exact ⟨l + 1, true, hlt2, by go_num, rfl, HRES.out, hx2.out⟩
                      case measure => simp [intOf]; omega
                  · obtain rfl : l = xm := by omega
                    have hL2 : decide ((l : Int) < (l : Int)) = false := decide_eq_false (by omega)
                    have hbt : b = true := by
                      rw [hbb.out, List.take_of_length_le (by rw [← HXM.out]; exact Nat.le_refl _)]
                      exact HALL.out
                    clear hbb
                    subst hbt
                    go_wp2_with fail
                    go_roundw
                    case rel => exact ⟨j + 1, hjt, by go_num, HX11.out.trans hx2.out⟩
                    case measure => simp [intOf]; omega
              · obtain rfl : j = rm := by omega
                have hJ : decide ((j : Int) < (j : Int)) = false := decide_eq_false (by omega)
                have hst : L4 W wr bt bu ba F G (k + 1) (chTS S (k : Int)) (chTS U (k : Int)) A := ⟨HSC.out, fun n hn => by rw [ads_ch]; exact hL.out.ads n hn, HM2.out, HN2.out, HS10.out.ext hx.out⟩
                have HST := Lib.hid hst
                clear hst
                go_wp2_with fail
                go_roundw
                case rel =>
                  repeat apply Exists.intro
                  refine ⟨?_, rfl⟩
                  exact ⟨k + 1, _, _, hlt, by go_num, HST.out⟩
                case measure => simp [intOf]; omega
          · obtain rfl : k = 3 := by omega
            have hI : decide (((3 : Nat) : Int) < 3) = false := by decide
            go_wp2_with fail
            go_ret
            exact ⟨rfl, hL.out.st.t.ext⟩
end Go.Proofs.YtlhbpflcffjhmaaGreat
