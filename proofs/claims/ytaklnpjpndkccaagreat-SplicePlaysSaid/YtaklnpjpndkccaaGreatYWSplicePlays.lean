import Derived.Test.YtaklnpjpndkccaaGreatYk20
import Derived.Test.YtaklnpjpndkccaaGreatYWSpliceRising
namespace Go.Proofs.YtaklnpjpndkccaaGreat
open Go.RowKit Go.Sort
set_option maxRecDepth 100000 in
set_option maxHeartbeats 0 in
theorem splicePlays_walk (w : World) (vp : Value) (p : List C) (hp : PredR w vp p) (hset : ∀ c ∈ p, c.set.length * 40 ≤ 140737488355328) (hlen : p.length * 88 ≤ 140737488355328) (next : Nat) (vl : Value) (us : List AS) (hu : AssR w vl us) (hok : ∀ x ∈ us, okAS x) :
 Calls Tryz.prog 6 #[vp, .int .u64 next, vl] w fun e w' => e = .returned (.bool true) ∧ Ext w w' := by
 obtain ⟨pa, pc, rfl, _, _⟩ := hp.shape
 obtain ⟨la, lc, rfl, _, _⟩ := Row.shape hu.row
 have HP := Lib.hid hp
 have HU := Lib.hid hu
 have HOK := Lib.hid hok
 have HSZ := Lib.hid (And.intro hset hlen)
 clear hp hu hok hset hlen
 by_cases hgood : mayP p = true ∧ 1 ≤ next ∧ next ≤ 1099511627777
 · obtain ⟨hm, hn1, hn2⟩ := hgood
   have HM : Hid (mayP p = true ∧ 1 ≤ next ∧ next ≤ 1099511627777) := ⟨hm, hn1, hn2⟩
   clear hm hn1 hn2
   go_enter Tryz.func6, Tryz.ntmps6
   go_upto_region 9 with (first
    | (go_at_call 8; (with_reducible refine (awake26_any _).mono ?_); rintro e w1 ⟨rfl, hx1⟩)
    | (go_at_call 24; refine (own04_own _ _ p (HP.out.ext hx1) HSZ.out.1 HSZ.out.2).mono ?_; rintro e w2 ⟨v2, us2, rfl, hus2, ho2, hset2, hx2⟩; have hpr2 : PredR w2 v2 p := (by rw [← hus2]; exact PredR.mk us2 (Row.of_own ho2) fun x hm => (hset2 x hm).set); obtain ⟨a2, cc2, rfl, _, _⟩ := own_shape ho2)
    | (go_at_call 7; refine (new_yes w2 _ p hpr2 HM.out.1 next HM.out.2.1 HM.out.2.2).mono ?_; rintro e w3 ⟨bs, rfl, h3⟩)
    | (go_at_call 25; refine (rnew_yesB w3 _ p (((HP.out.ext hx1).ext hx2).ext (by obtain ⟨_, _, _, _, k⟩ := h3.out; exact k)) HM.out.1 next HM.out.2.1 HM.out.2.2).mono ?_; rintro e w4 ⟨rb, rfl, h4⟩))
   obtain ⟨w0, pv, S1, hx20, hx23⟩ := h3.out
   obtain ⟨w5, pv2, R1, hPB, hx35, hx34⟩ := h4.out
   have HPL : Hid (PlS w w4 bs rb w3.heap.size w5.heap.size (normP p) next 0 0 next 0 0) :=
    ⟨⟨w0, pv, S1.later hx34⟩, ⟨w5, pv2, R1, hPB, rfl⟩, (Array.getElem?_eq_some_iff.1 S1.sp).1, hx35.size, Nat.le_trans ((hx1.trans hx2).trans hx20).size S1.old, ((hx1.trans hx2).trans hx23).trans hx34⟩
   clear S1 hx20 hx23 R1 hPB hx35 hx34 h3 h4 hx1 hx2 hpr2 hus2 ho2 hset2
   generalize w3.heap.size = base at *
   generalize w5.heap.size = nb at *
   go_wp2_with fail
   go_loopw [50] (fun iv wr => ∃ i : Nat, iv = .int .i64 i ∧ i ≤ us.length ∧ i ≤ 100 ∧ Hid (∃ n s c, PlS w wr bs rb base nb (normP p) n s c n s c)) (fun iv _ => us.length - (intOf iv).toNat)
   case atStart => exact ⟨0, rfl, Nat.zero_le _, Nat.zero_le _, next, 0, 0, HPL.out⟩
   case round =>
    clear HPL
    obtain ⟨i, rfl, hi, hi100, hst⟩ := hrel
    obtain ⟨n, s, c, hPL⟩ := hst.out
    have HPL := Lib.hid hPL
    clear hst hPL
    by_cases h : i < us.length
    · have hI : decide ((i : Int) < (us.length : Int)) = true := decide_eq_true (by omega)
      have hxw := HPL.out.x
      obtain ⟨B, o, rfl, hc⟩ := (HU.out.ext hxw).at h
      obtain ⟨x, hx⟩ : ∃ x, x = us[i] := ⟨_, rfl⟩
      rw [← hx] at hc
      have hmx : x ∈ us := by rw [hx]; exact List.getElem_mem h
      have c0 := hc 0 _ (by decide) rfl
      have c1 := hc 1 _ (by decide) rfl
      have c2 := hc 2 _ (by decide) rfl
      have c3 := hc 3 _ (by decide) rfl
      have c4 := hc 4 _ (by decide) rfl
      have c5 := hc 5 _ (by decide) rfl
      have c6 := hc 6 _ (by decide) rfl
      have c7 := hc 7 _ (by decide) rfl
      have c8 := hc 8 _ (by decide) rfl
      rw [Nat.add_zero] at c0
      clear hc hx
      obtain ⟨a5, d5, e5, _, _⟩ := Row.shape (HU.out.is x hmx).row
      obtain ⟨a6, d6, e6, _, _⟩ := Row.shape (HU.out.gs x hmx)
      rw [e5] at c5
      rw [e6] at c6
      by_cases h100 : i = 100
      · subst h100
        go_wp2_with fail
        go_ret
        exact ⟨rfl, hxw.trans (boxes1 wr _).1⟩
      · have h1b : ((i : Int) == 100) = false := by
         have : ¬ (i : Int) = 100 := by omega
         simpa using this
        obtain ⟨hx8, hb8⟩ := boxes1 wr (.cells #[.int .i64 x.what, .bool x.known, .int .u64 x.cnt, .int .u64 x.fr, .int .u64 x.en, .slice a5 x.items.length d5, .slice a6 x.gaps.length d6, .bool x.last, .int .i64 x.room] 36)
        have g3 := cell_of_row _ _ 3 _ _ _ hb8
        have g4 := cell_of_row _ _ 4 _ _ _ hb8
        have g5 := cell_of_row _ _ 5 _ _ _ hb8
        have g6 := cell_of_row _ _ 6 _ _ _ hb8
        have g7 := cell_of_row _ _ 7 _ _ _ hb8
        have HI8 : Hid (ImR w (.slice a5 x.items.length d5) x.items ∧ GpR w (.slice a6 x.gaps.length d6) x.gaps) := by
         have u1 := HU.out.is x hmx
         have u2 := HU.out.gs x hmx
         rw [e5] at u1
         rw [e6] at u2
         exact ⟨u1, u2⟩
        go_upto_region 12 with fail
        have HB8 := Lib.hid hb8
        have HX8 := Lib.hid hx8
        have HXW := Lib.hid hxw
        clear hb8 hx8 hxw c0 c1 c2 c3 c4 c5 c6 c7 c8
        go_upto_region 14 with (first
         | (go_at_call 9; (with_reducible refine (short_ok w _ (HXW.out.trans HX8.out) x.fr x.en _ _ x.last x.items x.gaps HI8.out.1 HI8.out.2 (HOK.out x hmx).av).mono ?_); rintro e w3 ⟨I, G, ai, ci, ag, cg, rfl, HZ⟩)
         | (refine wpList_store_part 34 (.tmp 60) (.tmp 59) rfl rfl wr.heap.size 3 rfl #[.int .u64 x.fr, .int .u64 x.en, .slice ai I.length ci, .slice ag G.length cg, .bool x.last] rfl _ 36 #[.int .i64 x.what, .bool x.known, .int .u64 x.cnt, .int .u64 x.fr, .int .u64 x.en, .slice ai I.length ci, .slice ag G.length cg, .bool x.last, .int .i64 x.room] (block_later HB8.out HZ.out.x) (by simp) sizePage (by simp [Value.oneCell']) rfl ?_))
        have HR : Hid (PlA w (w3.setRow wr.heap.size #[.int .i64 x.what, .bool x.known, .int .u64 x.cnt, .int .u64 x.fr, .int .u64 x.en, .slice ai I.length ci, .slice ag G.length cg, .bool x.last, .int .i64 x.room]) bs rb base nb (normP p) n s c n s c wr.heap.size #[.int .i64 x.what, .bool x.known, .int .u64 x.cnt, .int .u64 x.fr, .int .u64 x.en, .slice ai I.length ci, .slice ag G.length cg, .bool x.last, .int .i64 x.room]) :=
         ⟨HPL.out.later ((HX8.out.trans HZ.out.x).setRow (Nat.le_refl _) _), setRow_heap w3 wr.heap.size _ _ 36 (0, 0) (block_later HB8.out HZ.out.x)⟩
        obtain ⟨w4, hw4⟩ : ∃ w4, w4 = w3.setRow wr.heap.size #[.int .i64 x.what, .bool x.known, .int .u64 x.cnt, .int .u64 x.fr, .int .u64 x.en, .slice ai I.length ci, .slice ag G.length cg, .bool x.last, .int .i64 x.room] := ⟨_, rfl⟩
        rw [← hw4] at HR ⊢
        have HIG : Hid (ImR w (.slice ai I.length ci) I ∧ GpR w (.slice ag G.length cg) G ∧ I.length ≤ 40 ∧ G.length ≤ 40 ∧ ∀ y ∈ I, y.av.length * 56 ≤ 140737488355328) := ⟨HZ.out.i, HZ.out.g, HZ.out.li, HZ.out.lg, HZ.out.av⟩
        clear hw4 HZ HPL HX8 HB8 HI8 HXW g3 g4 g5 g6 g7
        generalize wr.heap.size = ab at *
        have y0 := cell_of_row _ _ 0 _ _ _ HR.out.bx
        have y1 := cell_of_row _ _ 1 _ _ _ HR.out.bx
        have y2 := cell_of_row _ _ 2 _ _ _ HR.out.bx
        have y5 := cell_of_row _ _ 5 _ _ _ HR.out.bx
        have y8 := cell_of_row _ _ 8 _ _ _ HR.out.bx
        dsimp only [Act.put]
        go_upto_block 2 with fail
        go_cut [13, 14, 15, 16, 17, 19, 20] from 61 to 177 (fun _ _ _ _ _ _ _ wx => Hid (∃ n s c, PlS w wx bs rb base nb (normP p) n s c n s c))
        case first =>
         by_cases t0 : (x.what == 0) = true
         · go_wp2_with (first
            | (go_at_call 10; (with_reducible refine (pl_slit HR.out x.known).mono ?_); rintro e w5 ⟨rfl, h5⟩; have y1 := cell_of_row _ _ 1 _ _ _ h5.out.bx)
            | (go_at_call 26; (with_reducible refine (pl_rlit h5.out x.known).mono ?_); rintro e w6 ⟨rfl, h6⟩))
           go_meet
           exact ⟨n, _, c, h6.out.s⟩
         · by_cases t1 : (x.what == 1) = true
           · by_cases t5 : s = 1
             · subst t5
               have qn : ((n : Int) != (n : Int)) = false := by simp
               go_wp2_with (first
                | (go_at_call 11; (with_reducible refine (pl_sask HR.out x.cnt).mono ?_); rintro e w5 ⟨rfl, h5⟩; have y2 := cell_of_row _ _ 2 _ _ _ h5.out.bx)
                | (go_at_call 27; (with_reducible refine (pl_rask h5.out x.cnt).mono ?_); rintro e w6 ⟨rfl, h6⟩))
               go_meet
               exact ⟨n, 2, x.cnt, h6.out.s⟩
             · go_wp2_with (first
                | (go_at_call 11; (with_reducible refine (pl_saskno HR.out t5 x.cnt).mono ?_); rintro e w5 ⟨rfl, rfl⟩)
                | (go_at_call 27; (with_reducible refine (pl_raskno HR.out t5 x.cnt).mono ?_); rintro e w6 ⟨rfl, rfl⟩))
               go_meet
               exact ⟨n, s, c, HR.out.s⟩
           · by_cases t2 : (x.what == 2) = true
             · have hrbn := HR.out.s.rbn
               have hlt : bs < rb := by have := HR.out.s.lt; have := HR.out.s.lb; omega
               have hlo1 : w.heap.size ≤ bs := HR.out.s.lo
               have hlo2 : w.heap.size ≤ rb := by omega
               have hnes := HR.out.nes
               have HJ : Hid (PsJ w bs rb ab #[.int .i64 x.what, .bool x.known, .int .u64 x.cnt, .int .u64 x.fr, .int .u64 x.en, .slice ai I.length ci, .slice ag G.length cg, .bool x.last, .int .i64 x.room] w4.drew) := ⟨HR.out.s.x.drew, HR.out.bx, hrbn.2⟩
               have HSS : Hid (SsP bs (normP p) n s c w4.drew) := SsP.later HR.out.s.s (Ext.refl _).drew
               have HRS : Hid (RsP rb base nb (normP p) n s c w4.drew) := RsP.later HR.out.s.r (Ext.refl _).drew
               have hbb := HR.out.s.lt
               have hbn := HR.out.s.lb
               obtain ⟨R, hR⟩ : ∃ R, R = plPage (normP p) x.room x.en x.last (rowR G (I.map IM.pi)) n s c x.cnt := ⟨_, rfl⟩
               have HRE := Lib.hid hR
               clear hR
               go_upto_region 24 with fail
               refine Rk.wp_region_turns (PsJ w bs rb ab #[.int .i64 x.what, .bool x.known, .int .u64 x.cnt, .int .u64 x.fr, .int .u64 x.en, .slice ai I.length ci, .slice ag G.length cg, .bool x.last, .int .i64 x.room]) [0, 0, 0, 0, 0, 0, 0, 0, 0, 0, 0, 0, 0, 0, 0, 0, 1, 0, 0, 0, 0, 0, 0, 0, 2, 0, 0, 0] [Rk.FactK.eq (.pointer (some ⟨ab, 3, none⟩)),
                Rk.FactK.eq (.agg #[.int .u64 x.fr, .int .u64 x.en, .slice ai I.length ci, .slice ag G.length cg, .bool x.last]),
                FdP bs rb (rowR G (I.map IM.pi)),
                Rk.FactK.eq (.pointer (some ⟨ab, 3, none⟩)),
                Rk.FactK.eq (.agg #[.int .u64 x.fr, .int .u64 x.en, .slice ai I.length ci, .slice ag G.length cg, .bool x.last]),
                FdR bs rb w (rowR G (I.map IM.pi)),
                Rk.FactK.eq (.bool true),
                Rk.FactK.eq (.bool false),
                Rk.FactK.eq (.bool false),
                Rk.FactK.eq (.pointer (some ⟨bs, 0, none⟩)),
                Rk.FactK.eq (.pointer (some ⟨ab, 2, none⟩)),
                Rk.FactK.eq (.int .u64 x.cnt),
                Rk.FactK.eq (.pointer (some ⟨ab, 3, none⟩)),
                Rk.FactK.eq (.agg #[.int .u64 x.fr, .int .u64 x.en, .slice ai I.length ci, .slice ag G.length cg, .bool x.last]),
                Rk.FactK.eq (.pointer (some ⟨ab, 8, none⟩)),
                Rk.FactK.eq (.int .i64 x.room),
                FSp bs rb hlt (normP p) R.2.1 R.2.2 c R.1,
                Rk.FactK.eq (.pointer (some ⟨rb, 0, none⟩)),
                Rk.FactK.eq (.pointer (some ⟨ab, 2, none⟩)),
                Rk.FactK.eq (.int .u64 x.cnt),
                Rk.FactK.eq (.pointer (some ⟨ab, 3, none⟩)),
                Rk.FactK.eq (.agg #[.int .u64 x.fr, .int .u64 x.en, .slice ai I.length ci, .slice ag G.length cg, .bool x.last]),
                Rk.FactK.eq (.pointer (some ⟨ab, 8, none⟩)),
                Rk.FactK.eq (.int .i64 x.room),
                FRp bs rb base nb hbb hbn (normP p) R.2.1 R.2.2 c w R.1,
                Rk.FactK.eq (.bool true),
                Rk.FactK.eq (.bool false),
                Rk.FactK.eq (.bool false)]
                [Rk.FactK.any, Rk.FactK.any, Rk.FactK.any, Rk.FactK.any, Rk.FactK.any, Rk.FactK.any, Rk.FactK.any, Rk.FactK.any, Rk.FactK.any, Rk.FactK.any, Rk.FactK.any, Rk.FactK.any, Rk.FactK.any, Rk.FactK.any, Rk.FactK.any, Rk.FactK.any, GSs bs rb hlt (normP p) n s c, Rk.FactK.any, Rk.FactK.any, Rk.FactK.any, Rk.FactK.any, Rk.FactK.any, Rk.FactK.any, Rk.FactK.any, GRs bs rb base nb hbb hbn (normP p) n s c, Rk.FactK.any, Rk.FactK.any, Rk.FactK.any]
                [[], [(0, 99)], [(1, 100)], [], [(3, 102)], [(4, 103)], [(2, 101), (5, 104)], [(6, 105)], [(7, 106)], [(8, 107)], [(8, 107)], [(10, 109), (8, 107)], [(8, 107)], [(12, 111), (8, 107)], [(8, 107)], [(14, 113), (8, 107)], [(9, 108), (11, 110), (13, 112), (15, 114), (8, 107)], [(8, 107)], [(8, 107)], [(18, 117), (8, 107)], [(8, 107)], [(20, 119), (8, 107)], [(8, 107)], [(22, 121), (8, 107)], [(17, 116), (19, 118), (21, 120), (23, 122), (8, 107)], [(16, 115), (24, 123), (8, 107)], [(25, 124), (8, 107)], [(8, 107), (26, 125)]]
                [(0, 99), (1, 100), (2, 101), (3, 102), (4, 103), (5, 104), (6, 105), (7, 106), (8, 107), (9, 108), (10, 109), (11, 110), (12, 111), (13, 112), (14, 113), (15, 114), (16, 115), (17, 116), (18, 117), (19, 118), (20, 119), (21, 120), (22, 121), (23, 122), (24, 123), (25, 124), (26, 125), (27, 126)] (by kernel_rfl) (by kernel_rfl) rfl rfl rfl (HJ.out) (PsJ.st hlo1 hlo2 hnes.1 hnes.2) ?_ ?_ ?_
               · intro f hf; simp only [List.mem_cons, List.not_mem_nil, or_false] at hf; rcases hf with rfl | rfl | rfl | rfl | rfl | rfl | rfl | rfl | rfl | rfl | rfl | rfl | rfl | rfl | rfl | rfl | rfl | rfl | rfl | rfl | rfl | rfl | rfl | rfl | rfl | rfl | rfl | rfl
                 · exact True.intro
                 · exact True.intro
                 · exact True.intro
                 · exact True.intro
                 · exact True.intro
                 · exact True.intro
                 · exact True.intro
                 · exact True.intro
                 · exact True.intro
                 · exact True.intro
                 · exact True.intro
                 · exact True.intro
                 · exact True.intro
                 · exact True.intro
                 · exact True.intro
                 · exact True.intro
                 · exact HSS.out
                 · exact True.intro
                 · exact True.intro
                 · exact True.intro
                 · exact True.intro
                 · exact True.intro
                 · exact True.intro
                 · exact True.intro
                 · exact HRS.out
                 · exact True.intro
                 · exact True.intro
                 · exact True.intro
               · refine ⟨?_, ?_, ?_, ?_, ?_, ?_, ?_, ?_, ?_, ?_, ?_, ?_, ?_, ?_, ?_, ?_, ?_, ?_, ?_, ?_, ?_, ?_, ?_, ?_, ?_, ?_, ?_, ?_, trivial⟩
                 · intro w1 hx1 hg1; change wpList _ _ _ _ _ _; refine Rr.lift (fun _ _ h => h) ?_; go_wp2_with fail; exact ⟨rfl, Ext.refl _, rfl, rfl⟩
                 · rintro w1 hx1 hg1 _ rfl; change wpList _ _ _ _ _ _; refine Rr.lift (fun _ _ h => h) ?_; have m3 := cell_of_row _ _ 3 _ _ _ hx1.bx; have m4 := cell_of_row _ _ 4 _ _ _ hx1.bx; have m5 := cell_of_row _ _ 5 _ _ _ hx1.bx; have m6 := cell_of_row _ _ 6 _ _ _ hx1.bx; have m7 := cell_of_row _ _ 7 _ _ _ hx1.bx; go_wp2_with fail; exact ⟨rfl, Ext.refl _, rfl, rfl⟩
                 · rintro w1 hx1 hg1 _ rfl; change wpList _ _ _ _ _ _; refine Rr.lift (fun _ _ h => h) ?_; go_wp2_with fail; refine (sp_row hx1.x _ _ _ HIG.out.1 HIG.out.2.1 HIG.out.2.2.1 HIG.out.2.2.2.1 HIG.out.2.2.2.2).mono ?_; rintro e w9 ⟨v, rfl, hh⟩; go_wp2_with fail; exact ⟨rfl, hh.out.2, rfl, hh.out.1⟩
                 · intro w1 hx1 hg1; change wpList _ _ _ _ _ _; refine Rr.lift (fun _ _ h => h) ?_; go_wp2_with fail; exact ⟨rfl, Ext.refl _, rfl, rfl⟩
                 · rintro w1 hx1 hg1 _ rfl; change wpList _ _ _ _ _ _; refine Rr.lift (fun _ _ h => h) ?_; have m3 := cell_of_row _ _ 3 _ _ _ hx1.bx; have m4 := cell_of_row _ _ 4 _ _ _ hx1.bx; have m5 := cell_of_row _ _ 5 _ _ _ hx1.bx; have m6 := cell_of_row _ _ 6 _ _ _ hx1.bx; have m7 := cell_of_row _ _ 7 _ _ _ hx1.bx; go_wp2_with fail; exact ⟨rfl, Ext.refl _, rfl, rfl⟩
                 · rintro w1 hx1 hg1 _ rfl; change wpList _ _ _ _ _ _; refine Rr.lift (fun _ _ h => h) ?_; go_wp2_with fail; refine (rp_row hx1.x _ _ _ HIG.out.1 HIG.out.2.1 HIG.out.2.2.1 HIG.out.2.2.2.1).mono ?_; rintro e w9 ⟨v, rfl, hh⟩; go_wp2_with fail; exact ⟨rfl, hh.out.2, rfl, hh.out.1⟩
                 · intro w1 hx1 hg1; intro v101 h101; intro v104 h104; change wpList _ _ _ _ _ _; refine Rr.lift (fun _ _ h => h) ?_; go_wp2_with fail; refine (dsame_dd hx1.x h101 h104).mono ?_; rintro e w9 ⟨rfl, hx2⟩; go_wp2_with fail; exact ⟨rfl, hx2, rfl, rfl⟩
                 · rintro w1 hx1 hg1 _ rfl; change wpList _ _ _ _ _ _; refine Rr.lift (fun _ _ h => h) ?_; go_wp2_with fail; exact ⟨rfl, Ext.refl _, rfl, rfl⟩
                 · rintro w1 hx1 hg1 _ rfl; change wpList _ _ _ _ _ _; refine Rr.lift (fun _ _ h => h) ?_; exact ob_move rfl rfl rfl rfl rfl
                 · rintro w1 hx1 hg1 _ rfl; change wpList _ _ _ _ _ _; refine Rr.lift (fun _ _ h => h) ?_; exact ob_move rfl rfl rfl rfl rfl
                 · rintro w1 hx1 hg1 _ rfl; change wpList _ _ _ _ _ _; refine Rr.lift (fun _ _ h => h) ?_; go_wp2_with fail; exact ⟨rfl, Ext.refl _, rfl, rfl⟩
                 · rintro w1 hx1 hg1 _ rfl _ rfl; change wpList _ _ _ _ _ _; refine Rr.lift (fun _ _ h => h) ?_; have m2 := cell_of_row _ _ 2 _ _ _ hx1.bx; go_wp2_with fail; exact ⟨rfl, Ext.refl _, rfl, rfl⟩
                 · rintro w1 hx1 hg1 _ rfl; change wpList _ _ _ _ _ _; refine Rr.lift (fun _ _ h => h) ?_; go_wp2_with fail; exact ⟨rfl, Ext.refl _, rfl, rfl⟩
                 · rintro w1 hx1 hg1 _ rfl _ rfl; change wpList _ _ _ _ _ _; refine Rr.lift (fun _ _ h => h) ?_; have m3 := cell_of_row _ _ 3 _ _ _ hx1.bx; have m4 := cell_of_row _ _ 4 _ _ _ hx1.bx; have m5 := cell_of_row _ _ 5 _ _ _ hx1.bx; have m6 := cell_of_row _ _ 6 _ _ _ hx1.bx; have m7 := cell_of_row _ _ 7 _ _ _ hx1.bx; go_wp2_with fail; exact ⟨rfl, Ext.refl _, rfl, rfl⟩
                 · rintro w1 hx1 hg1 _ rfl; change wpList _ _ _ _ _ _; refine Rr.lift (fun _ _ h => h) ?_; go_wp2_with fail; exact ⟨rfl, Ext.refl _, rfl, rfl⟩
                 · rintro w1 hx1 hg1 _ rfl _ rfl; change wpList _ _ _ _ _ _; refine Rr.lift (fun _ _ h => h) ?_; have m8 := cell_of_row _ _ 8 _ _ _ hx1.bx; go_wp2_with fail; exact ⟨rfl, Ext.refl _, rfl, rfl⟩
                 · rintro w1 hx1 hg1 _ rfl _ rfl _ rfl _ rfl _ rfl; change wpList _ _ _ _ _ _; have hg2 : SsP bs (normP p) n s c w1 := hg1; go_wp2_with fail; refine (sp_page (rb := rb) hg2 hx1.x _ _ _ _ HIG.out.1 HIG.out.2.1 HIG.out.2.2.1 HIG.out.2.2.2.1 HIG.out.2.2.2.2 _).mono ?_; rintro e w9 ⟨v, rfl, hh⟩; rw [← HRE.out] at hh; go_wp2_with fail; exact ⟨rfl, hh.out.1, rfl, hh.out.2⟩
                 · rintro w1 hx1 hg1 _ rfl; change wpList _ _ _ _ _ _; refine Rr.lift (fun _ _ h => h) ?_; exact ob_move rfl rfl rfl rfl rfl
                 · rintro w1 hx1 hg1 _ rfl; change wpList _ _ _ _ _ _; refine Rr.lift (fun _ _ h => h) ?_; go_wp2_with fail; exact ⟨rfl, Ext.refl _, rfl, rfl⟩
                 · rintro w1 hx1 hg1 _ rfl _ rfl; change wpList _ _ _ _ _ _; refine Rr.lift (fun _ _ h => h) ?_; have m2 := cell_of_row _ _ 2 _ _ _ hx1.bx; go_wp2_with fail; exact ⟨rfl, Ext.refl _, rfl, rfl⟩
                 · rintro w1 hx1 hg1 _ rfl; change wpList _ _ _ _ _ _; refine Rr.lift (fun _ _ h => h) ?_; go_wp2_with fail; exact ⟨rfl, Ext.refl _, rfl, rfl⟩
                 · rintro w1 hx1 hg1 _ rfl _ rfl; change wpList _ _ _ _ _ _; refine Rr.lift (fun _ _ h => h) ?_; have m3 := cell_of_row _ _ 3 _ _ _ hx1.bx; have m4 := cell_of_row _ _ 4 _ _ _ hx1.bx; have m5 := cell_of_row _ _ 5 _ _ _ hx1.bx; have m6 := cell_of_row _ _ 6 _ _ _ hx1.bx; have m7 := cell_of_row _ _ 7 _ _ _ hx1.bx; go_wp2_with fail; exact ⟨rfl, Ext.refl _, rfl, rfl⟩
                 · rintro w1 hx1 hg1 _ rfl; change wpList _ _ _ _ _ _; refine Rr.lift (fun _ _ h => h) ?_; go_wp2_with fail; exact ⟨rfl, Ext.refl _, rfl, rfl⟩
                 · rintro w1 hx1 hg1 _ rfl _ rfl; change wpList _ _ _ _ _ _; refine Rr.lift (fun _ _ h => h) ?_; have m8 := cell_of_row _ _ 8 _ _ _ hx1.bx; go_wp2_with fail; exact ⟨rfl, Ext.refl _, rfl, rfl⟩
                 · rintro w1 hx1 hg1 _ rfl _ rfl _ rfl _ rfl _ rfl; change wpList _ _ _ _ _ _; have hg2 : RsP rb base nb (normP p) n s c w1 := hg1; go_wp2_with fail; refine (rp_page (bs := bs) hg2 hx1.x hlo2 _ _ _ _ HIG.out.1 HIG.out.2.1 HIG.out.2.2.1 HIG.out.2.2.2.1 _).mono ?_; rintro e w9 ⟨v, rfl, hh⟩; rw [← HRE.out] at hh; go_wp2_with fail; exact ⟨rfl, hh.out.1, rfl, hh.out.2⟩
                 · intro w1 hx1 hg1; intro v115 h115; intro v123 h123; rintro _ rfl; change wpList _ _ _ _ _ _; refine Rr.lift (fun _ _ h => h) ?_; go_wp2_with fail; refine (dsame_dd hx1.x h115.1 h123.1).mono ?_; rintro e w9 ⟨rfl, hx2⟩; go_wp2_with fail; exact ⟨rfl, hx2, rfl, rfl⟩
                 · rintro w1 hx1 hg1 _ rfl _ rfl; change wpList _ _ _ _ _ _; refine Rr.lift (fun _ _ h => h) ?_; go_wp2_with fail; exact ⟨rfl, Ext.refl _, rfl, rfl⟩
                 · rintro w1 hx1 hg1 _ rfl _ rfl; change wpList _ _ _ _ _ _; refine Rr.lift (fun _ _ h => h) ?_; exact ob_pick rfl rfl rfl rfl rfl rfl
               · rintro w1 hx1 _ rfl _ rfl; intro v101 h101; rintro _ rfl _ rfl; intro v104 h104; rintro _ rfl _ rfl _ rfl _ rfl _ rfl _ rfl _ rfl _ rfl _ rfl _ rfl; intro v115 h115; rintro _ rfl _ rfl _ rfl _ rfl _ rfl _ rfl _ rfl; intro v123 h123; rintro _ rfl _ rfl _ rfl; refine depsThen_nil ?_; dsimp only; simp only [Act.put, List.setIfInBounds_toArray, List.set_cons_zero, List.set_cons_succ]
                 replace h101 : (FdP bs rb (rowR G (I.map IM.pi))).p v101 w1 := h101
                 replace h104 : (FdR bs rb w (rowR G (I.map IM.pi))).p v104 w1 := h104
                 replace h115 : (FSp bs rb hlt (normP p) R.2.1 R.2.2 c R.1).p v115 w1 := h115
                 replace h123 : (FRp bs rb base nb hbb hbn (normP p) R.2.1 R.2.2 c w R.1).p v123 w1 := h123
                 have k1 : dP R.1 v115 w1 ∧ SsP bs (normP p) R.2.1 R.2.2 c w1 := h115
                 have k2 : dR w R.1 v123 w1 ∧ RsP rb base nb (normP p) R.2.1 R.2.2 c w1 := h123
                 have HPF : Hid (PlS w w1 bs rb base nb (normP p) R.2.1 R.2.2 c R.2.1 R.2.2 c) := ⟨k1.2, k2.2, hbb, hbn, hlo1, hx1.x⟩
                 clear k1 k2 h101 h104 h115 h123 hx1
                 go_wp2_with fail
                 go_meet
                 exact ⟨R.2.1, R.2.2, c, HPF.out⟩
             · by_cases t3 : (x.what == 3) = true
               · cases I with
                 | nil =>
                   go_wp2_with fail
                   go_meet
                   exact ⟨n, s, c, HR.out.s⟩
                 | cons y I2 =>
                   have hI0 : decide (((y :: I2).length : Int) > 0) = true := by simp
                   obtain ⟨m2, hm2⟩ : ∃ m2, m2 = (y :: I2).length := ⟨_, rfl⟩
                   have hri := HIG.out.1.row.ext HR.out.s.x
                   obtain ⟨B2, o2, rfl, _⟩ : ∃ B2 o2, ai = some ⟨B2, o2, none⟩ ∧ True := by
                    obtain ⟨B2, o2, e⟩ := Row.base hri (by simp) (by decide)
                    exact ⟨B2, o2, e, trivial⟩
                   have HZ : Hid (∀ W, Ext w W → W.cell? ⟨B2, o2, none⟩ = some (.int .u64 y.n) ∧ W.cell? ⟨B2, o2 + 1, none⟩ = some (.int .u64 y.t) ∧ W.cell? ⟨B2, o2 + 2, none⟩ = some (.string (strOf y.key)) ∧ W.cell? ⟨B2, o2 + 3, none⟩ = some (.slice y.ha y.av.length y.hc)) := fun W hW => by
                    have hr := HIG.out.1.row.ext hW
                    have z0 := Row.cellAt hr (j := 0) (u := .int .u64 y.n) rfl (by simp)
                    have z1 := Row.cellAt hr (j := 1) (u := .int .u64 y.t) rfl (by simp)
                    have z2 := Row.cellAt hr (j := 2) (u := .string (strOf y.key)) rfl (by simp)
                    have z3 := Row.cellAt hr (j := 3) (u := .slice y.ha y.av.length y.hc) rfl (by simp)
                    rw [Nat.add_zero] at z0
                    exact ⟨z0, z1, z2, z3⟩
                   obtain ⟨z0, z1, z2, z3⟩ := HZ.out w4 HR.out.s.x
                   have ha : Hid (AttrR w y.h y.av ∧ y.av.length * 56 ≤ 140737488355328) := ⟨HIG.out.1.hs y (List.mem_cons_self ..), HIG.out.2.2.2.2 y (List.mem_cons_self ..)⟩
                   have HM2 := Lib.hid hm2
                   rw [← hm2] at y5 hI0
                   have hI1 : 0 < m2 := by rw [hm2]; simp
                   have hI2 : decide (0 < m2) = true := decide_eq_true hI1
                   obtain ⟨R, hR⟩ : ∃ R, R = comesP (normP p) x.room y.pi n s := ⟨_, rfl⟩
                   have HRE := Lib.hid hR
                   have HR1 : Hid (R.1.length ≤ 1) := by
                    show _ ≤ _
                    rw [hR]
                    unfold comesP
                    split
                    · split
                      · exact Nat.zero_le _
                      · exact Nat.le_refl _
                    · exact Nat.zero_le _
                   clear hri hm2 hR
                   go_upto_region 28 with fail
                   refine wp_region_chain 8 [Fact.eq (.pointer (some ⟨bs, 0, none⟩)),
                    Fact.eq (.pointer (some ⟨ab, 3, none⟩)),
                    Fact.eq (.pointer (some ⟨ab, 5, none⟩)),
                    Fact.eq (.slice (some ⟨B2, o2, none⟩) m2 ci),
                    Fact.eq (.pointer (some ⟨B2, o2, none⟩)),
                    Fact.eq (.agg #[.int .u64 y.n, .int .u64 y.t, .string (strOf y.key), .slice y.ha y.av.length y.hc]),
                    Fact.eq (.pointer (some ⟨ab, 8, none⟩)),
                    Fact.eq (.int .i64 x.room)]
                    [[], [], [(1, 135)], [(2, 136)], [(3, 137)], [(4, 138)], [], [(6, 140)]]
                    [(0, 134), (1, 135), (2, 136), (3, 137), (4, 138), (5, 139), (6, 140), (7, 141)] (by kernel_rfl) (by kernel_rfl) ?_ ?_
                   · refine ⟨?_, ?_, ?_, ?_, ?_, ?_, ?_, ?_, trivial⟩
                     · intro w1 hx1; change wpList _ _ _ _ _ _; exact ob_move rfl rfl rfl rfl rfl
                     · intro w1 hx1; change wpList _ _ _ _ _ _; go_wp2_with fail; exact ⟨rfl, Ext.refl _, rfl, rfl⟩
                     · rintro w1 hx1 _ rfl; change wpList _ _ _ _ _ _; go_wp2_with fail; exact ⟨rfl, Ext.refl _, rfl, rfl⟩
                     · rintro w1 hx1 _ rfl; change wpList _ _ _ _ _ _; have m0 := hx1.cell y5; go_wp2_with fail; exact ⟨rfl, Ext.refl _, rfl, rfl⟩
                     · rintro w1 hx1 _ rfl; change wpList _ _ _ _ _ _; go_wp2_with fail; exact ⟨rfl, Ext.refl _, rfl, rfl⟩
                     · rintro w1 hx1 _ rfl; change wpList _ _ _ _ _ _; have m0 := hx1.cell z0; have m1 := hx1.cell z1; have m2 := hx1.cell z2; have m3 := hx1.cell z3; go_wp2_with fail; exact ⟨rfl, Ext.refl _, rfl, rfl⟩
                     · intro w1 hx1; change wpList _ _ _ _ _ _; go_wp2_with fail; exact ⟨rfl, Ext.refl _, rfl, rfl⟩
                     · rintro w1 hx1 _ rfl; change wpList _ _ _ _ _ _; have m0 := hx1.cell y8; go_wp2_with fail; exact ⟨rfl, Ext.refl _, rfl, rfl⟩
                   · rintro w1 hx1 _ rfl _ rfl _ rfl _ rfl _ rfl _ rfl _ rfl _ rfl; refine depsThen_nil ?_; dsimp only; simp only [Act.put, List.setIfInBounds_toArray, List.set_cons_zero, List.set_cons_succ, List.drop_succ_cons, List.drop_zero]
                     have HS1 : Hid (SsP bs (normP p) n s c w1) := SsP.later HR.out.s.s hx1
                     go_upto_region 29 with (go_at_call 14; (with_reducible refine (sp_comes HS1.out y ha.out.1 (HR.out.s.x.trans hx1) ha.out.2 x.room).mono ?_); rintro e w5 ⟨O, oa, oc, rfl, hO⟩)
                     rw [← HRE.out] at hO
                     have HA5 : Hid (PlA w w5 bs rb base nb (normP p) R.2.1 R.2.2 c n s c ab #[.int .i64 x.what, .bool x.known, .int .u64 x.cnt, .int .u64 x.fr, .int .u64 x.en, .slice (some ⟨B2, o2, none⟩) (y :: I2).length ci, .slice ag G.length cg, .bool x.last, .int .i64 x.room]) := (HR.out.later hx1).sturn hO.out.1 hO.out.2.2.2.2
                     have HNB : Hid (rb < w1.heap.size) := (HR.out.s.later hx1).rbn.2
                     obtain ⟨N, hN⟩ : ∃ N, N = w1.heap.size := ⟨_, rfl⟩
                     rw [← hN] at HNB
                     have HOO : Hid (O.map DM.pd = R.1 ∧ w5.ownsRow N 53 6 (.slice oa O.length oc) O.length (O.flatMap dmC) ∧ ∀ y ∈ O, AttrO N w5 y.h y.av) := by rw [hN]; exact ⟨hO.out.2.1, hO.out.2.2.1, hO.out.2.2.2.1⟩
                     have hO1 : O.length ≤ 1 := by have := HR1.out; rw [← HOO.out.1, List.length_map] at this; exact this
                     clear hO hx1 hN z0 z1 z2 z3 y0 y1 y2 y5 y8
                     obtain ⟨z0, z1, z2, z3⟩ := HZ.out w5 HA5.out.s.x
                     have y5 := cell_of_row _ _ 5 _ _ _ HA5.out.bx
                     have y8 := cell_of_row _ _ 8 _ _ _ HA5.out.bx
                     rw [← HM2.out] at y5
                     have hrbn := HA5.out.s.rbn
                     have hlt : bs < rb := by have := HA5.out.s.lt; have := HA5.out.s.lb; omega
                     have hlo1 : w.heap.size ≤ bs := HA5.out.s.lo
                     have hlo2 : w.heap.size ≤ rb := by omega
                     have hnes := HA5.out.nes
                     have hbb := HA5.out.s.lt
                     have hbn := HA5.out.s.lb
                     have HJ : Hid (PsJ w bs rb ab #[.int .i64 x.what, .bool x.known, .int .u64 x.cnt, .int .u64 x.fr, .int .u64 x.en, .slice (some ⟨B2, o2, none⟩) (y :: I2).length ci, .slice ag G.length cg, .bool x.last, .int .i64 x.room] w5.drew) := ⟨HA5.out.s.x.drew, HA5.out.bx, hrbn.2⟩
                     have HRS : Hid (RsP rb base nb (normP p) n s c w5.drew) := RsP.later HA5.out.s.r (Ext.refl _).drew
                     have HRW : Hid (rowsN bs (normP p) R.2.1 R.2.2 c N oa oc O w5.drew) := ⟨⟨own_ext HOO.out.2.1 (Ext.refl _).drew, fun y hy => own_ext (HOO.out.2.2 y hy) (Ext.refl _).drew⟩, SsP.later HA5.out.s.s (Ext.refl _).drew⟩
                     have HMP : Hid (O.map DM.pd = R.1) := HOO.out.1
                     refine Rk.wp_region_turns (PsJ w bs rb ab #[.int .i64 x.what, .bool x.known, .int .u64 x.cnt, .int .u64 x.fr, .int .u64 x.en, .slice (some ⟨B2, o2, none⟩) (y :: I2).length ci, .slice ag G.length cg, .bool x.last, .int .i64 x.room]) [0, 0, 0, 0, 0, 0, 0, 0, 0, 2, 0, 0] [FOw bs rb hlt (normP p) R.2.1 R.2.2 c N oa oc O,
                      Rk.FactK.eq (.pointer (some ⟨rb, 0, none⟩)),
                      Rk.FactK.eq (.pointer (some ⟨ab, 3, none⟩)),
                      Rk.FactK.eq (.pointer (some ⟨ab, 5, none⟩)),
                      Rk.FactK.eq (.slice (some ⟨B2, o2, none⟩) m2 ci),
                      Rk.FactK.eq (.pointer (some ⟨B2, o2, none⟩)),
                      Rk.FactK.eq (.agg #[.int .u64 y.n, .int .u64 y.t, .string (strOf y.key), .slice y.ha y.av.length y.hc]),
                      Rk.FactK.eq (.pointer (some ⟨ab, 8, none⟩)),
                      Rk.FactK.eq (.int .i64 x.room),
                      FRp bs rb base nb hbb hbn (normP p) R.2.1 R.2.2 c w R.1,
                      Rk.FactK.eq (.bool true),
                      Rk.FactK.eq (.bool false)]
                      [GOw bs rb hlt (normP p) R.2.1 R.2.2 c N oa oc O, Rk.FactK.any, Rk.FactK.any, Rk.FactK.any, Rk.FactK.any, Rk.FactK.any, Rk.FactK.any, Rk.FactK.any, Rk.FactK.any, GRs bs rb base nb hbb hbn (normP p) n s c, Rk.FactK.any, Rk.FactK.any]
                      [[], [], [], [(2, 145)], [(3, 146)], [(4, 147)], [(5, 148)], [], [(7, 150)], [(1, 144), (6, 149), (8, 151)], [(0, 143), (9, 152)], [(10, 153)]]
                      [(0, 143), (1, 144), (2, 145), (3, 146), (4, 147), (5, 148), (6, 149), (7, 150), (8, 151), (9, 152), (10, 153), (11, 154)] (by kernel_rfl) (by kernel_rfl) rfl rfl rfl (HJ.out) (PsJ.st hlo1 hlo2 hnes.1 hnes.2) ?_ ?_ ?_
                     · intro f hf; simp only [List.mem_cons, List.not_mem_nil, or_false] at hf; rcases hf with rfl | rfl | rfl | rfl | rfl | rfl | rfl | rfl | rfl | rfl | rfl | rfl
                       · exact HRW.out
                       · exact True.intro
                       · exact True.intro
                       · exact True.intro
                       · exact True.intro
                       · exact True.intro
                       · exact True.intro
                       · exact True.intro
                       · exact True.intro
                       · exact HRS.out
                       · exact True.intro
                       · exact True.intro
                     · refine ⟨?_, ?_, ?_, ?_, ?_, ?_, ?_, ?_, ?_, ?_, ?_, ?_, trivial⟩
                       · intro w1 hx1 hg1; change wpList _ _ _ _ _ _; refine Rr.lift (fun _ _ h => h) ?_; have hg2 : rowsN bs (normP p) R.2.1 R.2.2 c N oa oc O w1 := hg1; go_wp2_with fail; exact ⟨rfl, Ext.refl _, rfl, rfl, hg2⟩
                       · intro w1 hx1 hg1; change wpList _ _ _ _ _ _; refine Rr.lift (fun _ _ h => h) ?_; exact ob_move rfl rfl rfl rfl rfl
                       · intro w1 hx1 hg1; change wpList _ _ _ _ _ _; refine Rr.lift (fun _ _ h => h) ?_; go_wp2_with fail; exact ⟨rfl, Ext.refl _, rfl, rfl⟩
                       · rintro w1 hx1 hg1 _ rfl; change wpList _ _ _ _ _ _; refine Rr.lift (fun _ _ h => h) ?_; go_wp2_with fail; exact ⟨rfl, Ext.refl _, rfl, rfl⟩
                       · rintro w1 hx1 hg1 _ rfl; change wpList _ _ _ _ _ _; refine Rr.lift (fun _ _ h => h) ?_; have m5 := cell_of_row _ _ 5 _ _ _ hx1.bx; rw [← HM2.out] at m5; go_wp2_with fail; exact ⟨rfl, Ext.refl _, rfl, rfl⟩
                       · rintro w1 hx1 hg1 _ rfl; change wpList _ _ _ _ _ _; refine Rr.lift (fun _ _ h => h) ?_; go_wp2_with fail; exact ⟨rfl, Ext.refl _, rfl, rfl⟩
                       · rintro w1 hx1 hg1 _ rfl; change wpList _ _ _ _ _ _; refine Rr.lift (fun _ _ h => h) ?_; obtain ⟨m0, m1, m2, m3⟩ := HZ.out w1 hx1.x; go_wp2_with fail; exact ⟨rfl, Ext.refl _, rfl, rfl⟩
                       · intro w1 hx1 hg1; change wpList _ _ _ _ _ _; refine Rr.lift (fun _ _ h => h) ?_; go_wp2_with fail; exact ⟨rfl, Ext.refl _, rfl, rfl⟩
                       · rintro w1 hx1 hg1 _ rfl; change wpList _ _ _ _ _ _; refine Rr.lift (fun _ _ h => h) ?_; have m8 := cell_of_row _ _ 8 _ _ _ hx1.bx; go_wp2_with fail; exact ⟨rfl, Ext.refl _, rfl, rfl⟩
                       · rintro w1 hx1 hg1 _ rfl _ rfl _ rfl; change wpList _ _ _ _ _ _; have hg2 : RsP rb base nb (normP p) n s c w1 := hg1; go_wp2_with fail; refine (rp_comes hg2 y ha.out.1 hx1.x x.room).mono ?_; rintro e w9 ⟨v, rfl, hh⟩; rw [← HRE.out] at hh; go_wp2_with fail; exact ⟨rfl, ⟨hh.out.1, rp_type hg2, rp_type hh.out.2.2⟩, rfl, hh.out.2⟩
                       · intro w1 hx1 hg1; intro v143 h143; intro v152 h152; change wpList _ _ _ _ _ _; refine Rr.lift (fun _ _ h => h) ?_; obtain ⟨rfl, hrw⟩ := h143; go_wp2_with fail; refine (dsame_dd hx1.x (hrw.dp HMP.out) h152.1).mono ?_; rintro e w9 ⟨rfl, hx2⟩; go_wp2_with fail; exact ⟨rfl, hx2, rfl, rfl⟩
                       · rintro w1 hx1 hg1 _ rfl; change wpList _ _ _ _ _ _; refine Rr.lift (fun _ _ h => h) ?_; go_wp2_with fail; exact ⟨rfl, Ext.refl _, rfl, rfl⟩
                     · intro w1 hx1; intro v143 h143; rintro _ rfl _ rfl _ rfl _ rfl _ rfl _ rfl _ rfl _ rfl; intro v152 h152; rintro _ rfl _ rfl; refine depsThen_nil ?_; dsimp only; simp only [Act.put, List.setIfInBounds_toArray, List.set_cons_zero, List.set_cons_succ]
                       replace h143 : (FOw bs rb hlt (normP p) R.2.1 R.2.2 c N oa oc O).p v143 w1 := h143
                       replace h152 : (FRp bs rb base nb hbb hbn (normP p) R.2.1 R.2.2 c w R.1).p v152 w1 := h152
                       obtain ⟨rfl, hrw⟩ : v143 = .slice oa O.length oc ∧ rowsN bs (normP p) R.2.1 R.2.2 c N oa oc O w1 := h143
                       have k2 : dR w R.1 v152 w1 ∧ RsP rb base nb (normP p) R.2.1 R.2.2 c w1 := h152
                       have HSW : Hid (SpW w w1 bs rb base nb (normP p) R.2.1 R.2.2 c N (.slice oa O.length oc) O) := ⟨⟨hrw.2, k2.2, hbb, hbn, hlo1, hx1.x⟩, HNB.out, hrw.1.1, fun y hy => ⟨y.av, rfl, hrw.1.2 y hy⟩⟩
                       clear k2 h152 hrw hx1 z0 z1 z2 z3 y5 y8 HOO HA5 HJ HRS HRW
                       go_wp2_with fail
                       go_loopw [157] (fun jv wq => ∃ j : Nat, jv = .int .i64 j ∧ j ≤ O.length ∧ Hid (SpW w wq bs rb base nb (normP p) R.2.1 R.2.2 c N (.slice oa O.length oc) O)) (fun jv _ => O.length - (intOf jv).toNat)
                       case atStart => exact ⟨0, rfl, Nat.zero_le _, HSW.out⟩
                       case round =>
                        clear HSW
                        obtain ⟨j, rfl, hj, hW⟩ := hrel
                        by_cases hjO : j < O.length
                        · have hJ : decide ((j : Int) < (O.length : Int)) = true := decide_eq_true (by omega)
                          obtain ⟨Bo, oo, rfl, t0, t1, t2, t3, t4, t5⟩ := (Row.of_own hW.out.row).atD hjO
                          obtain ⟨d, hd⟩ : ∃ d, d = O[j] := ⟨_, rfl⟩
                          have hdm : d ∈ O := by rw [hd]; exact List.getElem_mem hjO
                          rw [← hd] at t0 t1 t2 t3 t4 t5
                          clear hd
                          obtain ⟨hx9, hb9⟩ := boxes1 wr (.cells #[.int .u64 d.n, .int .u64 d.t, .string (strOf d.key), .slice d.ha d.av.length d.hc, .int .u64 d.f, .int .u64 d.g] 53)
                          have hdl : d.av.length ≤ 9223372036854775807 := by
                           obtain ⟨l2, e2, hr2⟩ := hW.out.hat d hdm
                           have := own_len_le hr2
                           unfold maxLen at this
                           exact this
                          obtain ⟨ln, hln⟩ : ∃ ln, ln = d.av.length := ⟨_, rfl⟩
                          rw [← hln] at hx9 hb9 hdl t3
                          have HW9 := Lib.hid (hW.out.later hx9)
                          have HB9 := Lib.hid hb9
                          have b3 := cell_of_row _ _ 3 _ _ _ hb9
                          have HLN := Lib.hid hln
                          clear hx9 hb9 hln
                          go_upto_region 34 with fail
                          clear t0 t1 t2 t3 t4 t5 hW
                          generalize hw9 : wr.alloc (.cells #[.int .u64 d.n, .int .u64 d.t, .string (strOf d.key), .slice d.ha ln d.hc, .int .u64 d.f, .int .u64 d.g] 53) = w9 at *
                          generalize wr.heap.size = bx at *
                          clear hw9
                          go_wp2_with fail
                          go_loopw [166] (fun kv wq => ∃ k : Nat, kv = .int .i64 k ∧ k ≤ ln ∧ Hid (SpW w wq bs rb base nb (normP p) R.2.1 R.2.2 c N (.slice (some ⟨Bo, oo, none⟩) O.length oc) O ∧ wq.heap[bx]? = some (.cells #[.int .u64 d.n, .int .u64 d.t, .string (strOf d.key), .slice d.ha ln d.hc, .int .u64 d.f, .int .u64 d.g] 53 (0, 0)))) (fun kv _ => ln - (intOf kv).toNat)
                          case atStart => exact ⟨0, rfl, Nat.zero_le _, HW9.out, HB9.out⟩
                          case round =>
                           clear HW9 HB9 b3
                           obtain ⟨k, rfl, hk, hq⟩ := hrel
                           by_cases hkl : k < ln
                           · have hK : decide ((k : Int) < (ln : Int)) = true := decide_eq_true (by omega)
                             obtain ⟨Bq, hBq, ⟨u, hu⟩, hz, ⟨cs, hcs⟩, hS⟩ := hq.out.1.spoil hO1 hdm (k := k) (by rw [← HLN.out]; exact hkl) [115, 112, 111, 105, 108, 116]
                             have hb := hq.out.2
                             rw [hBq] at hb
                             have b3 := cell_of_row _ _ 3 _ _ _ hb
                             have hne : bx ≠ Bq := fun e => by
                              subst e
                              have := hcs.symm.trans hb
                              simp at this
                             have HS : Hid (SpW w (wr.setCell ⟨Bq, k * 5, none⟩ (.string ⟨#[115, 112, 111, 105, 108, 116]⟩)) bs rb base nb (normP p) R.2.1 R.2.2 c N (.slice (some ⟨Bo, oo, none⟩) O.length oc) O) := hS
                             have HBX : Hid ((wr.setCell ⟨Bq, k * 5, none⟩ (.string ⟨#[115, 112, 111, 105, 108, 116]⟩)).heap[bx]? = some (.cells #[.int .u64 d.n, .int .u64 d.t, .string (strOf d.key), .slice d.ha ln d.hc, .int .u64 d.f, .int .u64 d.g] 53 (0, 0))) := (setCell_block_far wr ⟨Bq, k * 5, none⟩ _ bx hne).trans hq.out.2
                             clear hq hS hcs hne hb
                             go_wp2_with fail
                             go_roundw
                             case rel => exact ⟨k + 1, by rw [Int.natCast_add]; rfl, by omega, HS.out, HBX.out⟩
                             case measure => simp [intOf]; omega
                           · have hK : decide ((k : Int) < (ln : Int)) = false := decide_eq_false (by omega)
                             have HQ := Lib.hid hq.out.1
                             clear hq
                             go_wp2_with fail
                             go_roundw
                             case rel => exact ⟨j + 1, by rw [Int.natCast_add]; rfl, by omega, HQ.out⟩
                             case measure => simp [intOf]; omega
                        · have hJ : decide ((j : Int) < (O.length : Int)) = false := decide_eq_false (by omega)
                          go_wp2_with fail
                          go_meet
                          exact ⟨R.2.1, R.2.2, c, hW.out.s⟩
               · go_wp2_with fail
                 go_meet
                 exact ⟨n, s, c, HR.out.s⟩
        case rest =>
         obtain ⟨n, s, c, hP⟩ := hcut.out
         have HP2 := Lib.hid hP
         obtain ⟨w0, pv, S⟩ := hP.s
         obtain ⟨w1q, pv2, RR, _, _⟩ := hP.r
         have HSP := Lib.hid S.sp
         have HRP := Lib.hid RR.sp
         have qs : ((s : Int) != (s : Int)) = false := by simp
         have qn : ((n : Int) != (n : Int)) = false := by simp
         have CN : Hid (∀ W, Ext wc W → Calls Tryz.prog 12 #[.pointer (some ⟨bs, 0, none⟩)] W fun e w' => e = .returned (.int .u64 (n : Nat)) ∧ Ext W w') := fun W hW => (snext_any W bs pv n s c (block_later HSP.out hW)).mono fun _ _ ⟨k1, k2⟩ => ⟨k1, k2 ▸ Ext.refl _⟩
         clear hP hcut S RR HR y0 y1 y2 y5 y8 HIG
         go_upto_region 40 with fail
         refine wp_region_facts [Fact.eq (.pointer (some ⟨bs, 0, none⟩)),
          Fact.eq (.int .i64 s),
          Fact.eq (.pointer (some ⟨rb, 0, none⟩)),
          Fact.eq (.pointer (some ⟨rb, 0, none⟩)),
          Fact.eq (.pointer (some ⟨rb, 2, none⟩)),
          Fact.eq (.int .i64 s),
          Fact.eq (.bool false),
          Fact.eq (.bool false),
          Fact.eq (.pointer (some ⟨bs, 0, none⟩)),
          Fact.eq (.int .u64 (n : Nat)),
          Fact.eq (.pointer (some ⟨rb, 0, none⟩)),
          Fact.eq (.pointer (some ⟨rb, 0, none⟩)),
          Fact.eq (.pointer (some ⟨rb, 1, none⟩)),
          Fact.eq (.int .u64 (n : Nat)),
          Fact.eq (.bool false),
          Fact.eq (.bool false)]
          [[], [(0, 178)], [], [(2, 180)], [(3, 181)], [(4, 182)], [(1, 179), (5, 183)], [(6, 184)], [(7, 185)], [(8, 186), (7, 185)], [(7, 185)], [(10, 188), (7, 185)], [(11, 189), (7, 185)], [(12, 190), (7, 185)], [(9, 187), (13, 191), (7, 185)], [(7, 185), (14, 192)]]
          [(0, 178), (1, 179), (2, 180), (3, 181), (4, 182), (5, 183), (6, 184), (7, 185), (8, 186), (9, 187), (10, 188), (11, 189), (12, 190), (13, 191), (14, 192), (15, 193)] (by kernel_rfl) (by kernel_rfl) ?_ ?_
         · refine ⟨?_, ?_, ?_, ?_, ?_, ?_, ?_, ?_, ?_, ?_, ?_, ?_, ?_, ?_, ?_, ?_, trivial⟩
           · intro w1 hx1; change wpList _ _ _ _ _ _; exact ob_move rfl rfl rfl rfl rfl
           · rintro w1 hx1 _ rfl; change wpList _ _ _ _ _ _; go_wp2_with fail; refine (sstate_ext _ bs pv n s c (block_later HSP.out hx1)).mono ?_; rintro e w2 ⟨rfl, hx2⟩; go_wp2_with fail; exact ⟨rfl, hx2, rfl, rfl⟩
           · intro w1 hx1; change wpList _ _ _ _ _ _; exact ob_move rfl rfl rfl rfl rfl
           · rintro w1 hx1 _ rfl; change wpList _ _ _ _ _ _; go_wp2_with fail; exact ⟨rfl, Ext.refl _, rfl, rfl⟩
           · rintro w1 hx1 _ rfl; change wpList _ _ _ _ _ _; go_wp2_with fail; exact ⟨rfl, Ext.refl _, rfl, rfl⟩
           · rintro w1 hx1 _ rfl; change wpList _ _ _ _ _ _; have m2 := cell_of_row _ _ 2 _ _ _ (block_later HRP.out hx1); go_wp2_with fail; exact ⟨rfl, Ext.refl _, rfl, rfl⟩
           · rintro w1 hx1 _ rfl _ rfl; change wpList _ _ _ _ _ _; go_wp2_with fail; exact ⟨rfl, Ext.refl _, rfl, rfl⟩
           · rintro w1 hx1 _ rfl; change wpList _ _ _ _ _ _; exact ob_move rfl rfl rfl rfl rfl
           · rintro w1 hx1 _ rfl; change wpList _ _ _ _ _ _; exact ob_move rfl rfl rfl rfl rfl
           · rintro w1 hx1 _ rfl _ rfl; change wpList _ _ _ _ _ _; go_wp2_with fail; refine (CN.out _ hx1).mono ?_; rintro e w2 ⟨rfl, hx2⟩; go_wp2_with fail; exact ⟨rfl, hx2, rfl, rfl⟩
           · rintro w1 hx1 _ rfl; change wpList _ _ _ _ _ _; exact ob_move rfl rfl rfl rfl rfl
           · rintro w1 hx1 _ rfl _ rfl; change wpList _ _ _ _ _ _; go_wp2_with fail; exact ⟨rfl, Ext.refl _, rfl, rfl⟩
           · rintro w1 hx1 _ rfl _ rfl; change wpList _ _ _ _ _ _; go_wp2_with fail; exact ⟨rfl, Ext.refl _, rfl, rfl⟩
           · rintro w1 hx1 _ rfl _ rfl; change wpList _ _ _ _ _ _; have m1 := cell_of_row _ _ 1 _ _ _ (block_later HRP.out hx1); go_wp2_with fail; exact ⟨rfl, Ext.refl _, rfl, rfl⟩
           · rintro w1 hx1 _ rfl _ rfl _ rfl; change wpList _ _ _ _ _ _; go_wp2_with fail; exact ⟨rfl, Ext.refl _, rfl, rfl⟩
           · rintro w1 hx1 _ rfl _ rfl; change wpList _ _ _ _ _ _; exact ob_pick rfl rfl rfl rfl rfl rfl
         · rintro w1 hx1 _ rfl _ rfl _ rfl _ rfl _ rfl _ rfl _ rfl _ rfl _ rfl _ rfl _ rfl _ rfl _ rfl _ rfl _ rfl _ rfl; refine depsThen_nil ?_; dsimp only; simp only [Act.put, List.setIfInBounds_toArray, List.set_cons_zero, List.set_cons_succ]
           go_wp2_with fail
           go_roundw
           case rel => exact ⟨i + 1, by rw [Int.natCast_add]; rfl, by omega, by omega, n, s, c, HP2.out.later hx1⟩
           case measure => simp [intOf]; omega
    · have hI : decide ((i : Int) < (us.length : Int)) = false := decide_eq_false (by omega)
      go_wp2_with fail
      go_ret
      exact ⟨rfl, HPL.out.x⟩
 · obtain ⟨e0, C1, C2⟩ : ∃ e0 : Int, (∀ W v, PredR W v p → Calls Tryz.prog 7 #[v, .int .u64 next] W fun e w' => e = .returned (.tuple #[.pointer none, .int .i64 e0]) ∧ Ext W w') ∧ (∀ W v, PredR W v p → Calls Tryz.prog 25 #[v, .int .u64 next] W fun e w' => e = .returned (.tuple #[.pointer none, .int .i64 e0]) ∧ Ext W w') := by
    by_cases hm : mayP p = true
    · have hn : next < 1 ∨ 1099511627777 < next := by
       by_cases h1 : 1 ≤ next
       · by_cases h2 : next ≤ 1099511627777
         · exact absurd ⟨hm, h1, h2⟩ hgood
         · right; omega
       · left; omega
      exact ⟨1, fun W v hv => new_arg W v p hv hm next hn, fun W v hv => rnew_arg W v p hv hm next hn⟩
    · have hm' : mayP p = false := by simpa using hm
      exact ⟨30, fun W v hv => new_may W v p hv hm' next, fun W v hv => rnew_may W v p hv hm' next⟩
   have HC1 := Lib.hid C1
   have HC2 := Lib.hid C2
   have qe : ((e0 : Int) != (e0 : Int)) = false := by simp
   clear C1 C2 hgood
   go_enter Tryz.func6, Tryz.ntmps6
   go_wp2_with (first
    | (go_at_call 8; (with_reducible refine (awake26_any _).mono ?_); rintro e w1 ⟨rfl, hx1⟩)
    | (go_at_call 24; refine (own04_own _ _ p (HP.out.ext hx1) HSZ.out.1 HSZ.out.2).mono ?_; rintro e w2 ⟨v2, us2, rfl, hus2, ho2, hset2, hx2⟩; have hpr2 : PredR w2 v2 p := (by rw [← hus2]; exact PredR.mk us2 (Row.of_own ho2) fun x hm => (hset2 x hm).set); obtain ⟨a2, cc2, rfl, _, _⟩ := own_shape ho2)
    | (go_at_call 7; refine (HC1.out w2 _ hpr2).mono ?_; rintro e w3 ⟨rfl, hx3⟩)
    | (go_at_call 25; refine (HC2.out w3 _ (((HP.out.ext hx1).ext hx2).ext hx3)).mono ?_; rintro e w4 ⟨rfl, hx4⟩))
   go_ret
   exact ⟨rfl, ((hx1.trans hx2).trans hx3).trans hx4⟩
end Go.Proofs.YtaklnpjpndkccaaGreat
