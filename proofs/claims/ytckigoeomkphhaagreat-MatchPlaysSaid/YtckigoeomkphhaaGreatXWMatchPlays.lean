/- The walk through MatchPlays. -/
import Derived.Test.YtckigoeomkphhaaGreatPk14
import Derived.Test.YtckigoeomkphhaaGreatPk12
import Derived.Test.YtckigoeomkphhaaGreatPk13
namespace Go.Proofs.YtckigoeomkphhaaGreat
open Go.RowKit Go.MapKept

theorem Ix.mapsP {w : World} {base b bp bq : Nat} {R : SP} (h : Ix w base b bp bq R) : ∀ q, Two2 bp bq q → ∃ es c, w.heap[q]? = some (.map es c) := by
  obtain ⟨S, Q, hi, _⟩ := h.ex
  exact hi.maps
theorem predOf_get {R : SP} {L : List PE} (hS : RelSL R (sS L)) {k : PE} (hk : k ∈ L) : predOf R k.id = k.p := by
  have h1 : (k.id, k.p) ∈ R := hS.1.mem_iff.1 (List.mem_map.2 ⟨k, hk, rfl⟩)
  have h2 := predOf_mem (hasS_iff.2 ⟨_, h1, rfl⟩)
  obtain ⟨i, hi, ei⟩ := List.getElem_of_mem h1
  obtain ⟨j, hj, ej⟩ := List.getElem_of_mem h2
  have hp := List.pairwise_iff_getElem.1 (List.pairwise_map.1 hS.nodup)
  rcases Nat.lt_trichotomy i j with h | h | h
  · exact absurd (by rw [ei, ej]) (hp i j hi hj h)
  · subst h
    rw [ei] at ej
    exact (congrArg Prod.snd ej).symm
  · exact absurd (by rw [ei, ej]) (hp j i hj hi h)
theorem sS_ids (L : List PE) : ((sS L).map (·.1)).length = L.length := by rw [List.length_map, sS_len]
def Fact.slen (n : Nat) : Fact := ⟨fun v _ => ∃ a c, v = .slice a n c, fun _ _ _ _ h => h⟩
def Fact.intR (l : List Int) : Fact := ⟨fun v w => IntR w v l, fun _ _ _ hx h => h.ext hx⟩

set_option maxRecDepth 100000 in
set_option maxHeartbeats 32000000 in
theorem matchPlays_walk (W : World) (v0 : Value) (us : List AE) (hu : ActsR W v0 us) (hok : ∀ x ∈ us, okAE x) :
    Calls Tryz.prog 4 #[v0] W fun e W' => e = .returned (.bool true) ∧ Ext W W' := by
  obtain ⟨a0, c0, rfl, hc0, hm0⟩ := Row.shape hu.row
  unfold maxLen at hm0
  obtain ⟨N, hN⟩ : ∃ N, N = us.length := ⟨_, rfl⟩
  have HN := Lib.hid hN
  rw [← hN] at hu hc0 ⊢
  have HU := Lib.hid hu
  have HOK := Lib.hid hok
  clear hN hu hok
  go_enter Tryz.func4, Tryz.ntmps4
  go_upto_region 3 with (go_at_call 6; (with_reducible refine (awake08_any W).mono ?_); rintro e w1 ⟨rfl, hx⟩; have HX1 := Lib.hid hx; clear hx)
  go_upto_region 4 with (go_at_call 7; (with_reducible refine (ix_new w1).mono ?_); rintro e w2 ⟨b, bp, bq, rfl, hi, hx⟩; have HI := Lib.hid hi; have HX := Lib.hid hx; clear hi hx)
  obtain ⟨hxa, hba⟩ := boxes1 w2 (.cells #[.slice none 0 0] 43)
  have HB0 : Hid (PlB W w1.heap.size b bp bq w2.heap.size [] (w2.alloc (.cells #[.slice none 0 0] 43))) :=
    ⟨HI.out.ext hxa, ⟨⟨.slice none 0 0, [], ⟨hba, own_none _ _ _ _, fun _ h => (by cases h)⟩, RelSL.nil, Nat.zero_le _⟩, Nat.le_trans HX.out.size hxa.size, HX.out.size, fun _ h => (by cases h)⟩, (HX1.out.trans HX.out).trans hxa, HX1.out.size, fun _ h => (by cases h)⟩
  clear hxa hba HI HX HX1
  generalize w2.alloc (.cells #[.slice none 0 0] 43) = w3 at *
  generalize w2.heap.size = rb at *
  generalize w1.heap.size = base at *
  obtain ⟨m, hm⟩ : ∃ m, m = min N 300 := ⟨_, rfl⟩
  have hmN : m ≤ N := by omega
  have hm3 : m ≤ 300 := by omega
  have HF3 : Hid (m = 300 ∨ m = N) := by show _ ∨ _; omega
  clear hm
  go_upto_block 0 with fail
  go_cut [5, 6, 7, 8, 9, 10, 11, 12, 13] from 23 to 145 (fun _ _ _ _ _ _ _ _ _ wc => ∃ R, Hid (PlB W base b bp bq rb R wc))
  case first =>
    go_wp2_with fail
    go_loopw [23] (fun i wr => ∃ (k : Nat) (R : SP), k ≤ m ∧ i = .int .i64 k ∧ Hid (PlB W base b bp bq rb R wr)) (fun i _ => m - (intOf i).toNat)
    case atStart => exact ⟨0, [], Nat.zero_le _, rfl, HB0.out⟩
    case round =>
      clear HB0
      obtain ⟨k, R, hk, rfl, hB⟩ := hrel
      by_cases hlt : k < m
      · have hI : decide ((k : Int) < (N : Int)) = true := decide_eq_true (by omega)
        have hkN : (k : Int) < (N : Int) := by omega
        have hk3 : ((k : Int) == 300) = false := beq_eq_false_iff_ne.2 (by omega)
        have hkl : k < us.length := by have := HN.out; omega
        obtain ⟨B, o, rfl, f0, f1, f2, f3, f4⟩ := (HU.out.ext hB.out.ext).at hkl
        have hpr := HU.out.hs _ (List.getElem_mem hkl)
        have hls := HU.out.ls _ (List.getElem_mem hkl)
        have hoke := HOK.out _ (List.getElem_mem hkl)
        generalize us[k] = x at *
        obtain ⟨what, id, h, p, key, va, l⟩ := x
        obtain ⟨hid, hsets, hplen, hnames⟩ := hoke
        dsimp only at f0 f1 f2 f3 f4 hpr hls hid hsets hplen hnames
        obtain ⟨ap, cp, rfl, _, _⟩ := hpr.shape
        obtain ⟨av, cv, rfl, _, _⟩ := Row.shape hls
        have HP := Lib.hid hpr
        have HL := Lib.hid hls
        have HID := Lib.hid hid
        have HSETS := Lib.hid hsets
        have HNM := Lib.hid hnames
        obtain ⟨pl, hpl⟩ : ∃ pl, pl = p.length := ⟨_, rfl⟩
        have HPL := Lib.hid hpl
        rw [← hpl] at HP f2 hplen
        obtain ⟨ln, hln⟩ : ∃ ln, ln = l.length := ⟨_, rfl⟩
        rw [← hln] at HL f4
        clear hpr hls hid hsets hpl hln hnames
        go_upto_region 7 with fail
        obtain ⟨hxa, hba⟩ := boxes1 wr (.cells #[.int .i64 what, .int .i64 id, .slice ap pl cp, .string (strOf key), .slice av ln cv] 45)
        have HB1 := Lib.hid (hB.out.later hxa)
        have HA1 := Lib.hid hba
        clear f0 f1 f2 f3 f4 hxa hba hB
        generalize wr.alloc (.cells #[.int .i64 what, .int .i64 id, .slice ap pl cp, .string (strOf key), .slice av ln cv] 45) = wa at *
        generalize wr.heap.size = ab at *
        have a0 := cell_of_row _ _ 0 _ _ _ HA1.out
        go_upto_block 2 with fail
        go_cut [7, 8] from 32 to 96 (fun _ _ wc => ∃ R', Hid (PlB W base b bp bq rb R' wc) ∧ Hid (wc.heap[ab]? = some (.cells #[.int .i64 what, .int .i64 id, .slice ap pl cp, .string (strOf key), .slice av ln cv] 45 (0, 0))))
        case first =>
          have a1 := cell_of_row _ _ 1 _ _ _ HA1.out
          have a2 := cell_of_row _ _ 2 _ _ _ HA1.out
          by_cases h0 : what = 0
          · subst h0
            have HO := Lib.hid (own04_own wa _ p (HP.out.ext HB1.out.ext) HSETS.out (by rw [← HPL.out]; exact hplen))
            go_upto_region 11 with (go_at_call 14; (with_reducible refine HO.out.mono ?_); rintro e wo ⟨v7, us7, rfl, hus, hown, hset, hx⟩; have HUS := Lib.hid hus; have HOWN := Lib.hid hown; have HSET := Lib.hid hset; have HX := Lib.hid hx; clear hus hown hset hx)
            have hpt : PredT wa.heap.size wo v7 p := ⟨us7, HUS.out, HOWN.out, HSET.out⟩
            have hxg := IxG.of (o := v7.ownBlock) HB1.out.ix (own_base HOWN.out)
            have hrg := RIxG.of (o := v7.ownBlock) HB1.out.rx (own_base HOWN.out)
            obtain ⟨a7, c7, rfl, _, _⟩ := hpt.pred.shape
            rw [← HPL.out] at hpt hxg hrg ⊢
            have HG := Lib.hid (hxg.ext HX.out)
            have HRG := Lib.hid (hrg.ext HX.out)
            have HJ : Hid (PlJ W ab #[.int .i64 0, .int .i64 id, .slice ap pl cp, .string (strOf key), .slice av ln cv] wa.heap.size (.slice a7 pl c7) p wo) := ⟨HB1.out.ext.trans HX.out, block_later HA1.out HX.out, hpt⟩
            clear HUS HOWN HSET hpt hxg hrg HO
            refine Rk.wp_region_turns (PlJ W ab #[.int .i64 0, .int .i64 id, .slice ap pl cp, .string (strOf key), .slice av ln cv] wa.heap.size (.slice a7 pl c7) p) [0, 0, 0, 0, 1, 0, 0, 0, 0, 0, 2, 0] [Rk.FactK.eq (.pointer (some ⟨b, 0, none⟩)),
                Rk.FactK.eq (.pointer (some ⟨ab, 1, none⟩)),
                Rk.FactK.eq (.int .i64 id),
                Rk.FactK.eq (.slice a7 pl c7),
                FI base b bp bq rb (addE R id p) (addS R id p) (Value.slice a7 pl c7).ownBlock,
                Rk.FactK.eq (.pointer (some ⟨rb, 0, none⟩)),
                Rk.FactK.eq (.pointer (some ⟨ab, 1, none⟩)),
                Rk.FactK.eq (.int .i64 id),
                Rk.FactK.eq (.pointer (some ⟨ab, 2, none⟩)),
                Rk.FactK.eq (.slice ap pl cp),
                FR base bp bq rb (addE R id p) (addS R id p) (Value.slice a7 pl c7).ownBlock,
                Rk.FactK.eq (.bool false)]
              [Rk.FactK.any, Rk.FactK.any, Rk.FactK.any, Rk.FactK.any, GI base b bp bq rb R (Value.slice a7 pl c7).ownBlock, Rk.FactK.any, Rk.FactK.any, Rk.FactK.any, Rk.FactK.any, Rk.FactK.any, GR base bp bq rb R (Value.slice a7 pl c7).ownBlock, Rk.FactK.any]
              [[], [], [(1, 38)], [], [(0, 37), (2, 39), (3, 40)], [], [], [(6, 43)], [], [(8, 45)], [(5, 42), (7, 44), (9, 46)], [(4, 41), (10, 47)]]
              [(0, 37), (1, 38), (2, 39), (3, 40), (4, 41), (5, 42), (6, 43), (7, 44), (8, 45), (9, 46), (10, 47), (11, 48)] (by kernel_rfl) (by kernel_rfl) rfl rfl rfl (HJ.out.later (Ext.refl _).drew) (PlJ.st HB1.out.lo HB1.out.ix.lo HB1.out.rx.lo) ?_ ?_ ?_
            · intro f hf; simp only [List.mem_cons, List.not_mem_nil, or_false] at hf; rcases hf with rfl | rfl | rfl | rfl | rfl | rfl | rfl | rfl | rfl | rfl | rfl | rfl
              · exact True.intro
              · exact True.intro
              · exact True.intro
              · exact True.intro
              · exact (HG.out.ext (Ext.refl _).drew)
              · exact True.intro
              · exact True.intro
              · exact True.intro
              · exact True.intro
              · exact True.intro
              · exact (HRG.out.ext (Ext.refl _).drew)
              · exact True.intro
            · refine ⟨?_, ?_, ?_, ?_, ?_, ?_, ?_, ?_, ?_, ?_, ?_, ?_, trivial⟩
              · intro w1 hx1 hg1; change wpList _ _ _ _ _ _; refine Rr.lift (fun _ _ h => h) ?_; exact ob_move rfl rfl rfl rfl rfl
              · intro w1 hx1 hg1; change wpList _ _ _ _ _ _; refine Rr.lift (fun _ _ h => h) ?_; go_wp2_with fail; exact ⟨rfl, Ext.refl _, rfl, rfl⟩
              · intro w1 hx1 hg1; rintro _ rfl; change wpList _ _ _ _ _ _; refine Rr.lift (fun _ _ h => h) ?_; have m0 := cell_of_row _ _ 1 _ _ _ hx1.act; go_wp2_with fail; exact ⟨rfl, Ext.refl _, rfl, rfl⟩
              · intro w1 hx1 hg1; change wpList _ _ _ _ _ _; refine Rr.lift (fun _ _ h => h) ?_; exact ob_move rfl rfl rfl rfl rfl
              · intro w1 hx1 hg1; rintro _ rfl; rintro _ rfl; rintro _ rfl; change wpList _ _ _ _ _ _; have hg2 : IxG w1 base b bp bq R (Value.slice a7 pl c7).ownBlock := hg1; have hcall := ixg_add hg2 hx1.own.lt id HID.out _ p hx1.own.pred; go_wp2_with fail; (with_reducible refine hcall.mono ?_); rintro e w7 ⟨rfl, hi, ht⟩; have hx2 : PlRK base bp bq rb 1 w1 w7 := ⟨ht, hg2.1.mapsP⟩; have h2 : (FI base b bp bq rb (addE R id p) (addS R id p) (Value.slice a7 pl c7).ownBlock).p (.int .i64 (addE R id p)) w7 := ⟨rfl, hi⟩; go_wp2_with fail; exact ⟨rfl, hx2, rfl, h2⟩
              · intro w1 hx1 hg1; change wpList _ _ _ _ _ _; refine Rr.lift (fun _ _ h => h) ?_; exact ob_move rfl rfl rfl rfl rfl
              · intro w1 hx1 hg1; change wpList _ _ _ _ _ _; refine Rr.lift (fun _ _ h => h) ?_; go_wp2_with fail; exact ⟨rfl, Ext.refl _, rfl, rfl⟩
              · intro w1 hx1 hg1; rintro _ rfl; change wpList _ _ _ _ _ _; refine Rr.lift (fun _ _ h => h) ?_; have m0 := cell_of_row _ _ 1 _ _ _ hx1.act; go_wp2_with fail; exact ⟨rfl, Ext.refl _, rfl, rfl⟩
              · intro w1 hx1 hg1; change wpList _ _ _ _ _ _; refine Rr.lift (fun _ _ h => h) ?_; go_wp2_with fail; exact ⟨rfl, Ext.refl _, rfl, rfl⟩
              · intro w1 hx1 hg1; rintro _ rfl; change wpList _ _ _ _ _ _; refine Rr.lift (fun _ _ h => h) ?_; have m0 := cell_of_row _ _ 2 _ _ _ hx1.act; go_wp2_with fail; exact ⟨rfl, Ext.refl _, rfl, rfl⟩
              · intro w1 hx1 hg1; rintro _ rfl; rintro _ rfl; rintro _ rfl; change wpList _ _ _ _ _ _; have hg2 : RIxG w1 base rb R (Value.slice a7 pl c7).ownBlock := hg1; have hcall := rixg_add hg2 hx1.own.lt id _ p (HP.out.ext hx1.ext); go_wp2_with fail; (with_reducible refine hcall.mono ?_); rintro e w7 ⟨rfl, hi, ht⟩; have hx2 : PlRK base bp bq rb 2 w1 w7 := ⟨ht, hg2.1.box⟩; have h2 : (FR base bp bq rb (addE R id p) (addS R id p) (Value.slice a7 pl c7).ownBlock).p (.int .i64 (addE R id p)) w7 := ⟨rfl, hi⟩; go_wp2_with fail; exact ⟨rfl, hx2, rfl, h2⟩
              · intro w1 hx1 hg1; intro v41 h41; intro v47 h47; change wpList _ _ _ _ _ _; refine Rr.lift (fun _ _ h => h) ?_; obtain ⟨rfl, _⟩ := h41; obtain ⟨rfl, _⟩ := h47; have t : (addE R id p != addE R id p) = false := bne_self_eq_false _; go_wp2_with fail; exact ⟨rfl, Ext.refl _, rfl, rfl⟩
            · intro w1 hx1; rintro _ rfl; rintro _ rfl; rintro _ rfl; rintro _ rfl; intro v41 h41; rintro _ rfl; rintro _ rfl; rintro _ rfl; rintro _ rfl; rintro _ rfl; intro v47 h47; rintro _ rfl; refine depsThen_nil ?_; dsimp only; simp only [Act.put, List.setIfInBounds_toArray, List.set_cons_zero, List.set_cons_succ]
              replace h41 : (FI base b bp bq rb (addE R id p) (addS R id p) (Value.slice a7 pl c7).ownBlock).p v41 w1 := h41
              replace h47 : (FR base bp bq rb (addE R id p) (addS R id p) (Value.slice a7 pl c7).ownBlock).p v47 w1 := h47
              obtain ⟨rfl, hi1⟩ := h41
              obtain ⟨rfl, hr1⟩ := h47
              have hlo1 := HB1.out.lo
              have hsz1 := HB1.out.ext.size
              have HAN := Lib.hid (addS_nm HB1.out.nm id HNM.out)
              by_cases hp0 : pl = 0
              · subst hp0
                go_wp2_with fail
                refine wp_loop_rounds 1 ?_
                rw [rounds_succ]
                go_wp2_with fail
                go_meet
                exact ⟨addS R id p, ⟨hi1.1, hr1.1, hx1.ext, hlo1, HAN.out⟩, hx1.act⟩
              · obtain ⟨g, o2, cap2, e7, eg, hlog, hnm⟩ := names_of hx1.own (by rw [← HPL.out]; omega) HNM.out
                rw [eg] at hi1 hr1
                rw [← HPL.out] at hnm
                simp only [Value.slice.injEq] at e7
                obtain ⟨rfl, -, rfl⟩ := e7
                have HN0 : Hid (PlN W base b bp bq rb (addS R id p) ab #[.int .i64 0, .int .i64 id, .slice ap pl cp, .string (strOf key), .slice av ln cv] g o2 pl 0 w1) := ⟨hi1, hr1, hx1.ext, by omega, hx1.act, hnm⟩
                clear hi1 hr1 hnm hx1 HJ HG HRG HB1 HA1 HX
                go_wp2_with fail
                go_loopw [51] (fun i2 wr => ∃ j : Nat, j ≤ pl ∧ i2 = .int .i64 j ∧ Hid (PlN W base b bp bq rb (addS R id p) ab #[.int .i64 0, .int .i64 id, .slice ap pl cp, .string (strOf key), .slice av ln cv] g o2 pl j wr)) (fun i2 _ => pl - (intOf i2).toNat)
                case atStart => exact ⟨0, Nat.zero_le _, rfl, HN0.out⟩
                case round =>
                  clear HN0
                  obtain ⟨j, hj, rfl, hN⟩ := hrel
                  by_cases hjl : j < pl
                  · have hI2 : decide ((j : Int) < (pl : Int)) = true := decide_eq_true (by omega)
                    have hjN : (j : Int) < (pl : Int) := by omega
                    obtain ⟨cs2, hg2, hnm⟩ := hN.out.nm
                    obtain ⟨s2, hs2, hsz2⟩ := hnm j (Nat.le_refl _) hjl
                    have hsz3 : ¬ 9223372036854775807 < s2.size + 1 := by omega
                    have q0 := cell_of_row _ _ (o2 + j * 7) _ _ _ hg2
                    rw [hs2] at q0
                    have z0 := frozen_of_row _ _ (o2 + j * 7) _ _ hg2
                    clear hnm
                    go_wp2_with fail
                    go_roundw
                    case rel => exact ⟨j + 1, hjl, by go_num, hN.out.write _⟩
                    case measure => simp [intOf]; omega
                  · obtain rfl : j = pl := by omega
                    have hI2 : decide ((j : Int) < (j : Int)) = false := decide_eq_false (by omega)
                    go_wp2_with fail
                    go_meet
                    exact ⟨addS R id p, ⟨hN.out.ix.1, hN.out.rx.1, hN.out.ext, hlo1, HAN.out⟩, hN.out.act⟩
          · have d0 : (what == 0) = false := beq_eq_false_iff_ne.2 h0
            by_cases h1 : what = 1
            · subst h1
              have HG := Lib.hid (IxG.of (o := none) HB1.out.ix (fun _ h => nomatch h))
              have HRG := Lib.hid (RIxG.of (o := none) HB1.out.rx (fun _ h => nomatch h))
              have HJ : Hid (PlJ W ab #[.int .i64 1, .int .i64 id, .slice ap pl cp, .string (strOf key), .slice av ln cv] 0 (.slice none 0 0) [] wa) := ⟨HB1.out.ext, HA1.out, PredT.none 0 wa⟩
              go_upto_region 19 with fail
              refine Rk.wp_region_turns (PlJ W ab #[.int .i64 1, .int .i64 id, .slice ap pl cp, .string (strOf key), .slice av ln cv] 0 (.slice none 0 0) []) [0, 0, 0, 1, 0, 0, 0, 2, 0] [Rk.FactK.eq (.pointer (some ⟨b, 0, none⟩)),
                  Rk.FactK.eq (.pointer (some ⟨ab, 1, none⟩)),
                  Rk.FactK.eq (.int .i64 id),
                  FI base b bp bq rb (delE R id) (delS R id) none,
                  Rk.FactK.eq (.pointer (some ⟨rb, 0, none⟩)),
                  Rk.FactK.eq (.pointer (some ⟨ab, 1, none⟩)),
                  Rk.FactK.eq (.int .i64 id),
                  FR base bp bq rb (delE R id) (delS R id) none,
                  Rk.FactK.eq (.bool false)]
                [Rk.FactK.any, Rk.FactK.any, Rk.FactK.any, GI base b bp bq rb R none, Rk.FactK.any, Rk.FactK.any, Rk.FactK.any, GR base bp bq rb R none, Rk.FactK.any]
                [[], [], [(1, 66)], [(0, 65), (2, 67)], [], [], [(5, 70)], [(4, 69), (6, 71)], [(3, 68), (7, 72)]]
                [(0, 65), (1, 66), (2, 67), (3, 68), (4, 69), (5, 70), (6, 71), (7, 72), (8, 73)] (by kernel_rfl) (by kernel_rfl) rfl rfl rfl (HJ.out.later (Ext.refl _).drew) (PlJ.st HB1.out.lo HB1.out.ix.lo HB1.out.rx.lo) ?_ ?_ ?_
              · intro f hf; simp only [List.mem_cons, List.not_mem_nil, or_false] at hf; rcases hf with rfl | rfl | rfl | rfl | rfl | rfl | rfl | rfl | rfl
                · exact True.intro
                · exact True.intro
                · exact True.intro
                · exact (HG.out.ext (Ext.refl _).drew)
                · exact True.intro
                · exact True.intro
                · exact True.intro
                · exact (HRG.out.ext (Ext.refl _).drew)
                · exact True.intro
              · refine ⟨?_, ?_, ?_, ?_, ?_, ?_, ?_, ?_, ?_, trivial⟩
                · intro w1 hx1 hg1; change wpList _ _ _ _ _ _; refine Rr.lift (fun _ _ h => h) ?_; exact ob_move rfl rfl rfl rfl rfl
                · intro w1 hx1 hg1; change wpList _ _ _ _ _ _; refine Rr.lift (fun _ _ h => h) ?_; go_wp2_with fail; exact ⟨rfl, Ext.refl _, rfl, rfl⟩
                · intro w1 hx1 hg1; rintro _ rfl; change wpList _ _ _ _ _ _; refine Rr.lift (fun _ _ h => h) ?_; have m0 := cell_of_row _ _ 1 _ _ _ hx1.act; go_wp2_with fail; exact ⟨rfl, Ext.refl _, rfl, rfl⟩
                · intro w1 hx1 hg1; rintro _ rfl; rintro _ rfl; change wpList _ _ _ _ _ _; have hg2 : IxG w1 base b bp bq R none := hg1; have hcall := ixg_del hg2 id; go_wp2_with fail; (with_reducible refine hcall.mono ?_); rintro e w7 ⟨rfl, hi, ht⟩; have hx2 : PlRK base bp bq rb 1 w1 w7 := ⟨ht, hg2.1.mapsP⟩; have h2 : (FI base b bp bq rb (delE R id) (delS R id) none).p (.int .i64 (delE R id)) w7 := ⟨rfl, hi⟩; go_wp2_with fail; exact ⟨rfl, hx2, rfl, h2⟩
                · intro w1 hx1 hg1; change wpList _ _ _ _ _ _; refine Rr.lift (fun _ _ h => h) ?_; exact ob_move rfl rfl rfl rfl rfl
                · intro w1 hx1 hg1; change wpList _ _ _ _ _ _; refine Rr.lift (fun _ _ h => h) ?_; go_wp2_with fail; exact ⟨rfl, Ext.refl _, rfl, rfl⟩
                · intro w1 hx1 hg1; rintro _ rfl; change wpList _ _ _ _ _ _; refine Rr.lift (fun _ _ h => h) ?_; have m0 := cell_of_row _ _ 1 _ _ _ hx1.act; go_wp2_with fail; exact ⟨rfl, Ext.refl _, rfl, rfl⟩
                · intro w1 hx1 hg1; rintro _ rfl; rintro _ rfl; change wpList _ _ _ _ _ _; have hg2 : RIxG w1 base rb R none := hg1; have hcall := rixg_del hg2 id; go_wp2_with fail; (with_reducible refine hcall.mono ?_); rintro e w7 ⟨rfl, hi, ht⟩; have hx2 : PlRK base bp bq rb 2 w1 w7 := ⟨ht, hg2.1.box⟩; have h2 : (FR base bp bq rb (delE R id) (delS R id) none).p (.int .i64 (delE R id)) w7 := ⟨rfl, hi⟩; go_wp2_with fail; exact ⟨rfl, hx2, rfl, h2⟩
                · intro w1 hx1 hg1; intro v68 h68; intro v72 h72; change wpList _ _ _ _ _ _; refine Rr.lift (fun _ _ h => h) ?_; obtain ⟨rfl, _⟩ := h68; obtain ⟨rfl, _⟩ := h72; have t : (delE R id != delE R id) = false := bne_self_eq_false _; go_wp2_with fail; exact ⟨rfl, Ext.refl _, rfl, rfl⟩
              · intro w1 hx1; rintro _ rfl; rintro _ rfl; rintro _ rfl; intro v68 h68; rintro _ rfl; rintro _ rfl; rintro _ rfl; intro v72 h72; rintro _ rfl; refine depsThen_nil ?_; dsimp only; simp only [Act.put, List.setIfInBounds_toArray, List.set_cons_zero, List.set_cons_succ]
                replace h68 : (FI base b bp bq rb (delE R id) (delS R id) none).p v68 w1 := h68
                replace h72 : (FR base bp bq rb (delE R id) (delS R id) none).p v72 w1 := h72
                obtain ⟨rfl, hi1⟩ := h68
                obtain ⟨rfl, hr1⟩ := h72
                have hlo1 := HB1.out.lo
                go_wp2_with fail
                go_meet
                exact ⟨delS R id, ⟨hi1.1, hr1.1, hx1.ext, hlo1, delS_nm HB1.out.nm id⟩, hx1.act⟩
            · have d1 : (what == 1) = false := beq_eq_false_iff_ne.2 h1
              by_cases h2 : what = 2
              · subst h2
                obtain ⟨lv, L, hri, hS, hl256⟩ := HB1.out.rx.ex
                have h6 : ∀ k ∈ L, k.p.length ≤ 6 := fun k hk => HB1.out.rx.six (k.id, k.p) (hS.1.mem_iff.1 (List.mem_map.2 ⟨k, hk, rfl⟩))
                have HM1 : Hid (∀ W', Ext wa W' → Calls Tryz.prog 10 #[.pointer (some ⟨b, 0, none⟩), .agg #[.string (strOf key), .slice av ln cv]] W' fun e w' => ∃ v, e = .returned v ∧ IntR w' v (rmIds L l) ∧ Ext W' w') := fun W' hW => (ix_match (HB1.out.ix.ext hW) (sS L) hS key _ l (HL.out.ext (HB1.out.ext.trans hW))).mono fun e w' ⟨a, cap, he, ho, hx⟩ => ⟨_, he, by rw [rmIds_eq]; exact own_int ho, hx⟩
                have HM2 : Hid (∀ W', Ext wa W' → Calls Tryz.prog 18 #[.pointer (some ⟨rb, 0, none⟩), .agg #[.string (strOf key), .slice av ln cv]] W' fun e w' => ∃ v, e = .returned v ∧ IntR w' v (rmIds L l) ∧ Ext W' w') := fun W' hW => (rmatch_any W' base rb lv L (hri.ext hW) hl256 key _ l (HL.out.ext (HB1.out.ext.trans hW))).mono fun e w' ⟨v, he, ho, hx⟩ => ⟨_, he, own_int ho, hx⟩
                have HK1 : Hid (∀ W', Ext wa W' → Calls Tryz.prog 13 #[.pointer (some ⟨b, 0, none⟩), .agg #[.string (strOf key), .slice av ln cv]] W' fun e w' => e = .returned (.int .i64 (lkSum L l : Nat)) ∧ Ext W' w') := fun W' hW => by
                  have h := ix_looks (HB1.out.ix.ext hW) key _ l (HL.out.ext (HB1.out.ext.trans hW))
                  rw [looks_eq hS l, ← lkSum_eq] at h
                  exact h
                have HK2 : Hid (∀ W', Ext wa W' → Calls Tryz.prog 19 #[.pointer (some ⟨rb, 0, none⟩), .agg #[.string (strOf key), .slice av ln cv]] W' fun e w' => e = .returned (.int .i64 (lkSum L l : Nat)) ∧ Ext W' w') := fun W' hW => rlooks_any W' base rb lv L (hri.ext hW) hl256 h6 key _ l (HL.out.ext (HB1.out.ext.trans hW))
                have HSM : Hid (∀ W' v1 v2, IntR W' v1 (rmIds L l) → IntR W' v2 (rmIds L l) → Calls Tryz.prog 17 #[v1, v2] W' fun e w' => e = .returned (.bool true) ∧ Ext W' w') := fun W' v1 v2 k1 k2 => by
                  have h := samei_any W' v1 v2 _ _ k1 k2
                  rw [decide_eq_true (rfl : rmIds L l = rmIds L l)] at h
                  exact h
                clear hri hS h6
                generalize rmIds L l = X at *
                generalize lkSum L l = K at *
                have a3 := cell_of_row _ _ 3 _ _ _ HA1.out
                have a4 := cell_of_row _ _ 4 _ _ _ HA1.out
                go_upto_region 22 with fail
                refine wp_region_facts [Fact.eq (.pointer (some ⟨b, 0, none⟩)),
                    Fact.eq (.pointer (some ⟨ab, 3, none⟩)),
                    Fact.eq (.agg #[.string (strOf key), .slice av ln cv]),
                    Fact.intR X,
                    Fact.eq (.pointer (some ⟨rb, 0, none⟩)),
                    Fact.eq (.pointer (some ⟨ab, 3, none⟩)),
                    Fact.eq (.agg #[.string (strOf key), .slice av ln cv]),
                    Fact.intR X,
                    Fact.eq (.bool true),
                    Fact.eq (.bool false),
                    Fact.eq (.bool false),
                    Fact.eq (.pointer (some ⟨b, 0, none⟩)),
                    Fact.eq (.pointer (some ⟨ab, 3, none⟩)),
                    Fact.eq (.agg #[.string (strOf key), .slice av ln cv]),
                    Fact.eq (.int .i64 (K : Nat)),
                    Fact.eq (.pointer (some ⟨rb, 0, none⟩)),
                    Fact.eq (.pointer (some ⟨ab, 3, none⟩)),
                    Fact.eq (.agg #[.string (strOf key), .slice av ln cv]),
                    Fact.eq (.int .i64 (K : Nat)),
                    Fact.eq (.bool false),
                    Fact.eq (.bool false)]
                  [[], [], [(1, 77)], [(0, 76), (2, 78)], [], [], [(5, 81)], [(4, 80), (6, 82)], [(3, 79), (7, 83)], [(8, 84)], [(9, 85)], [(10, 86)], [(10, 86)], [(12, 88), (10, 86)], [(11, 87), (13, 89), (10, 86)], [(10, 86)], [(10, 86)], [(16, 92), (10, 86)], [(15, 91), (17, 93), (10, 86)], [(14, 90), (18, 94), (10, 86)], [(10, 86), (19, 95)]]
                  [(0, 76), (1, 77), (2, 78), (3, 79), (4, 80), (5, 81), (6, 82), (7, 83), (8, 84), (9, 85), (10, 86), (11, 87), (12, 88), (13, 89), (14, 90), (15, 91), (16, 92), (17, 93), (18, 94), (19, 95), (20, 96)] (by kernel_rfl) (by kernel_rfl) ?_ ?_
                · refine ⟨?_, ?_, ?_, ?_, ?_, ?_, ?_, ?_, ?_, ?_, ?_, ?_, ?_, ?_, ?_, ?_, ?_, ?_, ?_, ?_, ?_, trivial⟩
                  · intro w1 hx1; change wpList _ _ _ _ _ _; exact ob_move rfl rfl rfl rfl rfl
                  · intro w1 hx1; change wpList _ _ _ _ _ _; go_wp2_with fail; exact ⟨rfl, Ext.refl _, rfl, rfl⟩
                  · intro w1 hx1; rintro _ rfl; change wpList _ _ _ _ _ _; have m0 := hx1.cell a3; have m1 := hx1.cell a4; go_wp2_with fail; exact ⟨rfl, Ext.refl _, rfl, rfl⟩
                  · intro w1 hx1; rintro _ rfl; rintro _ rfl; change wpList _ _ _ _ _ _; go_wp2_with fail; (with_reducible refine (HM1.out _ hx1).mono ?_); rintro e w7 ⟨v7, rfl, hi, hx2⟩; go_wp2_with fail; exact ⟨rfl, hx2, rfl, hi⟩
                  · intro w1 hx1; change wpList _ _ _ _ _ _; exact ob_move rfl rfl rfl rfl rfl
                  · intro w1 hx1; change wpList _ _ _ _ _ _; go_wp2_with fail; exact ⟨rfl, Ext.refl _, rfl, rfl⟩
                  · intro w1 hx1; rintro _ rfl; change wpList _ _ _ _ _ _; have m0 := hx1.cell a3; have m1 := hx1.cell a4; go_wp2_with fail; exact ⟨rfl, Ext.refl _, rfl, rfl⟩
                  · intro w1 hx1; rintro _ rfl; rintro _ rfl; change wpList _ _ _ _ _ _; go_wp2_with fail; (with_reducible refine (HM2.out _ hx1).mono ?_); rintro e w7 ⟨v7, rfl, hi, hx2⟩; go_wp2_with fail; exact ⟨rfl, hx2, rfl, hi⟩
                  · intro w1 hx1; intro v79 h79; intro v83 h83; change wpList _ _ _ _ _ _; go_wp2_with fail; have k79 : IntR w1 v79 X := h79; have k83 : IntR w1 v83 X := h83; (with_reducible refine (HSM.out w1 v79 v83 k79 k83).mono ?_); rintro e w7 ⟨rfl, hx2⟩; go_wp2_with fail; exact ⟨rfl, hx2, rfl, rfl⟩
                  · intro w1 hx1; rintro _ rfl; change wpList _ _ _ _ _ _; go_wp2_with fail; exact ⟨rfl, Ext.refl _, rfl, rfl⟩
                  · intro w1 hx1; rintro _ rfl; change wpList _ _ _ _ _ _; exact ob_move rfl rfl rfl rfl rfl
                  · intro w1 hx1; rintro _ rfl; change wpList _ _ _ _ _ _; exact ob_move rfl rfl rfl rfl rfl
                  · intro w1 hx1; rintro _ rfl; change wpList _ _ _ _ _ _; go_wp2_with fail; exact ⟨rfl, Ext.refl _, rfl, rfl⟩
                  · intro w1 hx1; rintro _ rfl; rintro _ rfl; change wpList _ _ _ _ _ _; have m0 := hx1.cell a3; have m1 := hx1.cell a4; go_wp2_with fail; exact ⟨rfl, Ext.refl _, rfl, rfl⟩
                  · intro w1 hx1; rintro _ rfl; rintro _ rfl; rintro _ rfl; change wpList _ _ _ _ _ _; go_wp2_with fail; (with_reducible refine (HK1.out _ hx1).mono ?_); rintro e w7 ⟨rfl, hx2⟩; go_wp2_with fail; exact ⟨rfl, hx2, rfl, rfl⟩
                  · intro w1 hx1; rintro _ rfl; change wpList _ _ _ _ _ _; exact ob_move rfl rfl rfl rfl rfl
                  · intro w1 hx1; rintro _ rfl; change wpList _ _ _ _ _ _; go_wp2_with fail; exact ⟨rfl, Ext.refl _, rfl, rfl⟩
                  · intro w1 hx1; rintro _ rfl; rintro _ rfl; change wpList _ _ _ _ _ _; have m0 := hx1.cell a3; have m1 := hx1.cell a4; go_wp2_with fail; exact ⟨rfl, Ext.refl _, rfl, rfl⟩
                  · intro w1 hx1; rintro _ rfl; rintro _ rfl; rintro _ rfl; change wpList _ _ _ _ _ _; go_wp2_with fail; (with_reducible refine (HK2.out _ hx1).mono ?_); rintro e w7 ⟨rfl, hx2⟩; go_wp2_with fail; exact ⟨rfl, hx2, rfl, rfl⟩
                  · intro w1 hx1; rintro _ rfl; rintro _ rfl; rintro _ rfl; change wpList _ _ _ _ _ _; have t : ((K : Int) != (K : Int)) = false := bne_self_eq_false _; go_wp2_with fail; exact ⟨rfl, Ext.refl _, rfl, rfl⟩
                  · intro w1 hx1; rintro _ rfl; rintro _ rfl; change wpList _ _ _ _ _ _; exact ob_pick rfl rfl rfl rfl rfl rfl
                · intro w1 hx1; rintro _ rfl; rintro _ rfl; rintro _ rfl; intro v79 h79; rintro _ rfl; rintro _ rfl; rintro _ rfl; intro v83 h83; rintro _ rfl; rintro _ rfl; rintro _ rfl; rintro _ rfl; rintro _ rfl; rintro _ rfl; rintro _ rfl; rintro _ rfl; rintro _ rfl; rintro _ rfl; rintro _ rfl; rintro _ rfl; rintro _ rfl; refine depsThen_nil ?_; dsimp only; simp only [Act.put, List.setIfInBounds_toArray, List.set_cons_zero, List.set_cons_succ]
                  replace h79 : (Fact.intR X).p v79 w1 := h79
                  replace h83 : (Fact.intR X).p v83 w1 := h83
                  go_wp2_with fail
                  go_meet
                  exact ⟨R, HB1.out.later hx1, block_later HA1.out hx1⟩
              · have d2 : (what == 2) = false := beq_eq_false_iff_ne.2 h2
                go_wp2_with fail
                go_meet
                exact ⟨R, HB1.out, HA1.out⟩
        case rest =>
          obtain ⟨R', hB2, hA2⟩ := hcut
          have HB2 := Lib.hid hB2.out
          have HA2 := Lib.hid hA2.out
          clear HB1 HA1 a0 hB2 hA2
          have a1 := cell_of_row _ _ 1 _ _ _ HA2.out
          cases hh : hasS R' id with
          | false =>
            have HH := Lib.hid hh
            clear hh
            go_upto_region 25 with (go_at_call 11; (with_reducible refine (ix_get_no HB2.out.ix id HH.out).mono ?_); rintro e w5 ⟨rfl, hx5⟩; have HB5 := Lib.hid (HB2.out.later hx5); have HA5 := Lib.hid (block_later HA2.out hx5); clear hx5)
            clear HB2 HA2 a1
            have a1 := cell_of_row _ _ 1 _ _ _ HA5.out
            obtain ⟨lv, L, hri, hS, hl256⟩ := HB5.out.rx.ex
            have HRI := Lib.hid hri
            have HS := Lib.hid hS
            clear hri hS
            go_upto_region 26 with (go_at_call 20; (with_reducible refine (rget_no _ base rb lv L HRI.out R' HS.out id HH.out).mono ?_); rintro e w6 ⟨rfl, hx6⟩; have HB6 := Lib.hid (HB5.out.later hx6); have HRI6 := Lib.hid (HRI.out.ext hx6); clear hx6)
            clear HB5 HA5 a1 HRI
            obtain ⟨la, lc, rfl, _, _⟩ := own_shape HRI6.out.row
            have rb0 := cell_of_row _ _ 0 _ _ _ HRI6.out.box
            have HID2 : Hid (∀ W', Ext w6 W' → Calls Tryz.prog 12 #[.pointer (some ⟨b, 0, none⟩)] W' fun e w' => ∃ a c, e = .returned (.slice a L.length c) ∧ Ext W' w') := fun W' hW => (ix_ids (HB6.out.ix.ext hW) (sS L) HS.out).mono fun e w' ⟨a, c, he, _, hx⟩ => ⟨a, c, by rw [he, sS_ids], hx⟩
            have HSM : Hid (∀ W', Ext w6 W' → Calls Tryz.prog 21 #[.slice none 0 0, .slice none 0 0] W' fun e w' => e = .returned (.bool true) ∧ Ext W' w') := fun W' hW => (psame_any W' _ _ [] [] (PredR.nil W') (PredR.nil W')).mono fun e w' ⟨he, hx⟩ => ⟨by rw [he, decide_eq_true (wo_P.refl _)], hx.1⟩
            generalize L.length = n at *
            refine wp_region_facts [Fact.eq (.bool false),
                Fact.eq (.bool false),
                Fact.eq (.bool false),
                Fact.eq (.bool false),
                Fact.eq (.slice none 0 0),
                Fact.eq (.slice none 0 0),
                Fact.eq (.bool true),
                Fact.eq (.bool false),
                Fact.eq (.bool false),
                Fact.eq (.bool false),
                Fact.eq (.pointer (some ⟨b, 0, none⟩)),
                Fact.slen n,
                Fact.eq (.int .i64 n),
                Fact.eq (.pointer (some ⟨rb, 0, none⟩)),
                Fact.eq (.pointer (some ⟨rb, 0, none⟩)),
                Fact.eq (.pointer (some ⟨rb, 0, none⟩)),
                Fact.eq (.slice la n lc),
                Fact.eq (.int .i64 n),
                Fact.eq (.bool false),
                Fact.eq (.bool false)]
              [[], [], [(0, 111), (1, 112)], [(2, 113)], [(3, 114)], [(3, 114)], [(4, 115), (5, 116), (3, 114)], [(6, 117), (3, 114)], [(3, 114), (7, 118)], [(8, 119)], [(9, 120)], [(10, 121), (9, 120)], [(11, 122), (9, 120)], [(9, 120)], [(13, 124), (9, 120)], [(14, 125), (9, 120)], [(15, 126), (9, 120)], [(16, 127), (9, 120)], [(12, 123), (17, 128), (9, 120)], [(9, 120), (18, 129)]]
              [(0, 111), (1, 112), (2, 113), (3, 114), (4, 115), (5, 116), (6, 117), (7, 118), (8, 119), (9, 120), (10, 121), (11, 122), (12, 123), (13, 124), (14, 125), (15, 126), (16, 127), (17, 128), (18, 129), (19, 130)] (by kernel_rfl) (by kernel_rfl) ?_ ?_
            · refine ⟨?_, ?_, ?_, ?_, ?_, ?_, ?_, ?_, ?_, ?_, ?_, ?_, ?_, ?_, ?_, ?_, ?_, ?_, ?_, ?_, trivial⟩
              · intro w1 hx1; change wpList _ _ _ _ _ _; exact ob_move rfl rfl rfl rfl rfl
              · intro w1 hx1; change wpList _ _ _ _ _ _; exact ob_move rfl rfl rfl rfl rfl
              · intro w1 hx1; rintro _ rfl; rintro _ rfl; change wpList _ _ _ _ _ _; go_wp2_with fail; exact ⟨rfl, Ext.refl _, rfl, rfl⟩
              · intro w1 hx1; rintro _ rfl; change wpList _ _ _ _ _ _; exact ob_move rfl rfl rfl rfl rfl
              · intro w1 hx1; rintro _ rfl; change wpList _ _ _ _ _ _; exact ob_move rfl rfl rfl rfl rfl
              · intro w1 hx1; rintro _ rfl; change wpList _ _ _ _ _ _; exact ob_move rfl rfl rfl rfl rfl
              · intro w1 hx1; rintro _ rfl; rintro _ rfl; rintro _ rfl; change wpList _ _ _ _ _ _; go_wp2_with fail; (with_reducible refine (HSM.out _ hx1).mono ?_); rintro e w7 ⟨rfl, hx2⟩; go_wp2_with fail; exact ⟨rfl, hx2, rfl, rfl⟩
              · intro w1 hx1; rintro _ rfl; rintro _ rfl; change wpList _ _ _ _ _ _; go_wp2_with fail; exact ⟨rfl, Ext.refl _, rfl, rfl⟩
              · intro w1 hx1; rintro _ rfl; rintro _ rfl; change wpList _ _ _ _ _ _; exact ob_pick rfl rfl rfl rfl rfl rfl
              · intro w1 hx1; rintro _ rfl; change wpList _ _ _ _ _ _; exact ob_move rfl rfl rfl rfl rfl
              · intro w1 hx1; rintro _ rfl; change wpList _ _ _ _ _ _; exact ob_move rfl rfl rfl rfl rfl
              · intro w1 hx1; rintro _ rfl; rintro _ rfl; change wpList _ _ _ _ _ _; go_wp2_with fail; (with_reducible refine (HID2.out _ hx1).mono ?_); rintro e w7 ⟨a7, c7, rfl, hx2⟩; have hs7 : ∃ a c, Value.slice a7 n c7 = .slice a n c := ⟨a7, c7, rfl⟩; go_wp2_with fail; exact ⟨rfl, hx2, rfl, hs7⟩
              · intro w1 hx1; intro v122 h122; rintro _ rfl; change wpList _ _ _ _ _ _; obtain ⟨a7, c7, rfl⟩ := h122; go_wp2_with fail; exact ⟨rfl, Ext.refl _, rfl, rfl⟩
              · intro w1 hx1; rintro _ rfl; change wpList _ _ _ _ _ _; exact ob_move rfl rfl rfl rfl rfl
              · intro w1 hx1; rintro _ rfl; rintro _ rfl; change wpList _ _ _ _ _ _; go_wp2_with fail; exact ⟨rfl, Ext.refl _, rfl, rfl⟩
              · intro w1 hx1; rintro _ rfl; rintro _ rfl; change wpList _ _ _ _ _ _; go_wp2_with fail; exact ⟨rfl, Ext.refl _, rfl, rfl⟩
              · intro w1 hx1; rintro _ rfl; rintro _ rfl; change wpList _ _ _ _ _ _; have m0 := hx1.cell rb0; go_wp2_with fail; exact ⟨rfl, Ext.refl _, rfl, rfl⟩
              · intro w1 hx1; rintro _ rfl; rintro _ rfl; change wpList _ _ _ _ _ _; go_wp2_with fail; exact ⟨rfl, Ext.refl _, rfl, rfl⟩
              · intro w1 hx1; rintro _ rfl; rintro _ rfl; rintro _ rfl; change wpList _ _ _ _ _ _; have t : ((n : Int) != (n : Int)) = false := bne_self_eq_false _; go_wp2_with fail; exact ⟨rfl, Ext.refl _, rfl, rfl⟩
              · intro w1 hx1; rintro _ rfl; rintro _ rfl; change wpList _ _ _ _ _ _; exact ob_pick rfl rfl rfl rfl rfl rfl
            · intro w1 hx1; rintro _ rfl; rintro _ rfl; rintro _ rfl; rintro _ rfl; rintro _ rfl; rintro _ rfl; rintro _ rfl; rintro _ rfl; rintro _ rfl; rintro _ rfl; rintro _ rfl; intro v122 h122; rintro _ rfl; rintro _ rfl; rintro _ rfl; rintro _ rfl; rintro _ rfl; rintro _ rfl; rintro _ rfl; rintro _ rfl; refine depsThen_nil ?_; dsimp only; simp only [Act.put, List.setIfInBounds_toArray, List.set_cons_zero, List.set_cons_succ]
              replace h122 : (Fact.slen n).p v122 w1 := h122
              go_wp2_with fail
              refine wp_loop_rounds 1 ?_
              rw [rounds_succ]
              go_wp2_with fail
              go_roundw
              case rel => exact ⟨k + 1, R', hlt, by go_num, HB6.out.later hx1⟩
              case measure => simp [intOf]; omega
          | true =>
            have HH := Lib.hid hh
            clear hh
            have HG1 := Lib.hid (ix_get_yes HB2.out.ix id HH.out)
            have hlo9 := HB2.out.ext.size
            go_upto_region 25 with (go_at_call 11; (with_reducible refine HG1.out.mono ?_); rintro e w5 ⟨a9, c9, us9, rfl, hus, hown, hset, hx5⟩; have hpt : PredT _ w5 _ (predOf R' id) := ⟨us9, hus, hown, hset⟩; have HPT := Lib.hid hpt; have HUL := Lib.hid (show (predOf R' id).length = us9.length by rw [← hus, List.length_map]); have HXG := Lib.hid ((IxG.of (o := (Value.slice a9 us9.length c9).ownBlock) HB2.out.ix (own_base hown)).ext hx5); have HRG := Lib.hid ((RIxG.of (o := (Value.slice a9 us9.length c9).ownBlock) HB2.out.rx (own_base hown)).ext hx5); have HB5 := Lib.hid (HB2.out.later hx5); have HA5 := Lib.hid (block_later HA2.out hx5); clear hus hown hset hx5 hpt)
            generalize us9.length = ul at *
            clear HG1 HA2 a1
            have a1 := cell_of_row _ _ 1 _ _ _ HA5.out
            obtain ⟨lv, L, hri, hS, hl256⟩ := HB5.out.rx.ex
            have HRI := Lib.hid hri
            have HS := Lib.hid hS
            clear hri hS
            go_upto_region 26 with (go_at_call 20; (with_reducible refine (rget_yes _ base rb lv L HRI.out R' HS.out id HH.out).mono ?_); rintro e w6 ⟨z, hzL, hzid, rfl, hx6⟩; have HZ := Lib.hid (show PredR w6 z.h (predOf R' id) by rw [← hzid, predOf_get HS.out hzL]; exact ((HRI.out.preds z hzL).ext hx6).pred); have HX6 := Lib.hid hx6; have HRI6 := Lib.hid (HRI.out.ext hx6); clear hx6 hzL hzid)
            generalize z.h = zh at *
            clear a1 HRI
            obtain ⟨la, lc, rfl, _, _⟩ := own_shape HRI6.out.row
            obtain ⟨ah, ch, rfl, _, _⟩ := HZ.out.shape
            have rb0 := cell_of_row _ _ 0 _ _ _ HRI6.out.box
            have HID2 : Hid (∀ W', Ext w6 W' → Calls Tryz.prog 12 #[.pointer (some ⟨b, 0, none⟩)] W' fun e w' => ∃ a c, e = .returned (.slice a L.length c) ∧ Ext W' w') := fun W' hW => (ix_ids (HB5.out.ix.ext (HX6.out.trans hW)) (sS L) HS.out).mono fun e w' ⟨a, c, he, _, hx⟩ => ⟨a, c, by rw [he, sS_ids], hx⟩
            have HSM : Hid (∀ W', Ext w6 W' → Calls Tryz.prog 21 #[.slice a9 ul c9, .slice ah (predOf R' id).length ch] W' fun e w' => e = .returned (.bool true) ∧ Ext W' w') := fun W' hW => (psame_any W' _ _ (predOf R' id) (predOf R' id) (HPT.out.ext (HX6.out.trans hW)).pred (HZ.out.ext hW)).mono fun e w' ⟨he, hx⟩ => ⟨by rw [he, decide_eq_true (wo_P.refl _)], hx.1⟩
            rw [HUL.out] at HSM HZ ⊢
            generalize L.length = n at *
            refine wp_region_facts [Fact.eq (.bool true),
                Fact.eq (.bool true),
                Fact.eq (.bool false),
                Fact.eq (.bool false),
                Fact.eq (.slice a9 ul c9),
                Fact.eq (.slice ah ul ch),
                Fact.eq (.bool true),
                Fact.eq (.bool false),
                Fact.eq (.bool false),
                Fact.eq (.bool false),
                Fact.eq (.pointer (some ⟨b, 0, none⟩)),
                Fact.slen n,
                Fact.eq (.int .i64 n),
                Fact.eq (.pointer (some ⟨rb, 0, none⟩)),
                Fact.eq (.pointer (some ⟨rb, 0, none⟩)),
                Fact.eq (.pointer (some ⟨rb, 0, none⟩)),
                Fact.eq (.slice la n lc),
                Fact.eq (.int .i64 n),
                Fact.eq (.bool false),
                Fact.eq (.bool false)]
              [[], [], [(0, 111), (1, 112)], [(2, 113)], [(3, 114)], [(3, 114)], [(4, 115), (5, 116), (3, 114)], [(6, 117), (3, 114)], [(3, 114), (7, 118)], [(8, 119)], [(9, 120)], [(10, 121), (9, 120)], [(11, 122), (9, 120)], [(9, 120)], [(13, 124), (9, 120)], [(14, 125), (9, 120)], [(15, 126), (9, 120)], [(16, 127), (9, 120)], [(12, 123), (17, 128), (9, 120)], [(9, 120), (18, 129)]]
              [(0, 111), (1, 112), (2, 113), (3, 114), (4, 115), (5, 116), (6, 117), (7, 118), (8, 119), (9, 120), (10, 121), (11, 122), (12, 123), (13, 124), (14, 125), (15, 126), (16, 127), (17, 128), (18, 129), (19, 130)] (by kernel_rfl) (by kernel_rfl) ?_ ?_
            · refine ⟨?_, ?_, ?_, ?_, ?_, ?_, ?_, ?_, ?_, ?_, ?_, ?_, ?_, ?_, ?_, ?_, ?_, ?_, ?_, ?_, trivial⟩
              · intro w1 hx1; change wpList _ _ _ _ _ _; exact ob_move rfl rfl rfl rfl rfl
              · intro w1 hx1; change wpList _ _ _ _ _ _; exact ob_move rfl rfl rfl rfl rfl
              · intro w1 hx1; rintro _ rfl; rintro _ rfl; change wpList _ _ _ _ _ _; go_wp2_with fail; exact ⟨rfl, Ext.refl _, rfl, rfl⟩
              · intro w1 hx1; rintro _ rfl; change wpList _ _ _ _ _ _; exact ob_move rfl rfl rfl rfl rfl
              · intro w1 hx1; rintro _ rfl; change wpList _ _ _ _ _ _; exact ob_move rfl rfl rfl rfl rfl
              · intro w1 hx1; rintro _ rfl; change wpList _ _ _ _ _ _; exact ob_move rfl rfl rfl rfl rfl
              · intro w1 hx1; rintro _ rfl; rintro _ rfl; rintro _ rfl; change wpList _ _ _ _ _ _; go_wp2_with fail; (with_reducible refine (HSM.out _ hx1).mono ?_); rintro e w7 ⟨rfl, hx2⟩; go_wp2_with fail; exact ⟨rfl, hx2, rfl, rfl⟩
              · intro w1 hx1; rintro _ rfl; rintro _ rfl; change wpList _ _ _ _ _ _; go_wp2_with fail; exact ⟨rfl, Ext.refl _, rfl, rfl⟩
              · intro w1 hx1; rintro _ rfl; rintro _ rfl; change wpList _ _ _ _ _ _; exact ob_pick rfl rfl rfl rfl rfl rfl
              · intro w1 hx1; rintro _ rfl; change wpList _ _ _ _ _ _; exact ob_move rfl rfl rfl rfl rfl
              · intro w1 hx1; rintro _ rfl; change wpList _ _ _ _ _ _; exact ob_move rfl rfl rfl rfl rfl
              · intro w1 hx1; rintro _ rfl; rintro _ rfl; change wpList _ _ _ _ _ _; go_wp2_with fail; (with_reducible refine (HID2.out _ hx1).mono ?_); rintro e w7 ⟨a7, c7, rfl, hx2⟩; have hs7 : ∃ a c, Value.slice a7 n c7 = .slice a n c := ⟨a7, c7, rfl⟩; go_wp2_with fail; exact ⟨rfl, hx2, rfl, hs7⟩
              · intro w1 hx1; intro v122 h122; rintro _ rfl; change wpList _ _ _ _ _ _; obtain ⟨a7, c7, rfl⟩ := h122; go_wp2_with fail; exact ⟨rfl, Ext.refl _, rfl, rfl⟩
              · intro w1 hx1; rintro _ rfl; change wpList _ _ _ _ _ _; exact ob_move rfl rfl rfl rfl rfl
              · intro w1 hx1; rintro _ rfl; rintro _ rfl; change wpList _ _ _ _ _ _; go_wp2_with fail; exact ⟨rfl, Ext.refl _, rfl, rfl⟩
              · intro w1 hx1; rintro _ rfl; rintro _ rfl; change wpList _ _ _ _ _ _; go_wp2_with fail; exact ⟨rfl, Ext.refl _, rfl, rfl⟩
              · intro w1 hx1; rintro _ rfl; rintro _ rfl; change wpList _ _ _ _ _ _; have m0 := hx1.cell rb0; go_wp2_with fail; exact ⟨rfl, Ext.refl _, rfl, rfl⟩
              · intro w1 hx1; rintro _ rfl; rintro _ rfl; change wpList _ _ _ _ _ _; go_wp2_with fail; exact ⟨rfl, Ext.refl _, rfl, rfl⟩
              · intro w1 hx1; rintro _ rfl; rintro _ rfl; rintro _ rfl; change wpList _ _ _ _ _ _; have t : ((n : Int) != (n : Int)) = false := bne_self_eq_false _; go_wp2_with fail; exact ⟨rfl, Ext.refl _, rfl, rfl⟩
              · intro w1 hx1; rintro _ rfl; rintro _ rfl; change wpList _ _ _ _ _ _; exact ob_pick rfl rfl rfl rfl rfl rfl
            · intro w1 hx1; rintro _ rfl; rintro _ rfl; rintro _ rfl; rintro _ rfl; rintro _ rfl; rintro _ rfl; rintro _ rfl; rintro _ rfl; rintro _ rfl; rintro _ rfl; rintro _ rfl; intro v122 h122; rintro _ rfl; rintro _ rfl; rintro _ rfl; rintro _ rfl; rintro _ rfl; rintro _ rfl; rintro _ rfl; rintro _ rfl; refine depsThen_nil ?_; dsimp only; simp only [Act.put, List.setIfInBounds_toArray, List.set_cons_zero, List.set_cons_succ]
              replace h122 : (Fact.slen n).p v122 w1 := h122
              have hx51 := HX6.out.trans hx1
              have HB1 := Lib.hid (HB5.out.later hx51)
              have hlo1 := HB5.out.lo
              have HN1 := Lib.hid HB5.out.nm
              have hul6 : ul ≤ 6 := by have h := HB5.out.ix.six _ (predOf_mem HH.out); rw [← HUL.out]; exact h
              by_cases hu0 : ul = 0
              · subst hu0
                go_wp2_with fail
                refine wp_loop_rounds 1 ?_
                rw [rounds_succ]
                go_wp2_with fail
                go_roundw
                case rel => exact ⟨k + 1, R', hlt, by go_num, HB1.out⟩
                case measure => simp [intOf]; omega
              · obtain ⟨g, o2, cap2, e7, eg, hlog, hnm⟩ := names_of (HPT.out.ext hx51) (by rw [HUL.out]; omega) (HB5.out.nm _ (predOf_mem HH.out))
                have hi1 := HXG.out.ext hx51
                have hr1 := HRG.out.ext hx51
                rw [eg] at hi1 hr1
                rw [HUL.out] at hnm
                simp only [Value.slice.injEq] at e7
                obtain ⟨rfl, -, rfl⟩ := e7
                have HN0 : Hid (PlN W base b bp bq rb R' ab #[.int .i64 what, .int .i64 id, .slice ap pl cp, .string (strOf key), .slice av ln cv] g o2 ul 0 w1) := ⟨hi1, hr1, HB1.out.ext, by omega, block_later HA5.out hx51, hnm⟩
                clear hi1 hr1 hnm hx1 hx51 HXG HRG HB1 HB2 HB5 HPT HZ HSM HID2 rb0
                go_wp2_with fail
                go_loopw [133] (fun i2 wr => ∃ j : Nat, j ≤ ul ∧ i2 = .int .i64 j ∧ Hid (PlN W base b bp bq rb R' ab #[.int .i64 what, .int .i64 id, .slice ap pl cp, .string (strOf key), .slice av ln cv] g o2 ul j wr)) (fun i2 _ => ul - (intOf i2).toNat)
                case atStart => exact ⟨0, Nat.zero_le _, rfl, HN0.out⟩
                case round =>
                  clear HN0
                  obtain ⟨j, hj, rfl, hN⟩ := hrel
                  by_cases hjl : j < ul
                  · have hI2 : decide ((j : Int) < (ul : Int)) = true := decide_eq_true (by omega)
                    have hjN : (j : Int) < (ul : Int) := by omega
                    obtain ⟨cs2, hg2, hnm⟩ := hN.out.nm
                    obtain ⟨s2, hs2, hsz2⟩ := hnm j (Nat.le_refl _) hjl
                    have hsz3 : ¬ 9223372036854775807 < s2.size + 1 := by omega
                    have q0 := cell_of_row _ _ (o2 + j * 7) _ _ _ hg2
                    rw [hs2] at q0
                    have z0 := frozen_of_row _ _ (o2 + j * 7) _ _ hg2
                    clear hnm
                    go_wp2_with fail
                    go_roundw
                    case rel => exact ⟨j + 1, hjl, by go_num, hN.out.write _⟩
                    case measure => simp [intOf]; omega
                  · obtain rfl : j = ul := by omega
                    have hI2 : decide ((j : Int) < (j : Int)) = false := decide_eq_false (by omega)
                    go_wp2_with fail
                    go_roundw
                    case rel => exact ⟨k + 1, R', hlt, by go_num, ⟨hN.out.ix.1, hN.out.rx.1, hN.out.ext, hlo1, HN1.out⟩⟩
                    case measure => simp [intOf]; omega
      · obtain rfl : k = m := by omega
        by_cases hkN : k < N
        · have hI : decide ((k : Int) < (N : Int)) = true := decide_eq_true (by omega)
          have hkNi : (k : Int) < (N : Int) := by omega
          have hk3 : ((k : Int) == 300) = true := beq_iff_eq.2 (by have := HF3.out; omega)
          have hkl : k < us.length := by have := HN.out; omega
          obtain ⟨B, o, rfl, f0, f1, f2, f3, f4⟩ := (HU.out.ext hB.out.ext).at hkl
          have hpr := HU.out.hs _ (List.getElem_mem hkl)
          have hls := HU.out.ls _ (List.getElem_mem hkl)
          generalize us[k] = x at *
          obtain ⟨what, id, h, p, key, va, l⟩ := x
          dsimp only at f0 f1 f2 f3 f4 hpr hls
          obtain ⟨ap, cp, rfl, _, _⟩ := hpr.shape
          obtain ⟨av, cv, rfl, _, _⟩ := Row.shape hls
          clear hpr hls
          go_wp2_with fail
          go_meet
          exact ⟨R, hB.out.later ((Ext.refl _).alloc _)⟩
        · have hI : decide ((k : Int) < (N : Int)) = false := decide_eq_false (by omega)
          go_wp2_with fail
          go_meet
          exact ⟨R, hB.out⟩
  case rest =>
    obtain ⟨R, hB⟩ := hcut
    clear HB0
    obtain ⟨lv, L, hri, hS, hl256⟩ := hB.out.rx.ex
    obtain ⟨la, lc, rfl, _, _⟩ := own_shape hri.row
    have HB := Lib.hid hB.out
    have HRI := Lib.hid hri
    have HS := Lib.hid hS
    have hi := ix_ids hB.out.ix (sS L) hS
    rw [sS_ids] at hi
    have HI := Lib.hid hi
    clear hi hri hS hB
    obtain ⟨n, hn⟩ : ∃ n, n = L.length := ⟨_, rfl⟩
    have HNL := Lib.hid hn
    rw [← hn] at HI HRI hl256
    clear hn
    go_wp2_with (go_at_call 12; (with_reducible refine HI.out.mono ?_); rintro e w4 ⟨ai, ci, rfl, ho, hx⟩; have HX := Lib.hid (HB.out.ext.trans hx); have HR4 := Lib.hid (HRI.out.ext hx); have HO := Lib.hid (show IntR w4 (.slice ai n ci) ((sS L).map (·.1)) from own_int (by rw [sS_ids, ← HNL.out]; exact ho)); clear ho hx)
    go_loopw [149] (fun i wr => ∃ k : Nat, k ≤ n ∧ i = .int .i64 k ∧ Hid (Ext w4 wr)) (fun i _ => n - (intOf i).toNat)
    case atStart => exact ⟨0, Nat.zero_le _, rfl, Ext.refl _⟩
    case round =>
      obtain ⟨k, hk, rfl, hx⟩ := hrel
      by_cases hlt : k < n
      · have hI : decide ((k : Int) < (n : Int)) = true := decide_eq_true (by omega)
        have hkN : (k : Int) < (n : Int) := by omega
        have hkl : k < L.length := by have := HNL.out; omega
        have hki : k < ((sS L).map (·.1)).length := by rw [sS_ids]; exact hkl
        obtain ⟨B1, o1, rfl, f0⟩ := (HO.out.ext hx.out).at hki
        obtain ⟨B2, o2, rfl, g0, g1⟩ := (HR4.out.ext hx.out).at hkl
        have rb0 := cell_of_row _ _ 0 _ _ _ (HR4.out.ext hx.out).box
        rw [List.getElem_map, sS_fst (by rw [sS_len]; exact hkl) hkl] at f0
        generalize L[k].id = z at *
        have t : (z != z) = false := bne_self_eq_false _
        go_wp2_with fail
        go_roundw
        case rel => exact ⟨k + 1, hlt, by go_num, hx.out⟩
        case measure => simp [intOf]; omega
      · obtain rfl : k = n := by omega
        have hI : decide ((k : Int) < (k : Int)) = false := decide_eq_false (by omega)
        go_wp2_with fail
        go_ret
        exact ⟨rfl, HX.out.trans hx.out⟩
end Go.Proofs.YtckigoeomkphhaaGreat
