/- PredMore, walked. -/
import Derived.Test.YtkefppdacigbmaaA16
namespace Go.Proofs.Ytkefppdacigbmaa
open Go.RowKit Go.Sort

set_option maxRecDepth 100000 in
set_option maxHeartbeats 8000000 in
theorem predMore_walk (w : World) (v u : Value) (p q : List C) (key : List UInt8) (va : Value) (l : List (List UInt8 × V)) (hp : PredR w v p) (hq : PredR w u q) (hl : AttrR w va l) (hpl : p.length ≤ 1048576) (hql : q.length ≤ 1048576) :
    Calls Try.prog 5 #[v, u, .agg #[.string (strOf key), va]] w fun e w' => e = .returned (.bool true) ∧ Ext w w' := by
  obtain ⟨ap, cp, rfl, _, _⟩ := hp.shape
  obtain ⟨aq, cq, rfl, _, _⟩ := hq.shape
  obtain ⟨aa, ca, rfl, _, _⟩ := Row.shape hl
  have hx0 : Ext w (w.alloc (.cells #[.string (strOf key), .slice aa l.length ca] 26)) := (Ext.refl w).alloc _
  have hE := heap_alloc_new w (.cells #[.string (strOf key), .slice aa l.length ca] 26)
  have e0 := cell_of_row _ _ 0 _ _ _ hE
  have e1 := cell_of_row _ _ 1 _ _ _ hE
  obtain ⟨usp, hmp, hrp, hsp⟩ := hp
  obtain ⟨usq, hmq, hrq, hsq⟩ := hq
  have lp : usp.length = p.length := by rw [← hmp, List.length_map]
  have lq : usq.length = q.length := by rw [← hmq, List.length_map]
  rw [← lp] at hrp hpl ⊢
  rw [← lq] at hrq hql ⊢
  have hone1 := csC_one usp (fun x hx => set_one (hsp x hx))
  have hone2 := csC_one usq (fun x hx => set_one (hsq x hx))
  have hmade := World.ownsRow_made (base := (w.alloc (.cells #[.string (strOf key), .slice aa l.length ca] 26)).heap.size) (e := 31) (size := 7) (w.alloc (.cells #[.string (strOf key), .slice aa l.length ca] 26)) #[] 0 (Nat.le_refl _) (Nat.zero_le _) (by simp)
  have hxM : Ext (w.alloc (.cells #[.string (strOf key), .slice aa l.length ca] 26)) ((w.alloc (.cells #[.string (strOf key), .slice aa l.length ca] 26)).alloc (.cells #[] 31)) := (Ext.refl _).alloc _
  rw [World.size_alloc] at hmade
  have hszE : (w.alloc (.cells #[.string (strOf key), .slice aa l.length ca] 26)).heap.size = w.heap.size + 1 := World.size_alloc _ _
  have hszM := hxM.size
  rw [hszE] at hszM
  have hbE : ∀ (k : Nat), w.heap.size + 1 ≤ k → (w.alloc (.cells #[.string (strOf key), .slice aa l.length ca] 26)).heap.size ≤ k := fun k hk => by rw [hszE]; exact hk
  have HBE := Lib.hid hbE
  clear hszE hbE
  have HRP := Lib.hid (hrp.ext (hx0.trans hxM))
  have HO1 := Lib.hid hone1
  have HO2 := Lib.hid hone2
  have HMADE := Lib.hid hmade
  have HRQ := Lib.hid hrq
  have HSP := Lib.hid hsp
  have HSQ := Lib.hid hsq
  have HMP := Lib.hid hmp
  have HMQ := Lib.hid hmq
  have HL := Lib.hid hl
  have hrp2 : PredR w (.slice ap usp.length cp) p := ⟨usp, hmp, hrp, hsp⟩
  have hrq2 : PredR w (.slice aq usq.length cq) q := ⟨usq, hmq, hrq, hsq⟩
  have HP := Lib.hid hrp2
  have HQ := Lib.hid hrq2
  clear hmp hrp hsp hmq hrq hsq hone1 hone2 hmade hl hE hrp2 hrq2 lp lq
  go_enter Try.func5, Try.ntmps5
  go_wp2_with (first | (at_builtin; refine wpList_append_row 23 31 (.tmp 8) (.tmp 9) rfl (w.heap.size + 1) _ 7 88 Try.underlying23 info31t rfl (by decide) rfl _ 0 [] rfl HMADE.out usp.length (usp.flatMap csC) HRP.out HO1.out (by omega) (by unfold maxLen; omega) hszM ?_; intro v1 w1 hown1 hg1; have hx1 : Ext (w.alloc (.cells #[.string (strOf key), .slice aa l.length ca] 26)) w1 := hxM.grown_none hg1 (fun k hk => HBE.out k (own_base HMADE.out k hk)); have HOW1 := Lib.hid hown1; have hsz1 := Nat.le_trans hszM hg1.size; clear hown1 hg1 hxM) | (at_builtin; refine wpList_append_row 23 31 (.tmp 10) (.tmp 11) rfl (w.heap.size + 1) _ 7 88 Try.underlying23 info31t rfl (by decide) rfl _ (0 + usp.length) ([] ++ usp.flatMap csC) rfl HOW1.out usq.length (usq.flatMap csC) (HRQ.out.ext (hx0.trans hx1)) HO2.out (by omega) (by unfold maxLen; omega) hsz1 ?_; intro v2 w2 hown2 hg2; have hx2 : Ext (w.alloc (.cells #[.string (strOf key), .slice aa l.length ca] 26)) w2 := hx1.grown_none hg2 (fun k hk => HBE.out k (own_base HOW1.out k hk)); have HOW2 := Lib.hid hown2; clear hown2 hg2))
  have hxw := hx0.trans hx2
  have hB : PredR w2 v2 (p ++ q) := by
    have e : p ++ q = (usp ++ usq).map CS.c := by rw [List.map_append, HMP.out, HMQ.out]
    have hr := Row.of_own HOW2.out
    rw [Nat.zero_add, List.nil_append, ← List.flatMap_append, ← List.length_append] at hr
    rw [e]
    refine PredR.mk _ hr fun x hx => ?_
    rcases List.mem_append.1 hx with hx | hx
    · exact (HSP.out x hx).ext hxw
    · exact (HSQ.out x hx).ext hxw
  have HB := Lib.hid hB
  have HP2 := Lib.hid (HP.out.ext hxw)
  have HQ2 := Lib.hid (HQ.out.ext hxw)
  have HL2 := Lib.hid (HL.out.ext hxw)
  have g0 := hx2.cell e0
  have g1 := hx2.cell e1
  clear e0 e1
  have hall : matchP (p ++ q) l = (matchP p l && matchP q l) := by unfold matchP; rw [List.all_append]
  have HALL := Lib.hid hall
  generalize w.alloc (.cells #[.string (strOf key), .slice aa l.length ca] 26) = w0 at *
  clear hB HOW1 HOW2 HRP HRQ HO1 HO2 HMADE HSP HSQ HMP HMQ hall hx0 hx1
  generalize hMp : matchP p l = Mp at *
  generalize hMq : matchP q l = Mq at *
  have HMp := Lib.hid hMp
  have HMq := Lib.hid hMq
  clear hMp hMq
  have hm0 : matchP [] l = true := rfl
  cases Mp
  · go_upto_region 2 with fail
    refine wp_region_facts [Fact.eq (.bool true),
        Fact.eq (.bool true),
        Fact.eq v2,
        Fact.eq (.agg #[.string (strOf key), .slice aa l.length ca]),
        Fact.eq (.bool (false && Mq)),
        Fact.eq (.slice ap usp.length cp),
        Fact.eq (.agg #[.string (strOf key), .slice aa l.length ca]),
        Fact.eq (.bool false),
        Fact.eq (.bool false),
        Fact.eq undef,
        Fact.eq undef,
        Fact.eq undef,
        Fact.eq (.bool false),
        Fact.eq (.bool true),
        Fact.eq (.bool true),
        Fact.eq (.bool true),
        Fact.eq (.agg #[.string (strOf key), .slice aa l.length ca]),
        Fact.eq (.bool true),
        Fact.eq (.bool true),
        Fact.eq (.bool true)]
      [[], [(0, 13)], [(1, 14)], [(1, 14)], [(2, 15), (3, 16), (1, 14)], [(1, 14)], [(1, 14)], [(5, 18), (6, 19), (1, 14)], [(7, 20), (1, 14)], [(8, 21)], [(8, 21)], [(9, 22), (10, 23), (8, 21)], [(8, 21), (11, 24), (1, 14)], [(4, 17), (12, 25), (1, 14)], [(1, 14), (13, 26)], [(14, 27)], [(15, 28)], [(16, 29), (15, 28)], [(15, 28), (17, 30)], [(18, 31)]]
      [(0, 13), (1, 14), (2, 15), (3, 16), (4, 17), (5, 18), (6, 19), (7, 20), (8, 21), (9, 22), (10, 23), (11, 24), (12, 25), (13, 26), (14, 27), (15, 28), (16, 29), (17, 30), (18, 31), (19, 6)] (by kernel_rfl) (by kernel_rfl) ?_ ?_
    · refine ⟨?_, ?_, ?_, ?_, ?_, ?_, ?_, ?_, ?_, ?_, ?_, ?_, ?_, ?_, ?_, ?_, ?_, ?_, ?_, ?_, trivial⟩
      · intro w1 hx1; change wpList _ _ _ _ _ _; go_wp2_with fail; refine (awake_any w1).mono ?_; rintro e w3 ⟨rfl, hx3⟩; go_wp2_with fail; exact ⟨rfl, hx3, rfl, rfl⟩
      · intro w1 hx1; rintro _ rfl; change wpList _ _ _ _ _ _; exact ob_move rfl rfl rfl rfl rfl
      · intro w1 hx1; rintro _ rfl; change wpList _ _ _ _ _ _; exact ob_move rfl rfl rfl rfl rfl
      · intro w1 hx1; rintro _ rfl; change wpList _ _ _ _ _ _; have m0 := hx1.cell g0; have m1 := hx1.cell g1; go_wp2_with fail; exact ⟨rfl, Ext.refl _, rfl, rfl⟩
      · intro w1 hx1; rintro _ rfl; rintro _ rfl; rintro _ rfl; change wpList _ _ _ _ _ _; go_wp2_with fail; refine (matches_any w1 _ (p ++ q) key _ l (HB.out.ext hx1) (HL2.out.ext hx1)).mono ?_; rw [HALL.out]; rintro e w3 ⟨rfl, hx3⟩; go_wp2_with fail; exact ⟨rfl, hx3, rfl, rfl⟩
      · intro w1 hx1; rintro _ rfl; change wpList _ _ _ _ _ _; exact ob_move rfl rfl rfl rfl rfl
      · intro w1 hx1; rintro _ rfl; change wpList _ _ _ _ _ _; have m0 := hx1.cell g0; have m1 := hx1.cell g1; go_wp2_with fail; exact ⟨rfl, Ext.refl _, rfl, rfl⟩
      · intro w1 hx1; rintro _ rfl; rintro _ rfl; rintro _ rfl; change wpList _ _ _ _ _ _; go_wp2_with fail; refine (matches_any w1 _ p key _ l (HP2.out.ext hx1) (HL2.out.ext hx1)).mono ?_; rw [HMp.out]; rintro e w3 ⟨rfl, hx3⟩; go_wp2_with fail; exact ⟨rfl, hx3, rfl, rfl⟩
      · intro w1 hx1; rintro _ rfl; rintro _ rfl; change wpList _ _ _ _ _ _; exact ob_move rfl rfl rfl rfl rfl
      · intro w1 hx1; rintro _ rfl; change wpList _ _ _ _ _ _; exact ob_skip rfl rfl rfl rfl
      · intro w1 hx1; rintro _ rfl; change wpList _ _ _ _ _ _; exact ob_skip rfl rfl rfl rfl
      · intro w1 hx1; rintro _ rfl; rintro _ rfl; rintro _ rfl; change wpList _ _ _ _ _ _; exact ob_skip rfl rfl rfl rfl
      · intro w1 hx1; rintro _ rfl; rintro _ rfl; rintro _ rfl; change wpList _ _ _ _ _ _; exact ob_pick rfl rfl rfl rfl rfl rfl
      · intro w1 hx1; rintro _ rfl; rintro _ rfl; rintro _ rfl; change wpList _ _ _ _ _ _; go_wp2_with fail; exact ⟨rfl, Ext.refl _, rfl, rfl⟩
      · intro w1 hx1; rintro _ rfl; rintro _ rfl; change wpList _ _ _ _ _ _; exact ob_pick rfl rfl rfl rfl rfl rfl
      · intro w1 hx1; rintro _ rfl; change wpList _ _ _ _ _ _; exact ob_move rfl rfl rfl rfl rfl
      · intro w1 hx1; rintro _ rfl; change wpList _ _ _ _ _ _; have m0 := hx1.cell g0; have m1 := hx1.cell g1; go_wp2_with fail; exact ⟨rfl, Ext.refl _, rfl, rfl⟩
      · intro w1 hx1; rintro _ rfl; rintro _ rfl; change wpList _ _ _ _ _ _; go_wp2_with fail; refine (matches_any w1 _ [] key _ l (PredR.nil _) (HL2.out.ext hx1)).mono ?_; rw [hm0]; rintro e w3 ⟨rfl, hx3⟩; go_wp2_with fail; exact ⟨rfl, hx3, rfl, rfl⟩
      · intro w1 hx1; rintro _ rfl; rintro _ rfl; change wpList _ _ _ _ _ _; exact ob_pick rfl rfl rfl rfl rfl rfl
      · intro w1 hx1; rintro _ rfl; change wpList _ _ _ _ _ _; exact ob_assign rfl rfl rfl rfl rfl
    · intro w1 hx1; rintro _ rfl; rintro _ rfl; rintro _ rfl; rintro _ rfl; rintro _ rfl; rintro _ rfl; rintro _ rfl; rintro _ rfl; rintro _ rfl; rintro _ rfl; rintro _ rfl; rintro _ rfl; rintro _ rfl; rintro _ rfl; rintro _ rfl; rintro _ rfl; rintro _ rfl; rintro _ rfl; rintro _ rfl; rintro _ rfl; refine depsThen_nil ?_; dsimp only; simp only [Act.put, List.setIfInBounds_toArray, List.set_cons_zero, List.set_cons_succ]
      go_wp2_with fail
      go_ret
      exact ⟨rfl, hxw.trans hx1⟩
  · go_upto_region 2 with fail
    refine wp_region_facts [Fact.eq (.bool true),
        Fact.eq (.bool true),
        Fact.eq v2,
        Fact.eq (.agg #[.string (strOf key), .slice aa l.length ca]),
        Fact.eq (.bool (true && Mq)),
        Fact.eq (.slice ap usp.length cp),
        Fact.eq (.agg #[.string (strOf key), .slice aa l.length ca]),
        Fact.eq (.bool true),
        Fact.eq (.bool true),
        Fact.eq (.slice aq usq.length cq),
        Fact.eq (.agg #[.string (strOf key), .slice aa l.length ca]),
        Fact.eq (.bool Mq),
        Fact.eq (.bool Mq),
        Fact.eq (.bool true),
        Fact.eq (.bool true),
        Fact.eq (.bool true),
        Fact.eq (.agg #[.string (strOf key), .slice aa l.length ca]),
        Fact.eq (.bool true),
        Fact.eq (.bool true),
        Fact.eq (.bool true)]
      [[], [(0, 13)], [(1, 14)], [(1, 14)], [(2, 15), (3, 16), (1, 14)], [(1, 14)], [(1, 14)], [(5, 18), (6, 19), (1, 14)], [(7, 20), (1, 14)], [(8, 21)], [(8, 21)], [(9, 22), (10, 23), (8, 21)], [(8, 21), (11, 24), (1, 14)], [(4, 17), (12, 25), (1, 14)], [(1, 14), (13, 26)], [(14, 27)], [(15, 28)], [(16, 29), (15, 28)], [(15, 28), (17, 30)], [(18, 31)]]
      [(0, 13), (1, 14), (2, 15), (3, 16), (4, 17), (5, 18), (6, 19), (7, 20), (8, 21), (9, 22), (10, 23), (11, 24), (12, 25), (13, 26), (14, 27), (15, 28), (16, 29), (17, 30), (18, 31), (19, 6)] (by kernel_rfl) (by kernel_rfl) ?_ ?_
    · refine ⟨?_, ?_, ?_, ?_, ?_, ?_, ?_, ?_, ?_, ?_, ?_, ?_, ?_, ?_, ?_, ?_, ?_, ?_, ?_, ?_, trivial⟩
      · intro w1 hx1; change wpList _ _ _ _ _ _; go_wp2_with fail; refine (awake_any w1).mono ?_; rintro e w3 ⟨rfl, hx3⟩; go_wp2_with fail; exact ⟨rfl, hx3, rfl, rfl⟩
      · intro w1 hx1; rintro _ rfl; change wpList _ _ _ _ _ _; exact ob_move rfl rfl rfl rfl rfl
      · intro w1 hx1; rintro _ rfl; change wpList _ _ _ _ _ _; exact ob_move rfl rfl rfl rfl rfl
      · intro w1 hx1; rintro _ rfl; change wpList _ _ _ _ _ _; have m0 := hx1.cell g0; have m1 := hx1.cell g1; go_wp2_with fail; exact ⟨rfl, Ext.refl _, rfl, rfl⟩
      · intro w1 hx1; rintro _ rfl; rintro _ rfl; rintro _ rfl; change wpList _ _ _ _ _ _; go_wp2_with fail; refine (matches_any w1 _ (p ++ q) key _ l (HB.out.ext hx1) (HL2.out.ext hx1)).mono ?_; rw [HALL.out]; rintro e w3 ⟨rfl, hx3⟩; go_wp2_with fail; exact ⟨rfl, hx3, rfl, rfl⟩
      · intro w1 hx1; rintro _ rfl; change wpList _ _ _ _ _ _; exact ob_move rfl rfl rfl rfl rfl
      · intro w1 hx1; rintro _ rfl; change wpList _ _ _ _ _ _; have m0 := hx1.cell g0; have m1 := hx1.cell g1; go_wp2_with fail; exact ⟨rfl, Ext.refl _, rfl, rfl⟩
      · intro w1 hx1; rintro _ rfl; rintro _ rfl; rintro _ rfl; change wpList _ _ _ _ _ _; go_wp2_with fail; refine (matches_any w1 _ p key _ l (HP2.out.ext hx1) (HL2.out.ext hx1)).mono ?_; rw [HMp.out]; rintro e w3 ⟨rfl, hx3⟩; go_wp2_with fail; exact ⟨rfl, hx3, rfl, rfl⟩
      · intro w1 hx1; rintro _ rfl; rintro _ rfl; change wpList _ _ _ _ _ _; exact ob_move rfl rfl rfl rfl rfl
      · intro w1 hx1; rintro _ rfl; change wpList _ _ _ _ _ _; exact ob_move rfl rfl rfl rfl rfl
      · intro w1 hx1; rintro _ rfl; change wpList _ _ _ _ _ _; have m0 := hx1.cell g0; have m1 := hx1.cell g1; go_wp2_with fail; exact ⟨rfl, Ext.refl _, rfl, rfl⟩
      · intro w1 hx1; rintro _ rfl; rintro _ rfl; rintro _ rfl; change wpList _ _ _ _ _ _; go_wp2_with fail; refine (matches_any w1 _ q key _ l (HQ2.out.ext hx1) (HL2.out.ext hx1)).mono ?_; rw [HMq.out]; rintro e w3 ⟨rfl, hx3⟩; go_wp2_with fail; exact ⟨rfl, hx3, rfl, rfl⟩
      · intro w1 hx1; rintro _ rfl; rintro _ rfl; rintro _ rfl; change wpList _ _ _ _ _ _; exact ob_pick rfl rfl rfl rfl rfl rfl
      · intro w1 hx1; rintro _ rfl; rintro _ rfl; rintro _ rfl; change wpList _ _ _ _ _ _; have qq : (Mq == Mq) = true := beq_self_eq_true Mq; go_wp2_with fail; exact ⟨rfl, Ext.refl _, rfl, rfl⟩
      · intro w1 hx1; rintro _ rfl; rintro _ rfl; change wpList _ _ _ _ _ _; exact ob_pick rfl rfl rfl rfl rfl rfl
      · intro w1 hx1; rintro _ rfl; change wpList _ _ _ _ _ _; exact ob_move rfl rfl rfl rfl rfl
      · intro w1 hx1; rintro _ rfl; change wpList _ _ _ _ _ _; have m0 := hx1.cell g0; have m1 := hx1.cell g1; go_wp2_with fail; exact ⟨rfl, Ext.refl _, rfl, rfl⟩
      · intro w1 hx1; rintro _ rfl; rintro _ rfl; change wpList _ _ _ _ _ _; go_wp2_with fail; refine (matches_any w1 _ [] key _ l (PredR.nil _) (HL2.out.ext hx1)).mono ?_; rw [hm0]; rintro e w3 ⟨rfl, hx3⟩; go_wp2_with fail; exact ⟨rfl, hx3, rfl, rfl⟩
      · intro w1 hx1; rintro _ rfl; rintro _ rfl; change wpList _ _ _ _ _ _; exact ob_pick rfl rfl rfl rfl rfl rfl
      · intro w1 hx1; rintro _ rfl; change wpList _ _ _ _ _ _; exact ob_assign rfl rfl rfl rfl rfl
    · intro w1 hx1; rintro _ rfl; rintro _ rfl; rintro _ rfl; rintro _ rfl; rintro _ rfl; rintro _ rfl; rintro _ rfl; rintro _ rfl; rintro _ rfl; rintro _ rfl; rintro _ rfl; rintro _ rfl; rintro _ rfl; rintro _ rfl; rintro _ rfl; rintro _ rfl; rintro _ rfl; rintro _ rfl; rintro _ rfl; rintro _ rfl; refine depsThen_nil ?_; dsimp only; simp only [Act.put, List.setIfInBounds_toArray, List.set_cons_zero, List.set_cons_succ]
      go_wp2_with fail
      go_ret
      exact ⟨rfl, hxw.trans hx1⟩
end Go.Proofs.Ytkefppdacigbmaa
