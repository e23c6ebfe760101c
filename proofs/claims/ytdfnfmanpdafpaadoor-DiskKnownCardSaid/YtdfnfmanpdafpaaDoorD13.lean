/- Disk: Sync, Remove. -/
import Derived.Test.YtdfnfmanpdafpaaDoorD12
namespace Go.Proofs.YtdfnfmanpdafpaaDoor
open Go.RowKit Go.MapKept

theorem there_fact (w : World) (b : Nat) (n : List UInt8) : Calls Tryd.prog 34 #[.pointer (some ⟨b, 0, none⟩), .string (strOf n)] w fun e w' => ∃ b1 b2, e = .returned (tqV b1 b2) ∧ SBox w' b1 n ∧ PBox w' b2 b ∧ Ext w w' := by
  refine (there_any w (some ⟨b, 0, none⟩) (strOf n)).mono ?_
  rintro e w' ⟨rfl, rfl⟩
  obtain ⟨h1, h2, h3⟩ := boxes2 w (.cells #[.pointer (some ⟨b, 0, none⟩)] 25) (.cells #[.string (strOf n)] 9)
  exact ⟨_, _, rfl, h3, h2, h1⟩
theorem thereG_S {gs : List FG} {S : DS} (h : gs.map FG.fl = S.fs) (n : List UInt8) : thereG gs n = thereE S n := by
  unfold thereG thereE; rw [dkG_get h n, Option.isSome_map]
theorem thereG_zero {gs : List FG} {n : List UInt8} (h : thereG gs n = 0) : ∃ g, nget FG.nm gs n = some g := by
  unfold thereG at h
  split at h
  · split at h
    · rename_i h1; exact Option.isSome_iff_exists.1 h1
    · cases h
  · cases h
/-- What is asked ahead of Sync and Remove. -/
theorem asks2 (w w1 : World) (b bm b1 b2 : Nat) (gs : List FG) (S : DS) (n : List UInt8) (hx : Ext w w1) (h1 : SBox w1 b1 n) (h2 : PBox w1 b2 b) (hd : DkR w b bm gs S.q S.fz S.off) (hg : gs.map FG.fl = S.fs) (f0 : -1 ≤ S.fz) (f1 : S.fz < 9223372036854775808) :
    Calls Tryd.prog 33 #[.slice (some ⟨w1.heap.size, 0, none⟩) 3 3] (w1.alloc (.cells #[.func (.func 30) #[.pointer (some ⟨b, 0, none⟩)] #[], tqV b1 b2, .func (.func 39) #[.pointer (some ⟨b, 0, none⟩)] #[]] 61)) fun e w' =>
      e = .returned (.int .i64 (askdE S (syncL S n))) ∧ DkR w' b bm gs (askdS S (syncL S n) id).q (askdS S (syncL S n) id).fz (askdS S (syncL S n) id).off ∧ ∃ w0, Ext w w0 ∧ Turns [b] w0 w' := by
  obtain ⟨hxa, hra⟩ := boxes1 w1 (.cells #[.func (.func 30) #[.pointer (some ⟨b, 0, none⟩)] #[], tqV b1 b2, .func (.func 39) #[.pointer (some ⟨b, 0, none⟩)] #[]] 61)
  have hda := hd.ext (hx.trans hxa)
  have hcs : [offE S, thereG gs n] = syncL S n := by unfold syncL; rw [thereG_S hg]
  have hF := firstq_dk _ w1.heap.size b bm gs S [(_, offE S), (_, thereG gs n)] hra (by simp) ⟨answersQ hda, fun _ => ⟨therQ (h1.ext hxa) (h2.ext hxa) hda, fun _ => trivial⟩⟩ hda f0 f1
  simp only [List.map_cons, List.map_nil] at hF
  rw [hcs] at hF
  refine hF.mono ?_
  rintro e w' ⟨rfl, hd', ht⟩
  exact ⟨rfl, hd', _, hx.trans hxa, ht⟩
theorem sync_there {gs : List FG} {S : DS} {n : List UInt8} (hg : gs.map FG.fl = S.fs) (h : firstE (syncL S n) = 0) : ∃ g, nget FG.nm gs n = some g :=
  thereG_zero (by rw [thereG_S hg]; exact firstE_zero h _ (by simp [syncL]))
theorem setCell_row {w : World} {p i : Nat} {c : Array Value} {t : TypeId} {fr : Nat × Nat} (h : w.heap[p]? = some (.cells c t fr)) (v : Value) : (w.setCell ⟨p, i, none⟩ v).heap[p]? = some (.cells (c.setIfInBounds i v) t fr) := by
  show (w.heap.modify p _)[p]? = _
  rw [Array.getElem?_modify, if_pos rfl, h]
  rfl
theorem DkR.file {w : World} {b bm : Nat} {gs : List FG} {q fz : Int} {off : Bool} (h : DkR w b bm gs q fz off) {n : List UInt8} {g : FG} (hg : nget FG.nm gs n = some g) :
    ∃ fa fc, g.h = .slice fa g.b.length fc ∧ w.heap[g.p]? = some (.cells #[.slice fa g.b.length fc, .int .i64 g.fast] 70 (0, 0)) ∧
      ∀ w', Ext w w' → (Instr.lookup 56 (.map (some bm)) (.string (strOf n)) false).run Tryd.prog w' = .ok (.pointer (some ⟨g.p, 0, none⟩)) w' := by
  have hf := h.files g (nget_some hg).1
  obtain ⟨fa, fc, hfh, hfc, hfm⟩ := own_shape hf.row
  have hc := hf.cell
  rw [hfh] at hc
  refine ⟨fa, fc, hfh, hc, fun w' hx => ?_⟩
  have := (h.ext hx).look n
  unfold ptrG at this
  rw [hg] at this
  exact this
theorem file_no_own {w : World} {g : FG} (h : FileR w g) {base size n : Nat} {v : Value} {xs : List Value} (k : w.ownsRow base 5 size v n xs) : v.ownBlock ≠ some g.p := own_ne k h.cell (by decide)
set_option maxRecDepth 100000 in
set_option maxHeartbeats 8000000 in
theorem sync_any (w : World) (b : Nat) (F : List Nat) (S : DS) (n : List UInt8) (hd : Dk w b F S) (f0 : -1 ≤ S.fz) (f1 : S.fz < 9223372036854775808) :
    Calls Tryd.prog 25 #[.pointer (some ⟨b, 0, none⟩), .string (strOf n)] w fun e w' => e = .returned (.int .i64 (askdE S (syncL S n))) ∧ LeftD w b F (askdS S (syncL S n) (syncA n)) w' := by
  obtain ⟨bm, gs, hd, hgs, rfl⟩ := hd
  have hask := fun w1 b1 b2 hx h1 h2 => asks2 w w1 b bm b1 b2 gs S n hx h1 h2 hd hgs f0 f1
  obtain ⟨c, hc⟩ : ∃ c, c = askdE S (syncL S n) := ⟨_, rfl⟩
  rw [← hc] at hask ⊢
  have HC := Lib.hid hc
  have HGS := Lib.hid hgs
  have HD := Lib.hid hd
  have HASK := Lib.hid hask
  clear hgs hd hask f0 f1 hc
  go_enter Tryd.func25, Tryd.ntmps25
  go_upto_region 2 with (first
    | (go_at_call 34; (with_reducible refine (there_fact _ b n).mono ?_); rintro e w1 ⟨b1, b2, rfl, hs1, hp1, hx1⟩; have HCL := Lib.hid (HASK.out w1 b1 b2 hx1 hs1 hp1); clear hs1 hp1 hx1)
    | (go_at_call 33; (with_reducible refine HCL.out.mono ?_); rintro e w3 ⟨rfl, hd3, w0, hx0, ht3⟩; have HD3 := Lib.hid hd3; have HT3 := Lib.hid ht3; have HX0 := Lib.hid hx0; clear hd3 ht3 hx0))
  clear HCL HASK
  by_cases hc0 : c = 0
  · have hyes := askd_yes (S := S) (l := syncL S n) (by rw [← HC.out]; exact hc0) (syncA n)
    subst hc0
    have HY := Lib.hid hyes
    obtain ⟨g, hg⟩ := sync_there HGS.out hyes.1
    clear hyes
    obtain ⟨fa, fc, hfh, hfc, hlk⟩ := HD3.out.file hg
    obtain ⟨m, hm⟩ : ∃ m, g.b.length = m := ⟨_, rfl⟩
    obtain ⟨gp, hgp⟩ : ∃ gp, g.p = gp := ⟨_, rfl⟩
    rw [hm, hgp] at hfc
    rw [hgp] at hlk
    have n0 := cell_of_row _ _ 0 _ _ _ HD3.out.box
    have n4 := cell_of_row _ _ 0 _ _ _ hfc
    have HFC := Lib.hid hfc
    have HLK := Lib.hid hlk
    have HM := Lib.hid hm
    have HGP := Lib.hid hgp
    have HG := Lib.hid hg
    have HFH := Lib.hid hfh
    clear hm hgp hfc hfh hlk hg
    go_upto_region 3 with fail
    refine wp_region_chain 18 [Fact.eq (.pointer (some ⟨b, 0, none⟩)),
        Fact.eq (.pointer (some ⟨b, 0, none⟩)),
        Fact.eq (.pointer (some ⟨b, 0, none⟩)),
        Fact.eq (.map (some bm)),
        Fact.eq (.string (strOf n)),
        Fact.eq (.pointer (some ⟨gp, 0, none⟩)),
        Fact.eq (.pointer (some ⟨b, 0, none⟩)),
        Fact.eq (.pointer (some ⟨b, 0, none⟩)),
        Fact.eq (.pointer (some ⟨b, 0, none⟩)),
        Fact.eq (.map (some bm)),
        Fact.eq (.string (strOf n)),
        Fact.eq (.pointer (some ⟨gp, 0, none⟩)),
        Fact.eq (.pointer (some ⟨gp, 0, none⟩)),
        Fact.eq (.pointer (some ⟨gp, 0, none⟩)),
        Fact.eq (.slice fa m fc),
        Fact.eq (.int .i64 m),
        Fact.eq (.pointer (some ⟨gp, 0, none⟩)),
        Fact.eq (.pointer (some ⟨gp, 1, none⟩))]
      [[], [(0, 17)], [(1, 18)], [(2, 19)], [], [(3, 20), (4, 21)], [], [(6, 23)], [(7, 24)], [(8, 25)], [], [(9, 26), (10, 27)], [(11, 28)], [(12, 29)], [(13, 30)], [(14, 31)], [(5, 22)], [(16, 33)]]
      [(0, 17), (1, 18), (2, 19), (3, 20), (4, 21), (5, 22), (6, 23), (7, 24), (8, 25), (9, 26), (10, 27), (11, 28), (12, 29), (13, 30), (14, 31), (15, 32), (16, 33), (17, 34)] (by kernel_rfl) (by kernel_rfl) ?_ ?_
    · refine ⟨?_, ?_, ?_, ?_, ?_, ?_, ?_, ?_, ?_, ?_, ?_, ?_, ?_, ?_, ?_, ?_, ?_, ?_, trivial⟩
      · intro w1 hx1; change wpList _ _ _ _ _ _; exact ob_move rfl rfl rfl rfl rfl
      · intro w1 hx1; rintro _ rfl; change wpList _ _ _ _ _ _; go_wp2_with fail; exact ⟨rfl, Ext.refl _, rfl, rfl⟩
      · intro w1 hx1; rintro _ rfl; change wpList _ _ _ _ _ _; go_wp2_with fail; exact ⟨rfl, Ext.refl _, rfl, rfl⟩
      · intro w1 hx1; rintro _ rfl; change wpList _ _ _ _ _ _; have m0 := hx1.cell n0; go_wp2_with fail; exact ⟨rfl, Ext.refl _, rfl, rfl⟩
      · intro w1 hx1; change wpList _ _ _ _ _ _; exact ob_move rfl rfl rfl rfl rfl
      · intro w1 hx1; rintro _ rfl; rintro _ rfl; change wpList _ _ _ _ _ _; have k1 := HLK.out w1 hx1; go_wp2_with fail; exact ⟨rfl, Ext.refl _, rfl, rfl⟩
      · intro w1 hx1; change wpList _ _ _ _ _ _; exact ob_move rfl rfl rfl rfl rfl
      · intro w1 hx1; rintro _ rfl; change wpList _ _ _ _ _ _; go_wp2_with fail; exact ⟨rfl, Ext.refl _, rfl, rfl⟩
      · intro w1 hx1; rintro _ rfl; change wpList _ _ _ _ _ _; go_wp2_with fail; exact ⟨rfl, Ext.refl _, rfl, rfl⟩
      · intro w1 hx1; rintro _ rfl; change wpList _ _ _ _ _ _; have m0 := hx1.cell n0; go_wp2_with fail; exact ⟨rfl, Ext.refl _, rfl, rfl⟩
      · intro w1 hx1; change wpList _ _ _ _ _ _; exact ob_move rfl rfl rfl rfl rfl
      · intro w1 hx1; rintro _ rfl; rintro _ rfl; change wpList _ _ _ _ _ _; have k1 := HLK.out w1 hx1; go_wp2_with fail; exact ⟨rfl, Ext.refl _, rfl, rfl⟩
      · intro w1 hx1; rintro _ rfl; change wpList _ _ _ _ _ _; go_wp2_with fail; exact ⟨rfl, Ext.refl _, rfl, rfl⟩
      · intro w1 hx1; rintro _ rfl; change wpList _ _ _ _ _ _; go_wp2_with fail; exact ⟨rfl, Ext.refl _, rfl, rfl⟩
      · intro w1 hx1; rintro _ rfl; change wpList _ _ _ _ _ _; have m0 := hx1.cell n4; go_wp2_with fail; exact ⟨rfl, Ext.refl _, rfl, rfl⟩
      · intro w1 hx1; rintro _ rfl; change wpList _ _ _ _ _ _; go_wp2_with fail; exact ⟨rfl, Ext.refl _, rfl, rfl⟩
      · intro w1 hx1; rintro _ rfl; change wpList _ _ _ _ _ _; go_wp2_with fail; exact ⟨rfl, Ext.refl _, rfl, rfl⟩
      · intro w1 hx1; rintro _ rfl; change wpList _ _ _ _ _ _; go_wp2_with fail; exact ⟨rfl, Ext.refl _, rfl, rfl⟩
    · intro w1 hx1; rintro _ rfl; rintro _ rfl; rintro _ rfl; rintro _ rfl; rintro _ rfl; rintro _ rfl; rintro _ rfl; rintro _ rfl; rintro _ rfl; rintro _ rfl; rintro _ rfl; rintro _ rfl; rintro _ rfl; rintro _ rfl; rintro _ rfl; rintro _ rfl; rintro _ rfl; rintro _ rfl; refine depsThen_nil ?_; dsimp only; simp only [Act.put, List.setIfInBounds_toArray, List.set_cons_zero, List.set_cons_succ, List.drop_succ_cons, List.drop_zero]
      have k5 := cell_of_row _ _ 1 _ _ _ (block_later HFC.out hx1)
      have j5 := frozen_of_row _ _ 1 _ _ (block_later HFC.out hx1)
      have hd4 := HD3.out.ext hx1
      have hfin : LeftD w b (foot b bm gs) (askdS S (syncL S n) (syncA n)) (w1.setCell ⟨gp, 1, none⟩ (.int .i64 m)) := by
        have hgm := (nget_some HG.out).1
        have hf := hd4.files g hgm
        have hset := hd4.set (g := g) (g' := { g with fast := m }) (w' := w1.setCell ⟨gp, 1, none⟩ (.int .i64 m)) hgm rfl rfl ((turns_cell w1 gp 1 _).wide (fun i hi => by rw [← HGP.out] at hi; simp at hi; subst hi; simp [ftG])) ⟨by
            have := setCell_row (i := 1) hf.cell (.int .i64 m)
            rw [HGP.out] at this
            show (w1.setCell ⟨gp, 1, none⟩ (.int .i64 m)).heap[g.p]? = _
            rw [HGP.out]
            exact this, (turns_cell w1 gp 1 _).own hf.row fun q hq e => by
            simp at e; subst e; rw [← HGP.out] at hq; exact file_no_own hf hf.row hq⟩ (fun k hk => .inl hk)
        refine leftD_yes HX0.out (HT3.out.trans (Turns.of_ext (F := [b]) hx1) fun i hi => .inl hi) hset.1 hset.2 ?_ ?_ ?_ ?_
        · rw [HY.out.2]
          show _ = syncA n S.fs
          unfold syncA
          rw [dkG_get HGS.out n, HG.out, ← HGS.out]
          show _ = nset Fl.nm (gs.map FG.fl) (FG.fl { g with fast := g.b.length })
          rw [nset_map fl_nm, HM.out]
        · rw [HY.out.2]
        · rw [HY.out.2]
        · rw [HY.out.2]
      have HFIN := Lib.hid hfin
      clear hfin hd4 hx1 n0 n4
      go_wp2_with fail
      exact bodyPost_ret (v := .int .i64 0) (by simp [results, Tryd.results25, go_sem]) rfl ⟨rfl, HFIN.out⟩
  · have hno := askd_no (S := S) (l := syncL S n) (by rw [← HC.out]; exact hc0) (syncA n)
    have hfin : LeftD w b (foot b bm gs) (askdS S (syncL S n) (syncA n)) w3 := by
      rw [hno]; exact leftD_no HX0.out HD3.out HT3.out HGS.out (askd_fs _ _)
    have HFIN := Lib.hid hfin
    have hcn : ((c : Int) == 0) = false := by rw [beq_eq_false_iff_ne]; exact hc0
    clear hno hfin hc0
    go_wp2_with fail
    exact bodyPost_ret (v := .int .i64 c) (by simp [results, Tryd.results25, go_sem]) rfl ⟨rfl, HFIN.out⟩
end Go.Proofs.YtdfnfmanpdafpaaDoor
