/- Disk: Rename. -/
import Derived.Test.YtdfnfmanpdafpaaDoorD14
namespace Go.Proofs.YtdfnfmanpdafpaaDoor
open Go.RowKit Go.MapKept

/-- What is asked ahead of Rename. -/
theorem asksR (w w1 : World) (b bm b1 b2 c1 c2 : Nat) (gs : List FG) (S : DS) (o n : List UInt8) (hx : Ext w w1) (h1 : SBox w1 b1 o) (h2 : PBox w1 b2 b) (h3 : w1.heap[c1]? = some (.cells #[.bool (!mayN n)] 4 (0, 0))) (h4 : w1.heap[c2]? = some (.cells #[.int .i64 1] 26 (0, 0))) (hd : DkR w b bm gs S.q S.fz S.off) (hg : gs.map FG.fl = S.fs) (f0 : -1 ≤ S.fz) (f1 : S.fz < 9223372036854775808) :
    Calls Tryd.prog 33 #[.slice (some ⟨w1.heap.size, 0, none⟩) 4 4] (w1.alloc (.cells #[.func (.func 30) #[.pointer (some ⟨b, 0, none⟩)] #[], wqV c1 c2, tqV b1 b2, .func (.func 39) #[.pointer (some ⟨b, 0, none⟩)] #[]] 61)) fun e w' =>
      e = .returned (.int .i64 (askdE S (renameL S o n))) ∧ DkR w' b bm gs (askdS S (renameL S o n) id).q (askdS S (renameL S o n) id).fz (askdS S (renameL S o n) id).off ∧ ∃ w0, Ext w w0 ∧ Turns [b] w0 w' := by
  obtain ⟨hxa, hra⟩ := boxes1 w1 (.cells #[.func (.func 30) #[.pointer (some ⟨b, 0, none⟩)] #[], wqV c1 c2, tqV b1 b2, .func (.func 39) #[.pointer (some ⟨b, 0, none⟩)] #[]] 61)
  have hda := hd.ext (hx.trans hxa)
  have hcs : [offE S, errB (!mayN n) 1, thereG gs o] = renameL S o n := by unfold renameL; rw [thereG_S hg]
  have hF := firstq_dk _ w1.heap.size b bm gs S [(_, offE S), (_, errB (!mayN n) 1), (_, thereG gs o)] hra (by simp) ⟨answersQ hda, fun _ => ⟨wrongQ (block_later h3 hxa) (block_later h4 hxa), fun _ => ⟨therQ (h1.ext hxa) (h2.ext hxa) hda, fun _ => trivial⟩⟩⟩ hda f0 f1
  simp only [List.map_cons, List.map_nil] at hF
  rw [hcs] at hF
  refine hF.mono ?_
  rintro e w' ⟨rfl, hd', ht⟩
  exact ⟨rfl, hd', _, hx.trans hxa, ht⟩
set_option maxRecDepth 100000 in
set_option maxHeartbeats 8000000 in
theorem rename_any (w : World) (b : Nat) (F : List Nat) (S : DS) (o n : List UInt8) (hd : Dk w b F S) (f0 : -1 ≤ S.fz) (f1 : S.fz < 9223372036854775808) :
    Calls Tryd.prog 20 #[.pointer (some ⟨b, 0, none⟩), .string (strOf o), .string (strOf n)] w fun e w' => e = .returned (.int .i64 (askdE S (renameL S o n))) ∧ LeftD w b F (askdS S (renameL S o n) (renameA o n)) w' := by
  obtain ⟨bm, gs, hd, hgs, rfl⟩ := hd
  have hask := fun w1 b1 b2 c1 c2 hx h1 h2 h3 h4 => asksR w w1 b bm b1 b2 c1 c2 gs S o n hx h1 h2 h3 h4 hd hgs f0 f1
  obtain ⟨c, hc⟩ : ∃ c, c = askdE S (renameL S o n) := ⟨_, rfl⟩
  rw [← hc] at hask ⊢
  have HC := Lib.hid hc
  have HGS := Lib.hid hgs
  have HASK := Lib.hid hask
  clear hgs hd hask f0 f1 hc
  go_enter Tryd.func20, Tryd.ntmps20
  go_upto_region 2 with (first
    | (go_at_call 28; (with_reducible refine (may_any _ n).mono ?_); rintro e w1 ⟨rfl, hx1⟩; have HXA := Lib.hid hx1; clear hx1)
    | (go_at_call 36; (with_reducible refine (wrong_fact _ (!mayN n) 1).mono ?_); rintro e w1 ⟨c1, c2, rfl, g1, g2, hx1⟩; have HXB := Lib.hid (HXA.out.trans hx1); have HG1 := Lib.hid g1; have HG2 := Lib.hid g2; clear hx1 g1 g2)
    | (go_at_call 34; (with_reducible refine (there_fact _ b o).mono ?_); rintro e w1 ⟨b1, b2, rfl, hs1, hp1, hx1⟩; have HCL := Lib.hid (HASK.out w1 b1 b2 c1 c2 (HXB.out.trans hx1) hs1 hp1 (block_later HG1.out hx1) (block_later HG2.out hx1)); clear hs1 hp1 hx1)
    | (go_at_call 33; (with_reducible refine HCL.out.mono ?_); rintro e w3 ⟨rfl, hd3, w0, hx0, ht3⟩; have HD3 := Lib.hid hd3; have HT3 := Lib.hid ht3; have HX0 := Lib.hid hx0; clear hd3 ht3 hx0))
  clear HCL HASK
  by_cases hc0 : c = 0
  · have hyes := askd_yes (S := S) (l := renameL S o n) (by rw [← HC.out]; exact hc0) (renameA o n)
    subst hc0
    have HY := Lib.hid hyes
    by_cases hon : o = n
    · subst hon
      have hfin : LeftD w b (foot b bm gs) (askdS S (renameL S o o) (renameA o o)) w3 := by
        refine leftD_no HX0.out ?_ HT3.out HGS.out ?_
        · rw [hyes.2]; exact HD3.out
        · rw [hyes.2]; show renameA o o S.fs = S.fs; unfold renameA; rw [if_pos rfl]
      have HFIN := Lib.hid hfin
      clear hyes hfin
      go_wp2_with fail
      exact bodyPost_ret (v := .int .i64 0) (by simp [results, Tryd.results20, go_sem]) rfl ⟨rfl, HFIN.out⟩
    · obtain ⟨g, hg⟩ := thereG_zero (gs := gs) (n := o) (by rw [thereG_S HGS.out]; exact firstE_zero hyes.1 _ (by simp [renameL]))
      have hgm := nget_some hg
      obtain ⟨fa, fc, hfh, hfc, hlk⟩ := HD3.out.file hg
      obtain ⟨gp, hgp⟩ : ∃ gp, g.p = gp := ⟨_, rfl⟩
      rw [hgp] at hlk
      have n0 := cell_of_row _ _ 0 _ _ _ HD3.out.box
      have hsn : strOf o ≠ strOf n := fun e => hon (strOf_inj.1 e)
      have hsd : (o == n) = false := by rw [beq_eq_false_iff_ne]; exact hon
      have HLK := Lib.hid hlk
      have HGP := Lib.hid hgp
      have HG := Lib.hid hg
      have HON := Lib.hid hon
      clear hyes hgm hfh hfc hlk hgp hg hon
      go_upto_region 3 with fail
      clear hsn hsd
      refine wp_region_chain 11 [Fact.eq (.pointer (some ⟨b, 0, none⟩)),
          Fact.eq (.pointer (some ⟨b, 0, none⟩)),
          Fact.eq (.pointer (some ⟨b, 0, none⟩)),
          Fact.eq (.map (some bm)),
          Fact.eq (.string (strOf n)),
          Fact.eq (.pointer (some ⟨b, 0, none⟩)),
          Fact.eq (.pointer (some ⟨b, 0, none⟩)),
          Fact.eq (.pointer (some ⟨b, 0, none⟩)),
          Fact.eq (.map (some bm)),
          Fact.eq (.string (strOf o)),
          Fact.eq (.pointer (some ⟨gp, 0, none⟩))]
        [[], [(0, 28)], [(1, 29)], [(2, 30)], [], [], [(5, 33)], [(6, 34)], [(7, 35)], [], [(8, 36), (9, 37)]]
        [(0, 28), (1, 29), (2, 30), (3, 31), (4, 32), (5, 33), (6, 34), (7, 35), (8, 36), (9, 37), (10, 38)] (by kernel_rfl) (by kernel_rfl) ?_ ?_
      · refine ⟨?_, ?_, ?_, ?_, ?_, ?_, ?_, ?_, ?_, ?_, ?_, trivial⟩
        · intro w1 hx1; change wpList _ _ _ _ _ _; exact ob_move rfl rfl rfl rfl rfl
        · intro w1 hx1; rintro _ rfl; change wpList _ _ _ _ _ _; go_wp2_with fail; exact ⟨rfl, Ext.refl _, rfl, rfl⟩
        · intro w1 hx1; rintro _ rfl; change wpList _ _ _ _ _ _; go_wp2_with fail; exact ⟨rfl, Ext.refl _, rfl, rfl⟩
        · intro w1 hx1; rintro _ rfl; change wpList _ _ _ _ _ _; have m0 := hx1.cell n0; go_wp2_with fail; exact ⟨rfl, Ext.refl _, rfl, rfl⟩
        · intro w1 hx1; change wpList _ _ _ _ _ _; exact ob_move rfl rfl rfl rfl rfl
        · intro w1 hx1; change wpList _ _ _ _ _ _; exact ob_move rfl rfl rfl rfl rfl
        · intro w1 hx1; rintro _ rfl; change wpList _ _ _ _ _ _; go_wp2_with fail; exact ⟨rfl, Ext.refl _, rfl, rfl⟩
        · intro w1 hx1; rintro _ rfl; change wpList _ _ _ _ _ _; go_wp2_with fail; exact ⟨rfl, Ext.refl _, rfl, rfl⟩
        · intro w1 hx1; rintro _ rfl; change wpList _ _ _ _ _ _; have m0 := hx1.cell n0; go_wp2_with fail; exact ⟨rfl, Ext.refl _, rfl, rfl⟩
        · intro w1 hx1; change wpList _ _ _ _ _ _; exact ob_move rfl rfl rfl rfl rfl
        · intro w1 hx1; rintro _ rfl; rintro _ rfl; change wpList _ _ _ _ _ _; have k1 := HLK.out w1 hx1; go_wp2_with fail; exact ⟨rfl, Ext.refl _, rfl, rfl⟩
      · intro w1 hx1; rintro _ rfl; rintro _ rfl; rintro _ rfl; rintro _ rfl; rintro _ rfl; rintro _ rfl; rintro _ rfl; rintro _ rfl; rintro _ rfl; rintro _ rfl; rintro _ rfl; refine depsThen_nil ?_; dsimp only; simp only [Act.put, List.setIfInBounds_toArray, List.set_cons_zero, List.set_cons_succ, List.drop_succ_cons, List.drop_zero]
        obtain ⟨E, hE, hper⟩ := (HD3.out.ext hx1).map
        have HE := Lib.hid hE
        have HPER := Lib.hid hper
        have HX1 := Lib.hid hx1
        clear hE hper hx1 n0
        refine wpList_putD rfl (.tmp 31) (.tmp 32) (.tmp 38) 56 rfl Tryd.underlying56 Tryd.underlying9 (.string (strOf n)) (.pointer (some ⟨gp, 0, none⟩)) rfl rfl rfl HE.out trivial ?_; intro w5 hbut hput
        obtain ⟨E1, hE1, hput⟩ := hput
        have hp1 : E1.Perm ((nput FG.nm gs { g with nm := n }).map eG) := (map_put HE.out HPER.out hput).trans (by
          rw [← HGP.out]
          exact ((nput_perm { g with nm := n }).map eG).symm)
        obtain ⟨E0, hE0, _⟩ := HD3.out.map
        have hbb : b ≠ bm := box_no_map HD3.out.box hE0
        have n6 := cell_of_row _ _ 0 _ _ _ (show DkB w5 b _ _ _ _ from (hbut.block b hbb).trans (block_later HD3.out.box HX1.out))
        have HBUT := Lib.hid hbut
        have HE1 := Lib.hid hE1
        have HP1 := Lib.hid hp1
        clear hbut hE1 hput hp1 hbb hE0
        go_upto_region 5 with (refine wpList_delD rfl (.tmp 42) (.tmp 43) 56 9 rfl Tryd.underlying56 Tryd.underlying9 (.string (strOf o)) rfl rfl HE1.out trivial ?_; intro w6 hbut hput; have HBUT6 := Lib.hid hbut; have HPUT := Lib.hid hput; clear hbut hput)
        have hfin : LeftD w b (foot b bm gs) (askdS S (renameL S o n) (renameA o n)) w6 := by
          obtain ⟨E', hE', hput⟩ := HPUT.out
          have hgm := nget_some HG.out
          have hp2 := map_del HE1.out HP1.out hput
          have ht : Turns [bm] w3 w6 := ((Turns.of_ext (F := [bm]) HX1.out).trans (turns_but HBUT.out) fun i hi => .inl hi).trans (turns_but HBUT6.out) fun i hi => .inl hi
          rw [← hgm.2] at hp2
          have hset := HD3.out.rename hgm.1 (n := n) (by rw [hgm.2]; exact HON.out) ht hE' hp2
          refine leftD_yes HX0.out HT3.out hset.1 hset.2 ?_ ?_ ?_ ?_
          · rw [HY.out.2]
            show _ = renameA o n S.fs
            unfold renameA
            rw [if_neg HON.out, dkG_get HGS.out o, HG.out, ← HGS.out, hgm.2]
            show _ = ndel Fl.nm (nput Fl.nm (gs.map FG.fl) (FG.fl { g with nm := n })) o
            rw [nput_map fl_nm, ndel_map fl_nm]
          · rw [HY.out.2]
          · rw [HY.out.2]
          · rw [HY.out.2]
        have HFIN := Lib.hid hfin
        clear hfin n6
        go_wp2_with fail
        exact bodyPost_ret (v := .int .i64 0) (by simp [results, Tryd.results20, go_sem]) rfl ⟨rfl, HFIN.out⟩
  · have hno := askd_no (S := S) (l := renameL S o n) (by rw [← HC.out]; exact hc0) (renameA o n)
    have hfin : LeftD w b (foot b bm gs) (askdS S (renameL S o n) (renameA o n)) w3 := by
      rw [hno]; exact leftD_no HX0.out HD3.out HT3.out HGS.out (askd_fs _ _)
    have HFIN := Lib.hid hfin
    have hcn : ((c : Int) == 0) = false := by rw [beq_eq_false_iff_ne]; exact hc0
    clear hno hfin hc0
    go_wp2_with fail
    exact bodyPost_ret (v := .int .i64 c) (by simp [results, Tryd.results20, go_sem]) rfl ⟨rfl, HFIN.out⟩
end Go.Proofs.YtdfnfmanpdafpaaDoor
