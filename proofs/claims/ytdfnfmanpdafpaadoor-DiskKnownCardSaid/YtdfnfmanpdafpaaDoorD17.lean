/- Disk: Read, Size, Loose, Quota, Fuse. -/
import Derived.Test.YtdfnfmanpdafpaaDoorD16
namespace Go.Proofs.YtdfnfmanpdafpaaDoor
open Go.RowKit Go.MapKept

/-- What is asked ahead of Read and Loose. -/
theorem asks0 (w w1 : World) (b bm b1 b2 : Nat) (gs : List FG) (S : DS) (n : List UInt8) (hx : Ext w w1) (h1 : SBox w1 b1 n) (h2 : PBox w1 b2 b) (hd : DkR w b bm gs S.q S.fz S.off) (hg : gs.map FG.fl = S.fs) :
    Calls Tryd.prog 33 #[.slice (some ⟨w1.heap.size, 0, none⟩) 2 2] (w1.alloc (.cells #[.func (.func 30) #[.pointer (some ⟨b, 0, none⟩)] #[], tqV b1 b2] 61)) fun e w' =>
      e = .returned (.int .i64 (firstE (syncL S n))) ∧ Ext w w' := by
  obtain ⟨hxa, hra⟩ := boxes1 w1 (.cells #[.func (.func 30) #[.pointer (some ⟨b, 0, none⟩)] #[], tqV b1 b2] 61)
  have hda := hd.ext (hx.trans hxa)
  have hcs : [offE S, thereG gs n] = syncL S n := by unfold syncL; rw [thereG_S hg]
  have hF := firstq_read _ w1.heap.size [(_, offE S), (_, thereG gs n)] hra (by simp) ⟨answersQ hda, fun _ => ⟨therQ (h1.ext hxa) (h2.ext hxa) hda, fun _ => trivial⟩⟩
  simp only [List.map_cons, List.map_nil] at hF
  rw [hcs] at hF
  refine hF.mono ?_
  rintro e w' ⟨rfl, hx'⟩
  exact ⟨rfl, (hx.trans hxa).trans hx'⟩
theorem mem_fl {gs : List FG} {S : DS} (h : gs.map FG.fl = S.fs) {g : FG} (hg : g ∈ gs) : FG.fl g ∈ S.fs := by rw [← h]; exact List.mem_map.2 ⟨g, hg, rfl⟩
theorem mem_used {f : Fl} : ∀ {l : List Fl}, f ∈ l → f.b.length ≤ usedF l
  | x :: l, h => by
    unfold usedF
    rw [List.map_cons, List.sum_cons]
    rcases List.mem_cons.1 h with rfl | h
    · omega
    · have := mem_used h
      unfold usedF at this
      omega
set_option maxRecDepth 100000 in
set_option maxHeartbeats 8000000 in
theorem read_any (w : World) (b : Nat) (F : List Nat) (S : DS) (n : List UInt8) (hd : Dk w b F S) (hu : usedF S.fs ≤ 4194304) :
    Calls Tryd.prog 10 #[.pointer (some ⟨b, 0, none⟩), .string (strOf n)] w fun e w' => ∃ v, e = .returned (.tuple #[v, .int .i64 (firstE (syncL S n))]) ∧ OwnU w' w.heap.size v (readS S n) ∧ Ext w w' := by
  obtain ⟨bm, gs, hd, hgs, rfl⟩ := hd
  have hask := fun w1 b1 b2 hx h1 h2 => asks0 w w1 b bm b1 b2 gs S n hx h1 h2 hd hgs
  obtain ⟨c, hc⟩ : ∃ c, c = firstE (syncL S n) := ⟨_, rfl⟩
  rw [← hc] at hask ⊢
  have HC := Lib.hid hc
  have HGS := Lib.hid hgs
  have HD := Lib.hid hd
  have HU := Lib.hid hu
  have HASK := Lib.hid hask
  clear hgs hd hask hc hu
  go_enter Tryd.func10, Tryd.ntmps10
  go_upto_region 2 with (first
    | (go_at_call 34; (with_reducible refine (there_fact _ b n).mono ?_); rintro e w1 ⟨b1, b2, rfl, hs1, hp1, hx1⟩; have HCL := Lib.hid (HASK.out w1 b1 b2 hx1 hs1 hp1); clear hs1 hp1 hx1)
    | (go_at_call 33; (with_reducible refine HCL.out.mono ?_); rintro e w3 ⟨rfl, hx0⟩; have HX0 := Lib.hid hx0; clear hx0))
  clear HCL HASK
  by_cases hc0 : c = 0
  · subst hc0
    obtain ⟨g, hg⟩ := sync_there HGS.out HC.out.symm
    have hd3 := HD.out.ext HX0.out
    obtain ⟨fa, fc, hfh, hfc, hlk⟩ := hd3.file hg
    have hrow := (hd3.files g (nget_some hg).1).row
    rw [hfh] at hrow
    have hlen : g.b.length ≤ 4194304 := Nat.le_trans (mem_used (mem_fl HGS.out (nget_some hg).1)) HU.out
    have hcl := bclone_dk w3 _ g.b (Row.of_own hrow) (by omega)
    have hrs : Hid (readS S n = g.b) := by
      show readS S n = g.b
      unfold readS
      rw [if_pos HC.out.symm, dkG_get HGS.out n, hg]; rfl
    have n0 := cell_of_row _ _ 0 _ _ _ hd3.box
    have n4 := cell_of_row _ _ 0 _ _ _ hfc
    have k1 := hlk w3 (Ext.refl _)
    have HCL := Lib.hid hcl
    clear hg hd3 hfh hfc hlk hrow hlen hcl
    generalize g.p = gp at *
    obtain ⟨m, hm⟩ : ∃ m, g.b.length = m := ⟨_, rfl⟩
    rw [hm] at n4 HCL
    clear hm
    go_wp2_with (go_at_call 35; (with_reducible refine HCL.out.mono ?_); rintro e w5 ⟨v', rfl, ho, hx⟩; have HO := Lib.hid ho; have HX := Lib.hid hx; obtain ⟨a2, c2, rfl, _, _⟩ := ho.shape; clear ho hx)
    refine bodyPost_ret (v := .tuple #[_, .int .i64 0]) (by simp [results, Tryd.results10, go_sem]; rfl) rfl ⟨_, rfl, ?_, HX0.out.trans HX.out⟩
    rw [hrs.out]
    exact own_low HO.out HX0.out.size
  · have hrs : Hid (readS S n = []) := by
      show readS S n = []
      unfold readS
      rw [if_neg (by rw [← HC.out]; exact hc0)]
    have hcn : ((c : Int) != 0) = true := by rw [bne_iff_ne]; exact hc0
    clear hc0
    go_wp2_with fail
    refine bodyPost_ret (v := .tuple #[.slice none 0 0, .int .i64 c]) (by simp [results, Tryd.results10, go_sem]) rfl ⟨_, rfl, ?_, HX0.out⟩
    rw [hrs.out]
    exact OwnU.nil _ _
set_option maxRecDepth 100000 in
set_option maxHeartbeats 8000000 in
theorem size_any (w : World) (b : Nat) (F : List Nat) (S : DS) (n : List UInt8) (hd : Dk w b F S) (hu : usedF S.fs ≤ 4194304) :
    Calls Tryd.prog 26 #[.pointer (some ⟨b, 0, none⟩), .string (strOf n)] w fun e w' => e = .returned (.tuple #[.int .i64 ((readS S n).length : Nat), .int .i64 (firstE (syncL S n))]) ∧ Ext w w' := by
  have hr := read_any w b F S n hd hu
  generalize firstE (syncL S n) = c at *
  have HR := Lib.hid hr
  clear hr hd hu
  go_enter Tryd.func26, Tryd.ntmps26
  go_wp2_with (go_at_call 10; (with_reducible refine HR.out.mono ?_); rintro e w5 ⟨v', rfl, ho, hx⟩; have HX := Lib.hid hx; obtain ⟨a2, c2, rfl, _, _⟩ := ho.shape; clear ho hx)
  exact bodyPost_ret (v := .tuple #[.int .i64 ((readS S n).length : Nat), .int .i64 c]) (by simp [results, Tryd.results26, go_sem]) rfl ⟨rfl, HX.out⟩
set_option maxRecDepth 100000 in
set_option maxHeartbeats 8000000 in
theorem loose_any (w : World) (b : Nat) (F : List Nat) (S : DS) (n : List UInt8) (hd : Dk w b F S) (ok : OkD S) :
    Calls Tryd.prog 11 #[.pointer (some ⟨b, 0, none⟩), .string (strOf n)] w fun e w' => e = .returned (.int .i64 (looseS S n : Nat)) ∧ Ext w w' := by
  obtain ⟨bm, gs, hd, hgs, rfl⟩ := hd
  have hask := fun w1 b1 b2 hx h1 h2 => asks0 w w1 b bm b1 b2 gs S n hx h1 h2 hd hgs
  obtain ⟨c, hc⟩ : ∃ c, c = firstE (syncL S n) := ⟨_, rfl⟩
  rw [← hc] at hask
  obtain ⟨lo, hlo⟩ : ∃ lo, lo = looseS S n := ⟨_, rfl⟩
  rw [← hlo]
  have HLO := Lib.hid hlo
  have HC := Lib.hid hc
  have HGS := Lib.hid hgs
  have HD := Lib.hid hd
  have HOK := Lib.hid ok
  have HASK := Lib.hid hask
  clear hgs hd hask hc ok hlo
  by_cases hc0 : c = 0
  · subst hc0
    go_enter Tryd.func11, Tryd.ntmps11
    go_upto_region 3 with (first
      | (go_at_call 34; (with_reducible refine (there_fact _ b n).mono ?_); rintro e w1 ⟨b1, b2, rfl, hs1, hp1, hx1⟩; have HCL := Lib.hid (HASK.out w1 b1 b2 hx1 hs1 hp1); clear hs1 hp1 hx1)
      | (go_at_call 33; (with_reducible refine HCL.out.mono ?_); rintro e w3 ⟨rfl, hx0⟩; have HX0 := Lib.hid hx0; clear hx0))
    clear HCL HASK
    obtain ⟨g, hg⟩ := sync_there HGS.out HC.out.symm
    have hd3 := HD.out.ext HX0.out
    obtain ⟨fa, fc, hfh, hfc, hlk⟩ := hd3.file hg
    have hfast : g.fast ≤ g.b.length := HOK.out.fast _ (mem_fl HGS.out (nget_some hg).1)
    have hlen : g.b.length ≤ 4194304 := Nat.le_trans (mem_used (mem_fl HGS.out (nget_some hg).1)) HOK.out.used
    have hlov : lo = g.b.length - g.fast := by
      rw [HLO.out]
      unfold looseS
      rw [if_pos HC.out.symm, dkG_get HGS.out n, hg]; rfl
    have n0 := cell_of_row _ _ 0 _ _ _ hd3.box
    have n4 := cell_of_row _ _ 0 _ _ _ hfc
    have n5 := cell_of_row _ _ 1 _ _ _ hfc
    have HLK := Lib.hid hlk
    clear hg hd3 hfh hfc hlk
    generalize g.p = gp at *
    generalize g.fast = fst at *
    generalize g.b.length = m at *
    have hwr : IntKind.i64.wrap ((m : Int) - (fst : Int)) = (lo : Int) := by rw [IntKind.wrap_i64]; omega
    have HR := Lib.hid hwr
    have HLOV := Lib.hid hlov
    clear hlov hwr
    refine wp_region_facts [Fact.eq (.pointer (some ⟨b, 0, none⟩)),
        Fact.eq (.pointer (some ⟨b, 0, none⟩)),
        Fact.eq (.pointer (some ⟨b, 0, none⟩)),
        Fact.eq (.map (some bm)),
        Fact.eq (.string (strOf n)),
        Fact.eq (.pointer (some ⟨gp, 0, none⟩)),
        Fact.eq (.pointer (some ⟨gp, 0, none⟩)),
        Fact.eq (.pointer (some ⟨gp, 0, none⟩)),
        Fact.eq (.slice fa m fc),
        Fact.eq (.int .i64 m),
        Fact.eq (.pointer (some ⟨b, 0, none⟩)),
        Fact.eq (.pointer (some ⟨b, 0, none⟩)),
        Fact.eq (.pointer (some ⟨b, 0, none⟩)),
        Fact.eq (.map (some bm)),
        Fact.eq (.string (strOf n)),
        Fact.eq (.pointer (some ⟨gp, 0, none⟩)),
        Fact.eq (.pointer (some ⟨gp, 0, none⟩)),
        Fact.eq (.pointer (some ⟨gp, 1, none⟩)),
        Fact.eq (.int .i64 fst),
        Fact.eq (.int .i64 lo),
        Fact.eq (.int .i64 lo)]
      [[], [(0, 13)], [(1, 14)], [(2, 15)], [], [(3, 16), (4, 17)], [(5, 18)], [(6, 19)], [(7, 20)], [(8, 21)], [], [(10, 23)], [(11, 24)], [(12, 25)], [], [(13, 26), (14, 27)], [(15, 28)], [(16, 29)], [(17, 30)], [(9, 22), (18, 31)], [(19, 32)]]
      [(0, 13), (1, 14), (2, 15), (3, 16), (4, 17), (5, 18), (6, 19), (7, 20), (8, 21), (9, 22), (10, 23), (11, 24), (12, 25), (13, 26), (14, 27), (15, 28), (16, 29), (17, 30), (18, 31), (19, 32), (20, 4)] (by kernel_rfl) (by kernel_rfl) ?_ ?_
    · refine ⟨?_, ?_, ?_, ?_, ?_, ?_, ?_, ?_, ?_, ?_, ?_, ?_, ?_, ?_, ?_, ?_, ?_, ?_, ?_, ?_, ?_, trivial⟩
      · intro w1 hx1; change wpList _ _ _ _ _ _; exact ob_move rfl rfl rfl rfl rfl
      · intro w1 hx1; rintro _ rfl; change wpList _ _ _ _ _ _; go_wp2_with fail; exact ⟨rfl, Ext.refl _, rfl, rfl⟩
      · intro w1 hx1; rintro _ rfl; change wpList _ _ _ _ _ _; go_wp2_with fail; exact ⟨rfl, Ext.refl _, rfl, rfl⟩
      · intro w1 hx1; rintro _ rfl; change wpList _ _ _ _ _ _; have m0 := hx1.cell n0; go_wp2_with fail; exact ⟨rfl, Ext.refl _, rfl, rfl⟩
      · intro w1 hx1; change wpList _ _ _ _ _ _; exact ob_move rfl rfl rfl rfl rfl
      · intro w1 hx1; rintro _ rfl; rintro _ rfl; change wpList _ _ _ _ _ _; have k1 := HLK.out w1 hx1; go_wp2_with fail; exact ⟨rfl, Ext.refl _, rfl, rfl⟩
      · intro w1 hx1; rintro _ rfl; change wpList _ _ _ _ _ _; go_wp2_with fail; exact ⟨rfl, Ext.refl _, rfl, rfl⟩
      · intro w1 hx1; rintro _ rfl; change wpList _ _ _ _ _ _; go_wp2_with fail; exact ⟨rfl, Ext.refl _, rfl, rfl⟩
      · intro w1 hx1; rintro _ rfl; change wpList _ _ _ _ _ _; have m0 := hx1.cell n4; go_wp2_with fail; exact ⟨rfl, Ext.refl _, rfl, rfl⟩
      · intro w1 hx1; rintro _ rfl; change wpList _ _ _ _ _ _; go_wp2_with fail; exact ⟨rfl, Ext.refl _, rfl, rfl⟩
      · intro w1 hx1; change wpList _ _ _ _ _ _; exact ob_move rfl rfl rfl rfl rfl
      · intro w1 hx1; rintro _ rfl; change wpList _ _ _ _ _ _; go_wp2_with fail; exact ⟨rfl, Ext.refl _, rfl, rfl⟩
      · intro w1 hx1; rintro _ rfl; change wpList _ _ _ _ _ _; go_wp2_with fail; exact ⟨rfl, Ext.refl _, rfl, rfl⟩
      · intro w1 hx1; rintro _ rfl; change wpList _ _ _ _ _ _; have m0 := hx1.cell n0; go_wp2_with fail; exact ⟨rfl, Ext.refl _, rfl, rfl⟩
      · intro w1 hx1; change wpList _ _ _ _ _ _; exact ob_move rfl rfl rfl rfl rfl
      · intro w1 hx1; rintro _ rfl; rintro _ rfl; change wpList _ _ _ _ _ _; have k1 := HLK.out w1 hx1; go_wp2_with fail; exact ⟨rfl, Ext.refl _, rfl, rfl⟩
      · intro w1 hx1; rintro _ rfl; change wpList _ _ _ _ _ _; go_wp2_with fail; exact ⟨rfl, Ext.refl _, rfl, rfl⟩
      · intro w1 hx1; rintro _ rfl; change wpList _ _ _ _ _ _; go_wp2_with fail; exact ⟨rfl, Ext.refl _, rfl, rfl⟩
      · intro w1 hx1; rintro _ rfl; change wpList _ _ _ _ _ _; have m0 := hx1.cell n5; go_wp2_with fail; exact ⟨rfl, Ext.refl _, rfl, rfl⟩
      · intro w1 hx1; rintro _ rfl; rintro _ rfl; change wpList _ _ _ _ _ _; have k1 := HR.out; go_wp2_with fail; exact ⟨rfl, Ext.refl _, rfl, rfl⟩
      · intro w1 hx1; rintro _ rfl; change wpList _ _ _ _ _ _; exact ob_assign rfl rfl rfl rfl rfl
    · intro w1 hx1; rintro _ rfl; rintro _ rfl; rintro _ rfl; rintro _ rfl; rintro _ rfl; rintro _ rfl; rintro _ rfl; rintro _ rfl; rintro _ rfl; rintro _ rfl; rintro _ rfl; rintro _ rfl; rintro _ rfl; rintro _ rfl; rintro _ rfl; rintro _ rfl; rintro _ rfl; rintro _ rfl; rintro _ rfl; rintro _ rfl; rintro _ rfl; refine depsThen_nil ?_; dsimp only; simp only [Act.put, List.setIfInBounds_toArray, List.set_cons_zero, List.set_cons_succ]
      have HX1 := Lib.hid (HX0.out.trans hx1)
      clear hx1 n0 n4 n5
      go_wp2_with fail
      go_ret
      exact ⟨rfl, HX1.out⟩
  · have hlov : lo = 0 := by
      rw [HLO.out]
      unfold looseS
      rw [if_neg (by rw [← HC.out]; exact hc0)]
    have hcn : ((c : Int) != 0) = true := by rw [bne_iff_ne]; exact hc0
    subst hlov
    clear hc0
    go_enter Tryd.func11, Tryd.ntmps11
    go_wp2_with (first
      | (go_at_call 34; (with_reducible refine (there_fact _ b n).mono ?_); rintro e w1 ⟨b1, b2, rfl, hs1, hp1, hx1⟩; have HCL := Lib.hid (HASK.out w1 b1 b2 hx1 hs1 hp1); clear hs1 hp1 hx1)
      | (go_at_call 33; (with_reducible refine HCL.out.mono ?_); rintro e w3 ⟨rfl, hx0⟩; have HX0 := Lib.hid hx0; clear hx0))
    go_ret
    exact ⟨rfl, HX0.out⟩

set_option maxRecDepth 100000 in
set_option maxHeartbeats 8000000 in
theorem quota_any (w : World) (b : Nat) (F : List Nat) (S : DS) (n : Int) (hd : Dk w b F S) :
    Calls Tryd.prog 23 #[.pointer (some ⟨b, 0, none⟩), .int .i64 n] w fun e w' => e = .returned (.int .i64 (quotaE n)) ∧ LeftD w b F (quotaS S n) w' := by
  obtain ⟨bm, gs, hd, hgs, rfl⟩ := hd
  have hans : Calls Tryd.prog 30 #[.pointer (some ⟨b, 0, none⟩)] w fun e w' => e = .returned (.int .i64 (ansN S.off)) ∧ w' = w := answers_any w b bm S.q S.fz S.off hd.box
  have h2 : ((ansN S.off : Int) == 2) = false := by unfold ansN; split <;> rfl
  generalize ansN S.off = an at *
  have HA := Lib.hid hans
  have HGS := Lib.hid hgs
  have HD := Lib.hid hd
  clear hans hgs hd
  by_cases h0 : n < 0
  · have d1 : decide (n < 0) = true := decide_eq_true h0
    have hq : quotaE n = 1 ∧ quotaS S n = S := ⟨by unfold quotaE; rw [if_pos (.inl h0)], by unfold quotaS; rw [if_pos (.inl h0)]⟩
    have HQ := Lib.hid hq
    clear hq h0
    go_enter Tryd.func23, Tryd.ntmps23
    go_wp2_with (go_at_call 30; (with_reducible refine HA.out.mono ?_); rintro e w5 ⟨rfl, rfl⟩)
    go_ret
    refine ⟨by rw [HQ.out.1]; rfl, ?_⟩
    rw [HQ.out.2]
    exact ⟨_, ⟨bm, gs, HD.out, HGS.out, rfl⟩, Moves.of_ext (Ext.refl _)⟩
  · have d1 : decide (n < 0) = false := decide_eq_false h0
    by_cases h1 : 4194304 < n
    · have d2 : decide (n > 4194304) = true := decide_eq_true h1
      have hq : quotaE n = 1 ∧ quotaS S n = S := ⟨by unfold quotaE; rw [if_pos (.inr h1)], by unfold quotaS; rw [if_pos (.inr h1)]⟩
      have HQ := Lib.hid hq
      clear hq h0 h1
      go_enter Tryd.func23, Tryd.ntmps23
      go_wp2_with (go_at_call 30; (with_reducible refine HA.out.mono ?_); rintro e w5 ⟨rfl, rfl⟩)
      go_ret
      refine ⟨by rw [HQ.out.1]; rfl, ?_⟩
      rw [HQ.out.2]
      exact ⟨_, ⟨bm, gs, HD.out, HGS.out, rfl⟩, Moves.of_ext (Ext.refl _)⟩
    · have d2 : decide (n > 4194304) = false := decide_eq_false h1
      have hq : quotaE n = 0 ∧ quotaS S n = { S with q := n } := ⟨by unfold quotaE; rw [if_neg (by omega)], by unfold quotaS; rw [if_neg (by omega)]⟩
      have HQ := Lib.hid hq
      have b1 := cell_of_row _ _ 1 _ _ _ HD.out.box
      have z1 := frozen_of_row _ _ 1 _ _ HD.out.box
      clear hq h0 h1
      go_enter Tryd.func23, Tryd.ntmps23
      go_wp2_with (go_at_call 30; (with_reducible refine HA.out.mono ?_); rintro e w5 ⟨rfl, rfl⟩)
      go_ret
      refine ⟨by rw [HQ.out.1]; rfl, ?_⟩
      rw [HQ.out.2]
      have ht := turns_cell w5 b 1 (.int .i64 n)
      exact ⟨foot b bm gs, ⟨bm, gs, HD.out.box' ht (HD.out.box.cells 1 (.int .i64 n) (.map (some bm)) n S.fz S.off rfl), HGS.out, rfl⟩, ht.wide (fun i hi => mem_foot.2 (.inl (by simpa using hi))), fun k hk => .inl hk⟩
set_option maxRecDepth 100000 in
set_option maxHeartbeats 8000000 in
theorem fuse_any (w : World) (b : Nat) (F : List Nat) (S : DS) (n : Int) (hd : Dk w b F S) :
    Calls Tryd.prog 16 #[.pointer (some ⟨b, 0, none⟩), .int .i64 n] w fun e w' => e = .returned (.int .i64 (firstE (fuseL S n))) ∧ LeftD w b F (fuseS S n) w' := by
  obtain ⟨bm, gs, hd, hgs, rfl⟩ := hd
  have hask : ∀ (w1 : World) (c1 c2 : Nat), Ext w w1 → w1.heap[c1]? = some (.cells #[.bool (decide (n < -1))] 4 (0, 0)) → w1.heap[c2]? = some (.cells #[.int .i64 1] 26 (0, 0)) →
      Calls Tryd.prog 33 #[.slice (some ⟨w1.heap.size, 0, none⟩) 2 2] (w1.alloc (.cells #[.func (.func 30) #[.pointer (some ⟨b, 0, none⟩)] #[], wqV c1 c2] 61)) fun e w' => e = .returned (.int .i64 (firstE (fuseL S n))) ∧ Ext w w' := fun w1 c1 c2 hx h1 h2 => by
    obtain ⟨hxa, hra⟩ := boxes1 w1 (.cells #[.func (.func 30) #[.pointer (some ⟨b, 0, none⟩)] #[], wqV c1 c2] 61)
    have hda := hd.ext (hx.trans hxa)
    have hF := firstq_read _ w1.heap.size [(_, offE S), (_, errB (decide (n < -1)) 1)] hra (by simp) ⟨answersQ hda, fun _ => ⟨wrongQ (block_later h1 hxa) (block_later h2 hxa), fun _ => trivial⟩⟩
    simp only [List.map_cons, List.map_nil] at hF
    refine hF.mono ?_
    rintro e w' ⟨rfl, hx'⟩
    exact ⟨rfl, (hx.trans hxa).trans hx'⟩
  obtain ⟨is, his⟩ : ∃ is, is = decide (n < -1) := ⟨_, rfl⟩
  rw [← his] at hask
  have d1 : decide (n < -1) = is := his.symm
  obtain ⟨c, hc⟩ : ∃ c, c = firstE (fuseL S n) := ⟨_, rfl⟩
  rw [← hc] at hask ⊢
  have HC := Lib.hid hc
  have HGS := Lib.hid hgs
  have HD := Lib.hid hd
  have HASK := Lib.hid hask
  clear hgs hd hask hc his
  by_cases hc0 : c = 0
  · have hq : fuseS S n = { S with fz := n } := by unfold fuseS; rw [if_pos (by rw [← HC.out]; exact hc0)]
    have HQ := Lib.hid hq
    subst hc0
    clear hq
    go_enter Tryd.func16, Tryd.ntmps16
    go_upto_region 3 with (first
      | (go_at_call 36; (with_reducible refine (wrong_fact _ is 1).mono ?_); rintro e w1 ⟨c1, c2, rfl, g1, g2, hx1⟩; have HCL := Lib.hid (HASK.out w1 c1 c2 hx1 g1 g2); clear g1 g2 hx1)
      | (go_at_call 33; (with_reducible refine HCL.out.mono ?_); rintro e w3 ⟨rfl, hx0⟩; have HX0 := Lib.hid hx0; clear hx0))
    have hd3 := HD.out.ext HX0.out
    have HD3 := Lib.hid hd3
    have b2 := cell_of_row _ _ 2 _ _ _ hd3.box
    have z2 := frozen_of_row _ _ 2 _ _ hd3.box
    clear hd3 d1 HCL HASK
    go_wp2_with fail
    refine bodyPost_ret (v := .int .i64 0) (by simp [results, Tryd.results16, go_sem]) rfl ⟨rfl, ?_⟩
    rw [HQ.out]
    have ht := turns_cell w3 b 2 (.int .i64 n)
    exact ⟨foot b bm gs, ⟨bm, gs, HD3.out.box' ht (HD3.out.box.cells 2 (.int .i64 n) (.map (some bm)) S.q n S.off rfl), HGS.out, rfl⟩, (Turns.of_ext HX0.out).trans (ht.wide (fun i hi => mem_foot.2 (.inl (by simpa using hi)))) fun i hi => .inl hi, fun k hk => .inl hk⟩
  · have hq : fuseS S n = S := by unfold fuseS; rw [if_neg (by rw [← HC.out]; exact hc0)]
    have HQ := Lib.hid hq
    have hcn : ((c : Int) == 0) = false := by rw [beq_eq_false_iff_ne]; exact hc0
    clear hq hc0
    go_enter Tryd.func16, Tryd.ntmps16
    go_wp2_with (first
      | (go_at_call 36; (with_reducible refine (wrong_fact _ is 1).mono ?_); rintro e w1 ⟨c1, c2, rfl, g1, g2, hx1⟩; have HCL := Lib.hid (HASK.out w1 c1 c2 hx1 g1 g2); clear g1 g2 hx1)
      | (go_at_call 33; (with_reducible refine HCL.out.mono ?_); rintro e w3 ⟨rfl, hx0⟩; have HX0 := Lib.hid hx0; clear hx0))
    refine bodyPost_ret (v := .int .i64 c) (by simp [results, Tryd.results16, go_sem]) rfl ⟨rfl, ?_⟩
    rw [HQ.out]
    exact ⟨_, ⟨bm, gs, HD.out.ext HX0.out, HGS.out, rfl⟩, Moves.of_ext HX0.out⟩
end Go.Proofs.YtdfnfmanpdafpaaDoor
