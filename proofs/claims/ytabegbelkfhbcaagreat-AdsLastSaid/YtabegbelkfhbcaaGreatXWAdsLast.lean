/- The walk through AdsLast. -/
import Derived.Test.YtabegbelkfhbcaaGreatPk13
namespace Go.Proofs.YtabegbelkfhbcaaGreat
open Go.RowKit Go.MapKept

theorem learnE_cases (T : List KN) (link pub : Int) (ver : Nat) (p : List C) : learnE T link pub ver p = 1 ∨ learnE T link pub ver p = 30 ∨ (learnE T link pub ver p = 9 ∧ isF T pub = true ∧ (gotF T pub).link ≠ link) ∨ learnE T link pub ver p = 0 := by
  unfold learnE
  by_cases h1 : argB link pub ver = true
  · rw [if_pos h1]; exact .inl rfl
  · rw [if_neg h1]
    by_cases h2 : mayP p = false
    · rw [if_pos h2]; exact .inr (.inl rfl)
    · rw [if_neg h2]
      by_cases h3 : isF T pub = true ∧ (gotF T pub).link ≠ link
      · rw [if_pos h3]; exact .inr (.inr (.inl ⟨rfl, h3⟩))
      · rw [if_neg h3]; exact .inr (.inr (.inr rfl))
theorem got_put {T : List KN} {k : KN} : gotF (putF T k) k.pub = k ∧ isF (putF T k) k.pub = true := got_some (by rw [putF_get, if_pos rfl])

theorem TabR.other {w w' : World} {c cm bm : Nat} {T : List KN} (h : TabR w c cm T) (hg : w.grownBy w' (some bm)) (h1 : c ≠ bm) (h2 : cm ≠ bm) (hb : MapAt w bm) : TabR w' c cm T :=
  ⟨(hg.block c (Array.getElem?_eq_some_iff.1 h.box).1 (fun e => h1 (Option.some.inj e))).trans h.box, h.map.grown hg (fun e => h2 (Option.some.inj e).symm), fun k hk => predR_grown (h.preds k hk) hg hb⟩

set_option maxRecDepth 100000 in
set_option maxHeartbeats 16000000 in
theorem adsLast_walk (W : World) (v0 : Value) (us : List OA) (h0 : OAR W v0 us) (pub : Int) (ver : Nat) (vp : Value) (p : List C) (hp : PredR W vp p) (kp : ∀ c ∈ p, okC c) (link other : Int) :
    Calls Tryz.prog 3 #[v0, .agg #[.int .i64 pub, .int .u64 (ver : Nat), vp], .int .i64 link, .int .i64 other] W fun e W' => e = .returned (.bool true) ∧ Ext W W' := by
  obtain ⟨ap, cp, rfl, _, _⟩ := hp.shape
  obtain ⟨hxa, hba⟩ := boxes1 W (.cells #[.int .i64 pub, .int .u64 (ver : Nat), .slice ap p.length cp] 27)
  have HTB := Lib.hid (table_any _ v0 us (h0.ext hxa))
  have HBA := Lib.hid hba
  have HXA := Lib.hid hxa
  have HP := Lib.hid hp
  have HKP := Lib.hid kp
  obtain ⟨a0, c0', rfl, _, _⟩ := Row.shape h0.row
  clear hba hxa hp kp h0
  generalize hpl : p.length = pl at *
  clear hpl
  generalize us.length = ul at *
  go_enter Tryz.func3, Tryz.ntmps3
  go_upto_region 1 with fail
  generalize W.alloc (.cells #[.int .i64 pub, .int .u64 (ver : Nat), .slice ap pl cp] 27) = w0 at *
  go_upto_region 2 with (go_at_call 7; (with_reducible refine HTB.out.mono ?_); rintro e w1 ⟨b, bm, T, rfl, ht, hok, hl, hb1, hb2, hx⟩; have HT1 := Lib.hid ht; have HOK1 := Lib.hid hok; have HL1 := Lib.hid hl; have HB2 : Hid (W.heap.size ≤ bm) := Nat.le_trans HXA.out.size hb2; have HX1 := Lib.hid (HXA.out.trans hx); have hba := block_later HBA.out hx; have HBA1 := Lib.hid hba; have c0 := cell_of_row _ _ 0 _ _ _ hba; have c1 := cell_of_row _ _ 1 _ _ _ hba; have c2 := cell_of_row _ _ 2 _ _ _ hba; clear ht hok hl hb1 hb2 hx hba HTB HBA HXA)
  go_upto_region 3 with (go_at_call 8; (with_reducible refine (bypub_any w1 b bm T HT1.out HOK1.out.may pub).mono ?_); rintro e w2 ⟨h2, rfl, hr, hx⟩; obtain ⟨ah2, nh2, ch2, rfl⟩ : ∃ a n c, h2 = .slice a n c := (by obtain ⟨a, c, e, _⟩ := hr.shape; exact ⟨a, _, c, e⟩); have HT2 := Lib.hid (HT1.out.ext hx); have HX2 := Lib.hid (HX1.out.trans hx); have hba := block_later HBA1.out hx; have HBA2 := Lib.hid hba; clear hba hx hr HT1 HX1 HBA1 c0 c1 c2)
  generalize hgl : (gotF T pub).link = gl at *
  generalize (gotF T pub).pub = gp at *
  generalize (gotF T pub).ver = gv at *
  generalize his : isF T pub = is at *
  have HGL := Lib.hid hgl
  have HIS := Lib.hid his
  clear hgl his
  have hxb := (Ext.refl w2).alloc (.cells #[.int .i64 gp, .int .u64 (gv : Nat), .slice ah2 nh2 ch2] 30)
  have HT3 := Lib.hid (HT2.out.ext hxb)
  have HX3 := Lib.hid (HX2.out.trans hxb)
  have hba := block_later HBA2.out hxb
  have HBA3 := Lib.hid hba
  have c03 := cell_of_row _ _ 0 _ _ _ hba
  have c13 := cell_of_row _ _ 1 _ _ _ hba
  have c23 := cell_of_row _ _ 2 _ _ _ hba
  clear hba
  clear hxb HT2 HX2 HBA2
  generalize w2.alloc (.cells #[.int .i64 gp, .int .u64 (gv : Nat), .slice ah2 nh2 ch2] 30) = w3 at *
  go_upto_region 4 with (go_at_call 9; (with_reducible refine (learn_all w3 b bm T HT3.out HOK1.out link pub ver _ p (HP.out.ext HX3.out) HKP.out).mono ?_); rintro e w4 ⟨lc4, T4, rfl, q1, q2, q3, q4, q5, q6⟩; have hmap := HT3.out.map.isMap; have HT4 := Lib.hid q1; have HOK4 := Lib.hid q2; have HL4 := Lib.hid q3; have HX4 := Lib.hid (ext_grown HX3.out q4 HB2.out); have HQ4 := Lib.hid q5; have HR4 := Lib.hid q6; have hba := (q4.block W.heap.size (Array.getElem?_eq_some_iff.1 HBA3.out).1 (fun e => by obtain ⟨es, c, hm⟩ := hmap; have h1 := HBA3.out; rw [Option.some.inj e, hm] at h1; cases h1)).trans HBA3.out; have HBA4 := Lib.hid hba; have c04 := cell_of_row _ _ 0 _ _ _ hba; have c14 := cell_of_row _ _ 1 _ _ _ hba; have c24 := cell_of_row _ _ 2 _ _ _ hba; clear hba q1 q2 q3 q4 q5 q6 hmap HT3 HX3 HBA3 c03 c13 c23)
  have hE := learnE_cases T link pub ver p
  generalize hEE : learnE T link pub ver p = E at *
  clear hEE
  have HWK : Hid (∀ w, Calls Tryz.prog 10 #[] w fun e w' => e = .returned (.bool true) ∧ Ext w w') := wakes_any
  rcases hE with rfl | rfl | ⟨rfl, h1, h2⟩ | rfl
  · go_wp2_with (go_at_call 10; (with_reducible refine (HWK.out _).mono ?_); rintro e w9 ⟨rfl, hx⟩; have HX9 := Lib.hid (HX4.out.trans hx); clear hx)
    go_ret
    exact ⟨rfl, HX9.out⟩
  · go_wp2_with (go_at_call 10; (with_reducible refine (HWK.out _).mono ?_); rintro e w9 ⟨rfl, hx⟩; have HX9 := Lib.hid (HX4.out.trans hx); clear hx)
    go_ret
    exact ⟨rfl, HX9.out⟩
  · have e1 : is = true := by rw [← HIS.out]; exact h1
    subst e1
    have e2 : (gl == link) = false := by rw [← HGL.out]; exact beq_eq_false_iff_ne.2 h2
    have e3 : (gl != link) = true := by rw [bne, e2]; rfl
    clear h1 h2
    go_wp2_with (go_at_call 10; (with_reducible refine (HWK.out _).mono ?_); rintro e w9 ⟨rfl, hx⟩; have HX9 := Lib.hid (HX4.out.trans hx); clear hx)
    go_ret
    exact ⟨rfl, HX9.out⟩
  · obtain ⟨ha, hm, ⟨h', rfl⟩, _⟩ := HR4.out rfl
    have HARG := Lib.hid ha
    have HMAY := Lib.hid hm
    have g1 : getF (putF T ⟨link, pub, ver, p, h'⟩) pub = some ⟨link, pub, ver, p, h'⟩ := by rw [putF_get, if_pos rfl]
    have hE2 : learnE (putF T ⟨link, pub, ver, p, h'⟩) link pub ver p = 0 := by
      unfold learnE
      rw [if_neg (by rw [ha]; exact Bool.false_ne_true), if_neg (by rw [hm]; exact (fun h => by cases h)), if_neg (by rw [(got_some g1).1]; exact fun h => h.2 rfl)]
    have HG1 := Lib.hid g1
    have HE2 := Lib.hid hE2
    have HL4' : Hid ((putF T ⟨link, pub, ver, p, h'⟩).length ≤ 41) := by have := HL4.out; have := HL1.out; show _ ≤ _; omega
    clear g1 hE2 ha hm HQ4 HR4 HL4 HL1
    generalize putF T ⟨link, pub, ver, p, h'⟩ = T1 at *
    go_upto_region 6 with fail
    go_upto_region 7 with (go_at_call 9; (with_reducible refine (learn_all w4 b bm T1 HT4.out HOK4.out link pub ver _ p (HP.out.ext HX4.out) HKP.out).mono ?_); rintro e w5 ⟨lc5, T5, rfl, q1, q2, q3, q4, q5, q6⟩; have hmap := HT4.out.map.isMap; have HT5 := Lib.hid q1; have HOK5 := Lib.hid q2; have HL5 := Lib.hid q3; have HX5 := Lib.hid (ext_grown HX4.out q4 HB2.out); have HQ5 := Lib.hid q5; have HR5 := Lib.hid q6; have hba := (q4.block W.heap.size (Array.getElem?_eq_some_iff.1 HBA4.out).1 (fun e => by obtain ⟨es, c, hm⟩ := hmap; have h1 := HBA4.out; rw [Option.some.inj e, hm] at h1; cases h1)).trans HBA4.out; have HBA5 := Lib.hid hba; have c05 := cell_of_row _ _ 0 _ _ _ hba; have c15 := cell_of_row _ _ 1 _ _ _ hba; have c25 := cell_of_row _ _ 2 _ _ _ hba; clear hba q1 q2 q3 q4 q5 q6 hmap HT4 HX4 HBA4 c04 c14 c24)
    obtain ⟨_, _, ⟨h5, rfl⟩, hold⟩ := HR5.out HE2.out
    obtain rfl := (hold _ HG1.out).2 rfl rfl
    rw [HE2.out]
    have g2 : getF (putF T1 ⟨link, pub, ver, p, h5⟩) pub = some ⟨link, pub, ver, p, h5⟩ := by rw [putF_get, if_pos rfl]
    have HG2 := Lib.hid g2
    have HL5' : Hid ((putF T1 ⟨link, pub, ver, p, h5⟩).length ≤ 42) := by have := HL5.out; have := HL4'.out; show _ ≤ _; omega
    clear hold g2 HQ5 HR5 HL5 HG1 HE2 HL4'
    generalize putF T1 ⟨link, pub, ver, p, h5⟩ = T2 at *
    have hgot := got_some HG2.out
    have hby := bypub_any w5 b bm T2 HT5.out HOK5.out.may pub
    rw [hgot.1, hgot.2] at hby
    have HBY := Lib.hid hby
    clear hgot hby
    go_upto_region 8 with (go_at_call 8; (with_reducible refine HBY.out.mono ?_); rintro e w6 ⟨h6, rfl, hr, hx⟩; obtain ⟨ah6, nh6, ch6, rfl⟩ : ∃ a n c, h6 = .slice a n c := (by obtain ⟨a, c, e, _⟩ := hr.shape; exact ⟨a, _, c, e⟩); have HR6 := Lib.hid hr; have HT6 := Lib.hid (HT5.out.ext hx); have HX6 := Lib.hid (HX5.out.trans hx); have hba := block_later HBA5.out hx; have HBA6 := Lib.hid hba; clear hba hx hr HBY HT5 HX5 HBA5 c05 c15 c25)
    obtain ⟨hxb, hb8⟩ := boxes1 w6 (.cells #[.int .i64 pub, .int .u64 (ver : Nat), .slice ah6 nh6 ch6] 30)
    have HT7 := Lib.hid (HT6.out.ext hxb)
    have HX7 := Lib.hid (HX6.out.trans hxb)
    have HR7 := Lib.hid (HR6.out.ext hxb)
    have hba := block_later HBA6.out hxb
    have HBA7 := Lib.hid hba
    have c07 := cell_of_row _ _ 0 _ _ _ hba
    have c17 := cell_of_row _ _ 1 _ _ _ hba
    have c27 := cell_of_row _ _ 2 _ _ _ hba
    clear hba
    have d0 := cell_of_row _ _ 0 _ _ _ hb8
    have d1 := cell_of_row _ _ 1 _ _ _ hb8
    have d2 := cell_of_row _ _ 2 _ _ _ hb8
    clear hxb hb8 HT6 HX6 HBA6 HR6
    generalize w6.alloc (.cells #[.int .i64 pub, .int .u64 (ver : Nat), .slice ah6 nh6 ch6] 30) = w7 at *
    have k1 : (link != link) = false := by simp
    go_upto_region 10 with (go_at_call 11; (with_reducible refine (adsame_yes w7 pub ver _ _ p HR7.out (HP.out.ext HX7.out)).mono ?_); rintro e w8 ⟨rfl, hx⟩; have HT8 := Lib.hid (HT7.out.ext hx); have HX8 := Lib.hid (HX7.out.trans hx); have hba := block_later HBA7.out hx; have HBA8 := Lib.hid hba; have c08 := cell_of_row _ _ 0 _ _ _ hba; have c18 := cell_of_row _ _ 1 _ _ _ hba; have c28 := cell_of_row _ _ 2 _ _ _ hba; clear hba hx HT7 HX7 HBA7 c07 c17 c27 d0 d1 d2 HR7)
    go_upto_region 11 with (go_at_call 12; (with_reducible refine (copy_any w8 b bm T2 HT8.out).mono ?_); rintro e w9 ⟨cb, cm, rfl, hc, hcb, hcm, hx⟩; have HC9 := Lib.hid hc; have HCM : Hid (cm ≠ bm ∧ cb ≠ bm) := ⟨fun e => by have := HT8.out.map.lt; omega, fun e => by have := HT8.out.map.lt; omega⟩; have HT9 := Lib.hid (HT8.out.ext hx); have HX9 := Lib.hid (HX8.out.trans hx); have hba := block_later HBA8.out hx; have HBA9 := Lib.hid hba; have c09 := cell_of_row _ _ 0 _ _ _ hba; have c19 := cell_of_row _ _ 1 _ _ _ hba; have c29 := cell_of_row _ _ 2 _ _ _ hba; clear hba hx hc hcb hcm HT8 HX8 HBA8 c08 c18 c28)
    clear k1
    by_cases hol : other = link
    · subst hol
      have hE3 : learnE T2 other pub ver p = 0 := by
        unfold learnE
        rw [if_neg (by rw [HARG.out]; exact Bool.false_ne_true), if_neg (by rw [HMAY.out]; exact (fun h => by cases h)), if_neg (by rw [(got_some HG2.out).1]; exact fun h => h.2 rfl)]
      have HE3 := Lib.hid hE3
      clear hE3
      go_upto_region 12 with (go_at_call 9; (with_reducible refine (learn_all w9 b bm T2 HT9.out HOK5.out other pub ver _ p (HP.out.ext HX9.out) HKP.out).mono ?_); rintro e w10 ⟨lc10, T10, rfl, q1, q2, q3, q4, q5, q6⟩; have hmap := HT9.out.map.isMap; have HT10 := Lib.hid q1; have HOK10 := Lib.hid q2; have HL10 := Lib.hid q3; have HC10 := Lib.hid (HC9.out.other q4 HCM.out.2 HCM.out.1 hmap); have HX10 := Lib.hid (ext_grown HX9.out q4 HB2.out); have HQ10 := Lib.hid q5; have HR10 := Lib.hid q6; have hba := (q4.block W.heap.size (Array.getElem?_eq_some_iff.1 HBA9.out).1 (fun e => by obtain ⟨es, c, hm⟩ := hmap; have h1 := HBA9.out; rw [Option.some.inj e, hm] at h1; cases h1)).trans HBA9.out; have HBA10 := Lib.hid hba; have c010 := cell_of_row _ _ 0 _ _ _ hba; have c110 := cell_of_row _ _ 1 _ _ _ hba; have c210 := cell_of_row _ _ 2 _ _ _ hba; clear hba q1 q2 q3 q4 q5 q6 hmap HC9 HT9 HX9 HBA9 c09 c19 c29)
      obtain ⟨_, _, ⟨h10, rfl⟩, _⟩ := HR10.out HE3.out
      rw [HE3.out]
      have k1 : (other != other) = false := by simp
      have HGT : Hid (getF (putF T2 ⟨other, pub, ver, p, h10⟩) pub = some ⟨other, pub, ver, p, h10⟩) := by show _ = _; rw [putF_get, if_pos rfl]
      clear HQ10 HR10 HL10 HG2 HE3 HC10
      generalize putF T2 ⟨other, pub, ver, p, h10⟩ = T3 at *
      go_upto_region 14 with fail
      clear k1
      have hgot := got_some HGT.out
      have hby := bypub_any w10 b bm T3 HT10.out HOK10.out.may pub
      rw [hgot.1, hgot.2] at hby
      have HBY := Lib.hid hby
      have HGI := Lib.hid hgot
      clear hgot hby
      go_upto_region 15 with (go_at_call 8; (with_reducible refine HBY.out.mono ?_); rintro e w20 ⟨h20, rfl, hr, hx⟩; obtain ⟨ah20, nh20, ch20, rfl⟩ : ∃ a n c, h20 = .slice a n c := (by obtain ⟨a, c, e, _⟩ := hr.shape; exact ⟨a, _, c, e⟩); have HT20 := Lib.hid (HT10.out.ext hx); have HX20 := Lib.hid (HX10.out.trans hx); have hba := block_later HBA10.out hx; have HBA20 := Lib.hid hba; have c020 := cell_of_row _ _ 0 _ _ _ hba; clear hba hx hr HT10 HX10 HBA10 c010 c110 c210 HBY)
      have k1 : (other == other) = true := beq_self_eq_true _
      have HWY := Lib.hid (withdraw_yes w20 b bm T3 HT20.out other pub HGI.out.2 (by rw [HGI.out.1]))
      go_wp2_with (first
        | (go_at_call 14; first
          | ((with_reducible refine HWY.out.mono ?_); rintro e w21 ⟨rfl, q1, q2⟩; have hmap := HT20.out.map.isMap; have HT21 := Lib.hid q1; have HX21 := Lib.hid (ext_grown HX20.out q2 HB2.out); have hba := (q2.block W.heap.size (Array.getElem?_eq_some_iff.1 HBA20.out).1 (fun e => by obtain ⟨es, c, hm⟩ := hmap; have h1 := HBA20.out; rw [Option.some.inj e, hm] at h1; cases h1)).trans HBA20.out; have c021 := cell_of_row _ _ 0 _ _ _ hba; have HWN := Lib.hid (withdraw_no w21 b bm _ HT21.out other pub (.inl (got_none (by rw [delF_get, if_pos rfl])).2)); clear hba q1 q2 hmap HT20 HX20 HBA20 c020 HWY HT21)
          | ((with_reducible refine HWN.out.mono ?_); rintro e w22 ⟨rfl, hx⟩; have HX22 := Lib.hid (HX21.out.trans hx); clear hx HX21 HWN))
        | (go_at_call 10; (with_reducible refine (HWK.out _).mono ?_); rintro e w23 ⟨rfl, hx⟩; have HX23 := Lib.hid (HX22.out.trans hx); clear hx))
      go_ret
      exact ⟨rfl, HX23.out⟩
    · have k1 : (other == link) = false := beq_eq_false_iff_ne.2 hol
      have k2 : (other != link) = true := by rw [bne, k1]; rfl
      have hE3 : learnE T2 other pub ver p = 1 ∨ learnE T2 other pub ver p = 9 := by
        unfold learnE
        cases argB other pub ver with
        | true => exact .inl (if_pos rfl)
        | false =>
          rw [if_neg Bool.false_ne_true, if_neg (by rw [HMAY.out]; exact (fun h => by cases h)), if_pos ⟨(got_some HG2.out).2, by rw [(got_some HG2.out).1]; exact fun e => hol e.symm⟩]
          exact .inr rfl
      have HE3 := Lib.hid hE3
      have HNE : Hid (learnE T2 other pub ver p ≠ 0) := by rcases hE3 with h | h <;> (show _ ≠ _; rw [h]; decide)
      clear hE3 hol
      go_upto_region 12 with (go_at_call 9; (with_reducible refine (learn_all w9 b bm T2 HT9.out HOK5.out other pub ver _ p (HP.out.ext HX9.out) HKP.out).mono ?_); rintro e w10 ⟨lc10, T10, rfl, q1, q2, q3, q4, q5, q6⟩; have hmap := HT9.out.map.isMap; have HT10 := Lib.hid q1; have HOK10 := Lib.hid q2; have HL10 := Lib.hid q3; have HC10 := Lib.hid (HC9.out.other q4 HCM.out.2 HCM.out.1 hmap); have HX10 := Lib.hid (ext_grown HX9.out q4 HB2.out); have HQ10 := Lib.hid q5; have HR10 := Lib.hid q6; have hba := (q4.block W.heap.size (Array.getElem?_eq_some_iff.1 HBA9.out).1 (fun e => by obtain ⟨es, c, hm⟩ := hmap; have h1 := HBA9.out; rw [Option.some.inj e, hm] at h1; cases h1)).trans HBA9.out; have HBA10 := Lib.hid hba; have c010 := cell_of_row _ _ 0 _ _ _ hba; have c110 := cell_of_row _ _ 1 _ _ _ hba; have c210 := cell_of_row _ _ 2 _ _ _ hba; clear hba q1 q2 q3 q4 q5 q6 hmap HC9 HT9 HX9 HBA9 c09 c19 c29)
      obtain ⟨rfl, rfl⟩ := HQ10.out HNE.out
      have hEv := HE3.out
      clear HQ10 HR10 HL10 HNE HE3
      generalize learnE T10 other pub ver p = E3 at *
      have HLE : Hid (T10.length ≤ 1000000) := Nat.le_trans HL5'.out (by decide)
      have tlen : ∀ (v : Value) (us ks : List KN) (W : World), AdsR W v us → us.map sayK = ks.map sayK → RisK T10 (fun _ => true) ks → ∃ a c, v = .slice a T10.length c := fun v us ks W h1 h2 h3 => by
        obtain ⟨a, c, e, _, _⟩ := Row.shape h1.1
        have h4 := congrArg List.length h2
        rw [List.length_map, List.length_map, h3.len, List.filter_eq_self.2 (fun _ _ => rfl)] at h4
        exact ⟨a, c, by rw [e, h4]⟩
      have HTL := Lib.hid tlen
      have HGT := Lib.hid HG2.out
      clear tlen HG2 HL5'
      obtain ⟨tl, htl⟩ : ∃ n, n = T10.length := ⟨_, rfl⟩
      rw [← htl] at HTL
      clear htl
      rcases hEv with rfl | rfl
      · go_upto_region 14 with (first
          | (go_at_call 13; first
            | ((with_reducible refine (tall_any w10 b bm T10 HT10.out HOK10.out.may HLE.out).mono ?_); rintro e w11 ⟨v11, us11, ks11, rfl, h1, h2, h3, hx⟩; obtain ⟨a11, c11, rfl⟩ := HTL.out _ _ _ _ h1 h2 h3; have HT11 := Lib.hid (HT10.out.ext hx); have HC11 := Lib.hid (HC10.out.ext hx); have HX11 := Lib.hid (HX10.out.trans hx); have hba := block_later HBA10.out hx; have HBA11 := Lib.hid hba; clear hba hx h1 h2 h3 HT10 HC10 HX10 HBA10 c010 c110 c210)
            | ((with_reducible refine (tall_any w11 cb cm T10 HC11.out HOK10.out.may HLE.out).mono ?_); rintro e w12 ⟨v12, us12, ks12, rfl, h1, h2, h3, hx⟩; obtain ⟨a12, c12, rfl⟩ := HTL.out _ _ _ _ h1 h2 h3; have HT12 := Lib.hid (HT11.out.ext hx); have HX12 := Lib.hid (HX11.out.trans hx); have hba := block_later HBA11.out hx; have HBA12 := Lib.hid hba; have c012 := cell_of_row _ _ 0 _ _ _ hba; have c112 := cell_of_row _ _ 1 _ _ _ hba; have c212 := cell_of_row _ _ 2 _ _ _ hba; clear hba hx h1 h2 h3 HT11 HC11 HX11 HBA11)))
        clear k1 k2
        have hgot := got_some HGT.out
        have hby := bypub_any w12 b bm T10 HT12.out HOK10.out.may pub
        rw [hgot.1, hgot.2] at hby
        have HBY := Lib.hid hby
        have HGI := Lib.hid hgot
        clear hgot hby
        go_upto_region 15 with (go_at_call 8; (with_reducible refine HBY.out.mono ?_); rintro e w20 ⟨h20, rfl, hr, hx⟩; obtain ⟨ah20, nh20, ch20, rfl⟩ : ∃ a n c, h20 = .slice a n c := (by obtain ⟨a, c, e, _⟩ := hr.shape; exact ⟨a, _, c, e⟩); have HT20 := Lib.hid (HT12.out.ext hx); have HX20 := Lib.hid (HX12.out.trans hx); have hba := block_later HBA12.out hx; have HBA20 := Lib.hid hba; have c020 := cell_of_row _ _ 0 _ _ _ hba; clear hba hx hr HT12 HX12 HBA12 c012 c112 c212 HBY)
        have k1 : (link == link) = true := beq_self_eq_true _
        have HWY := Lib.hid (withdraw_yes w20 b bm T10 HT20.out link pub HGI.out.2 (by rw [HGI.out.1]))
        go_wp2_with (first
          | (go_at_call 14; first
            | ((with_reducible refine HWY.out.mono ?_); rintro e w21 ⟨rfl, q1, q2⟩; have hmap := HT20.out.map.isMap; have HT21 := Lib.hid q1; have HX21 := Lib.hid (ext_grown HX20.out q2 HB2.out); have hba := (q2.block W.heap.size (Array.getElem?_eq_some_iff.1 HBA20.out).1 (fun e => by obtain ⟨es, c, hm⟩ := hmap; have h1 := HBA20.out; rw [Option.some.inj e, hm] at h1; cases h1)).trans HBA20.out; have c021 := cell_of_row _ _ 0 _ _ _ hba; have HWN := Lib.hid (withdraw_no w21 b bm _ HT21.out link pub (.inl (got_none (by rw [delF_get, if_pos rfl])).2)); clear hba q1 q2 hmap HT20 HX20 HBA20 c020 HWY HT21)
            | ((with_reducible refine HWN.out.mono ?_); rintro e w22 ⟨rfl, hx⟩; have HX22 := Lib.hid (HX21.out.trans hx); clear hx HX21 HWN))
          | (go_at_call 10; (with_reducible refine (HWK.out _).mono ?_); rintro e w23 ⟨rfl, hx⟩; have HX23 := Lib.hid (HX22.out.trans hx); clear hx))
        go_ret
        exact ⟨rfl, HX23.out⟩
      · go_upto_region 14 with (first
          | (go_at_call 13; first
            | ((with_reducible refine (tall_any w10 b bm T10 HT10.out HOK10.out.may HLE.out).mono ?_); rintro e w11 ⟨v11, us11, ks11, rfl, h1, h2, h3, hx⟩; obtain ⟨a11, c11, rfl⟩ := HTL.out _ _ _ _ h1 h2 h3; have HT11 := Lib.hid (HT10.out.ext hx); have HC11 := Lib.hid (HC10.out.ext hx); have HX11 := Lib.hid (HX10.out.trans hx); have hba := block_later HBA10.out hx; have HBA11 := Lib.hid hba; clear hba hx h1 h2 h3 HT10 HC10 HX10 HBA10 c010 c110 c210)
            | ((with_reducible refine (tall_any w11 cb cm T10 HC11.out HOK10.out.may HLE.out).mono ?_); rintro e w12 ⟨v12, us12, ks12, rfl, h1, h2, h3, hx⟩; obtain ⟨a12, c12, rfl⟩ := HTL.out _ _ _ _ h1 h2 h3; have HT12 := Lib.hid (HT11.out.ext hx); have HX12 := Lib.hid (HX11.out.trans hx); have hba := block_later HBA11.out hx; have HBA12 := Lib.hid hba; have c012 := cell_of_row _ _ 0 _ _ _ hba; have c112 := cell_of_row _ _ 1 _ _ _ hba; have c212 := cell_of_row _ _ 2 _ _ _ hba; clear hba hx h1 h2 h3 HT11 HC11 HX11 HBA11)))
        clear k1 k2
        have hgot := got_some HGT.out
        have hby := bypub_any w12 b bm T10 HT12.out HOK10.out.may pub
        rw [hgot.1, hgot.2] at hby
        have HBY := Lib.hid hby
        have HGI := Lib.hid hgot
        clear hgot hby
        go_upto_region 15 with (go_at_call 8; (with_reducible refine HBY.out.mono ?_); rintro e w20 ⟨h20, rfl, hr, hx⟩; obtain ⟨ah20, nh20, ch20, rfl⟩ : ∃ a n c, h20 = .slice a n c := (by obtain ⟨a, c, e, _⟩ := hr.shape; exact ⟨a, _, c, e⟩); have HT20 := Lib.hid (HT12.out.ext hx); have HX20 := Lib.hid (HX12.out.trans hx); have hba := block_later HBA12.out hx; have HBA20 := Lib.hid hba; have c020 := cell_of_row _ _ 0 _ _ _ hba; clear hba hx hr HT12 HX12 HBA12 c012 c112 c212 HBY)
        have k1 : (link == link) = true := beq_self_eq_true _
        have HWY := Lib.hid (withdraw_yes w20 b bm T10 HT20.out link pub HGI.out.2 (by rw [HGI.out.1]))
        go_wp2_with (first
          | (go_at_call 14; first
            | ((with_reducible refine HWY.out.mono ?_); rintro e w21 ⟨rfl, q1, q2⟩; have hmap := HT20.out.map.isMap; have HT21 := Lib.hid q1; have HX21 := Lib.hid (ext_grown HX20.out q2 HB2.out); have hba := (q2.block W.heap.size (Array.getElem?_eq_some_iff.1 HBA20.out).1 (fun e => by obtain ⟨es, c, hm⟩ := hmap; have h1 := HBA20.out; rw [Option.some.inj e, hm] at h1; cases h1)).trans HBA20.out; have c021 := cell_of_row _ _ 0 _ _ _ hba; have HWN := Lib.hid (withdraw_no w21 b bm _ HT21.out link pub (.inl (got_none (by rw [delF_get, if_pos rfl])).2)); clear hba q1 q2 hmap HT20 HX20 HBA20 c020 HWY HT21)
            | ((with_reducible refine HWN.out.mono ?_); rintro e w22 ⟨rfl, hx⟩; have HX22 := Lib.hid (HX21.out.trans hx); clear hx HX21 HWN))
          | (go_at_call 10; (with_reducible refine (HWK.out _).mono ?_); rintro e w23 ⟨rfl, hx⟩; have HX23 := Lib.hid (HX22.out.trans hx); clear hx))
        go_ret
        exact ⟨rfl, HX23.out⟩
end Go.Proofs.YtabegbelkfhbcaaGreat
