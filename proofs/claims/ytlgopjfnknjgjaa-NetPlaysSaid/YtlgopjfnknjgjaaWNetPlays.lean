/- NetPlays, walked. -/
import Derived.Test.YtlgopjfnknjgjaaN27
import Derived.Test.YtlgopjfnknjgjaaN14
import Derived.Deep.CutBlock
import Derived.BigQuiet
namespace Go.Proofs.Ytlgopjfnknjgjaa
open Go.RowKit Go.MapKept

theorem waysP (w : World) (base bn bm k last : Nat) (L : List PK) (h : NetR w base bn bm k last L) (W : List WY) (hW : L.map wOf = W) (M : Nat) (hM : W.length = M) : Calls Try.prog 26 #[.pointer (some ⟨bn, 0, none⟩)] w fun e w' => ∃ a c, e = .returned (.slice a M c) ∧ WR w' (.slice a M c) W ∧ c ≤ maxLen ∧ Ext w w' := by
  subst hW; subst hM
  refine (ways_any w base bn bm k last L h).mono ?_
  rintro e w' ⟨v, rfl, ho, hx⟩
  obtain ⟨a, c, rfl, _, hm⟩ := own_shape ho
  exact ⟨a, c, rfl, WaysO.row ho, hm, hx⟩
theorem betwP (w : World) (base bn bm k last : Nat) (L : List PK) (h : NetR w base bn bm k last L) (W : List WY) (hW : L.map wOf = W) (p q : Int) (Q : List Nat) (hQ : betw p q W = Q) (m : Nat) (hm : Q.length = m) : Calls Try.prog 33 #[.pointer (some ⟨bn, 0, none⟩), .int .i64 p, .int .i64 q] w fun e w' => ∃ a c, e = .returned (.slice a m c) ∧ Row w' 1 (.slice a m c) m (Q.map nC) ∧ c ≤ maxLen ∧ Ext w w' := by
  subst hW; subst hQ; subst hm
  refine (between_any w base bn bm k last L h p q).mono ?_
  rintro e w' ⟨v, rfl, ho, hx⟩
  obtain ⟨a, c, rfl, _, hm⟩ := own_shape ho
  exact ⟨a, c, rfl, Row.of_own ho, hm, hx⟩
set_option maxRecDepth 100000 in
set_option maxHeartbeats 0 in
theorem netPlays_none (w : World) (kI : Int) (vl : Value) (hk : kI < 1 ∨ 64 < kI) : Calls Try.prog 10 #[.int .i64 kI, vl] w fun e w' => e = .returned (.bool true) ∧ Ext w w' := by
  have HK := Lib.hid hk
  clear hk
  go_enter Try.func10, Try.ntmps10
  go_wp2_with (first
    | (go_at_call 21; (with_reducible refine (new_no w kI HK.out).mono ?_); rintro e w1 ⟨rfl, hx⟩; have HX1 := Lib.hid hx; clear hx)
    | (go_at_call 28; (with_reducible refine (rnew_no w1 kI HK.out).mono ?_); rintro e w2 ⟨rfl, hx⟩; have HX2 := Lib.hid (HX1.out.trans hx); clear hx)
    | (go_at_call 27; (with_reducible refine (netwakes_any _).mono ?_); rintro e w3 ⟨rfl, hx⟩; have HX3 := Lib.hid (HX2.out.trans hx); clear hx))
  go_ret
  exact ⟨rfl, HX3.out⟩
set_option maxRecDepth 100000 in
set_option maxHeartbeats 0 in
theorem netPlays_some (w : World) (k : Nat) (h1 : 1 ≤ k) (h2 : k ≤ 64) (vl : Value) (l : List OPn) (hi : OpR w vl l) (hb : ∀ x ∈ l, okO x ∧ x.b.length ≤ 140737488351232) : Calls Try.prog 10 #[.int .i64 k, vl] w fun e w' => e = .returned (.bool true) ∧ Ext w w' := by
  obtain ⟨a, cap, rfl, hc, hmx⟩ := Row.shape hi.row
  unfold maxLen at hmx
  have HI := Lib.hid hi
  have HB := Lib.hid hb
  have HK := Lib.hid (And.intro h1 h2)
  clear hi hb h1 h2
  generalize hN : l.length = N at *
  have HN := Lib.hid hN
  clear hN
  go_enter Try.func10, Try.ntmps10
  go_upto_region 2 with (go_at_call 21; (with_reducible refine (new_yes w k HK.out.1 HK.out.2).mono ?_); rintro e w1 ⟨rfl, hn, hx⟩; have HN1 := Lib.hid hn; have HX1 := Lib.hid hx; clear hn hx)
  have HBN : Hid (w.heap.size ≤ w.heap.size + 1) := Nat.le_succ _
  generalize hbn : w.heap.size + 1 = bn at HN1 HBN ⊢
  clear hbn
  obtain ⟨bm, hbm⟩ : ∃ bm, bm = w.heap.size := ⟨_, rfl⟩
  have HNA : Hid (NetR w1 w.heap.size bn bm k 0 []) := by rw [hbm]; exact HN1.out
  clear hbm HN1
  go_upto_region 3 with (go_at_call 28; (with_reducible refine (rnew_yes w1 k HK.out.1 HK.out.2).mono ?_); rintro e w2 ⟨rfl, hn, hx⟩; have HR2 := Lib.hid hn; have HX2 := Lib.hid hx; clear hn hx)
  have HBR : Hid (w.heap.size ≤ w1.heap.size) := HX1.out.size
  generalize w1.heap.size = rb at HR2 HBR ⊢
  have HP0 : Hid (PlayW w w2 k rb bn 0) := ⟨w.heap.size, bm, 0, [], rb, .slice none 0 0, [], ⟨HNA.out.ext HX2.out, HR2.out, (fun _ h => nomatch h), HX1.out.trans HX2.out, Nat.le_refl _, HBR.out⟩, rfl, Nat.le_refl _⟩
  clear HNA HR2 HX1 HX2 HBN
  go_upto_region 7 with (go_at_call 27; (with_reducible refine (netwakes_any _).mono ?_); rintro e w3 ⟨rfl, hx⟩; have HP3 := Lib.hid (HP0.out.ext' hx); clear hx)
  clear HP0
  go_wp2_with fail
  go_loopw [5, 9] (fun nv i wr => ∃ bn' j : Nat, j ≤ N ∧ j ≤ 100 ∧ nv = .pointer (some ⟨bn', 0, none⟩) ∧ i = .int .i64 j ∧ Hid (PlayW w wr k rb bn' j)) (fun _ i _ => N - (intOf i).toNat)
  case atStart => exact ⟨bn, 0, Nat.zero_le _, Nat.zero_le _, rfl, rfl, HP3.out⟩
  case round => as_aux_lemma =>
    clear HP3
    obtain ⟨bn', j, hj, hj100, rfl, rfl, hst⟩ := hrel
    by_cases hlt : j < N ∧ j < 100
    · obtain ⟨hlt, hlt100⟩ := hlt
      have hI : decide ((j : Int) < (N : Int)) = true := decide_eq_true (by omega)
      have hI2 : decide ((j : Int) < 100) = true := decide_eq_true (by omega)
      have hjN : (j : Int) < (N : Int) := by omega
      obtain ⟨base, bm', last, L, base2, lv, R, h2, hs, hl⟩ := hst.out
      have hjl : j < l.length := by rw [HN.out]; exact hlt
      obtain ⟨B, o, ea, f0, f1, f2, f3, f4⟩ := (HI.out.ext h2.ext).at hjl
      subst ea
      obtain ⟨⟨hid64, ah, ch, eh⟩, hsz⟩ := HB.out _ (List.getElem_mem hjl)
      have hbx := HI.out.hs _ (List.getElem_mem hjl)
      rw [eh] at f4 hbx
      have H2 := Lib.hid h2
      have HS := Lib.hid hs
      have HL := Lib.hid hl
      clear h2 hs hl hst eh hid64
      generalize l[j] = x at *
      clear hjl
      have hsh := hbx.shape
      obtain ⟨_, _, esh, hch, hmb⟩ := hsh
      simp only [Value.slice.injEq] at esh
      obtain ⟨-, -, rfl⟩ := esh
      unfold maxLen at hmb
      have HBX := Lib.hid hbx
      clear hbx
      generalize x.wh = wh at *
      generalize x.fr = p at *
      generalize x.dst = q at *
      generalize x.id = id at *
      generalize x.b = xb at *
      clear x
      go_upto_region 11 with fail
      clear f0 f1 f2 f3 f4
      obtain ⟨hxa, hbx⟩ := boxes1 wr (.cells #[.int .i64 wh, .int .i64 p, .int .i64 q, .int .u64 id, .slice ah xb.length ch] 54)
      have HT : Hid (TwoB w (wr.alloc (.cells #[.int .i64 wh, .int .i64 p, .int .i64 q, .int .u64 id, .slice ah xb.length ch] 54)) base bn' bm' k last L base2 rb last lv R wr.heap.size #[.int .i64 wh, .int .i64 p, .int .i64 q, .int .u64 id, .slice ah xb.length ch]) := ⟨H2.out.ext' hxa, hbx⟩
      clear H2 hxa hbx
      generalize wr.alloc (.cells #[.int .i64 wh, .int .i64 p, .int .i64 q, .int .u64 id, .slice ah xb.length ch] 54) = wa at *
      generalize wr.heap.size = bx at *
      obtain ⟨b0, b1, b2, b3, b4⟩ := HT.out.cells
      obtain ⟨K, hK⟩ : ∃ K, L.map kK = K := ⟨_, rfl⟩
      have HKR : Hid (R.map kK = K) := by show _ = _; rw [← HS.out]; exact hK
      have HKL := Lib.hid hK
      have HFW := Lib.hid (HT.out.few HS.out (by have := HL.out; omega))
      have HLA : Hid (last < 1000000000) := by have := HL.out; show last < 1000000000; omega
      have HLJ : Hid (j < 100) := hlt100
      clear hK
      go_upto_block 2 with fail
      go_cut [5, 11, 12, 13, 14, 15, 16, 17, 18, 19, 20, 21, 22, 23, 24, 25, 26, 27, 28, 29, 30, 31, 32, 33, 34, 35, 36] from 77 to 263 (fun nv _ _ _ _ _ _ _ _ _ _ _ _ _ _ _ _ _ _ _ _ _ _ _ _ _ _ wx => ∃ bn2 : Nat, nv = .pointer (some ⟨bn2, 0, none⟩) ∧ Hid (∃ base bm last L base2 lv R, TwoB w wx base bn2 bm k last L base2 rb last lv R bx #[.int .i64 wh, .int .i64 p, .int .i64 q, .int .u64 id, .slice ah xb.length ch] ∧ L.map kK = R.map kK ∧ last ≤ j + 1))
      case first => as_aux_lemma =>
        have hcase : wh = 0 ∨ wh = 1 ∨ wh = 2 ∨ wh = 3 ∨ wh = 4 ∨ wh = 5 ∨ wh = 6 ∨ (wh ≠ 0 ∧ wh ≠ 1 ∧ wh ≠ 2 ∧ wh ≠ 3 ∧ wh ≠ 4 ∧ wh ≠ 5 ∧ wh ≠ 6) := by omega
        rcases hcase with rfl | rfl | rfl | rfl | rfl | rfl | rfl | hno
        · as_aux_lemma => -- send
          obtain ⟨eN, heN⟩ : ∃ e, sE k p q xb.length = e := ⟨_, rfl⟩
          obtain ⟨aN, haN⟩ : ∃ a, aE eN last = a := ⟨_, rfl⟩
          have HE := Lib.hid heN
          have HA := Lib.hid haN
          have HBW := Lib.hid (Bytes.ext HBX.out HT.out.t.ext)
          have hb1 : (0 + xb.length) * 1 ≤ 140737488355328 := by omega
          have hb2 : 0 + xb.length ≤ maxLen := by unfold maxLen; omega
          clear heN haN
          go_upto_region 15 with (at_builtin; (refine wpList_append_row 52 5 (.const (.slice none 0 0)) (.tmp 83) rfl wa.heap.size _ 1 1 Try.underlying52 info5t rfl (by decide) rfl (.slice none 0 0) 0 [] rfl (own_none _ _ _ _) xb.length (bC xb) HBW.out (bC_one xb) hb1 hb2 (Nat.le_refl _) ?_); intro v84 w1 ho hg; have ho2 := own_zeroB ho; have hx2 : Ext wa w1 := (Ext.refl wa).grown_none (v := .slice none 0 0) hg (fun _ h => nomatch h); obtain ⟨am, cm, rfl, _, _⟩ := own_shape ho2; have HT1 := Lib.hid (HT.out.mine ho2 hx2); clear ho ho2 hg hx2)
          clear b0 b1 b2 b3 b4 HBW HT
          obtain ⟨b0, b1, b2, b3, b4⟩ := HT1.out.1.cells
          go_upto_region 16 with (go_at_call 22; (with_reducible refine (HT1.out.1.send HKL.out HT1.out.2 HFW.out.1 HLA.out p q HE.out HA.out).mono ?_); rintro e w2 ⟨rfl, L2, hk2, ht2, hm2⟩; have HK2 := Lib.hid hk2; have HT2 := Lib.hid ht2; have HM2 := Lib.hid hm2; clear hk2 ht2 hm2)
          clear b0 b1 b2 b3 b4 HT1
          obtain ⟨b0, b1, b2, b3, b4⟩ := HT2.out.cells
          go_upto_region 17 with (go_at_call 29; (with_reducible refine (HT2.out.rsend HKR.out HM2.out HBX.out HFW.out.2.1 HLA.out p q HE.out HA.out).mono ?_); rintro e w3 ⟨rfl, lv3, R3, hk3, ht3, hm3⟩; have HK3 := Lib.hid hk3; have HT3 := Lib.hid ht3; have HM3 := Lib.hid hm3; clear hk3 ht3 hm3)
          clear b0 b1 b2 b3 b4 HT2 HM2
          obtain ⟨b0, b1, b2, b3, b4⟩ := HT3.out.cells
          have cv1 : (convert 52 9 (.slice am xb.length cm)).run Try.prog w3 = .ok (.string (strOf xb)) w3 := run_bytes_str _ 52 9 5 Try.underlying52 Try.underlying5 Try.underlying9 HM3.out.bytes
          have cv2 : (convert 52 9 (.slice ah xb.length ch)).run Try.prog w3 = .ok (.string (strOf xb)) w3 := run_bytes_str _ 52 9 5 Try.underlying52 Try.underlying5 Try.underlying9 (Bytes.ext HBX.out HT3.out.t.ext)
          have HKK : Hid (L2.map kK = R3.map kK) := by show _ = _; rw [HK2.out, HK3.out]
          have HLE : Hid (lE eN last ≤ j + 1) := lE_le HL.out
          go_upto_region 19 with fail
          clear cv1 cv2 b0 b1 b2 b3 b4 HK2 HK3
          go_wp2_with fail
          go_loopw [16] (fun i wr => ∃ jj : Nat, jj ≤ xb.length ∧ i = .int .i64 jj ∧ Hid (∃ l2 : List UInt8, l2.length = xb.length ∧ TwoB w wr base bn' bm' k (lE eN last) L2 base2 rb (lE eN last) lv3 R3 bx #[.int .i64 0, .int .i64 p, .int .i64 q, .int .u64 id, .slice ah xb.length ch] ∧ MineB w wr L2 R3 (.slice am xb.length cm) l2)) (fun i _ => xb.length - (intOf i).toNat)
          case atStart => exact ⟨0, Nat.zero_le _, rfl, xb, rfl, HT3.out, HM3.out⟩
          case round => as_aux_lemma =>
            obtain ⟨jj, hjj, rfl, hq⟩ := hrel
            by_cases hjl : jj < xb.length
            · have hJ : decide ((jj : Int) < (xb.length : Int)) = true := decide_eq_true (by omega)
              have hjN : (jj : Int) < (xb.length : Int) := by omega
              obtain ⟨l2, hl2, ht2, hm2⟩ := hq.out
              obtain ⟨g, hg⟩ := hm2.spot (by omega)
              subst hg
              have hjl2 : jj < l2.length := by omega
              obtain ⟨m0, m1⟩ := hm2.cell hjl2
              obtain ⟨mb, hmb2⟩ := xor1 l2[jj]
              have hlen2 : (l2.set jj mb).length = xb.length := by rw [List.length_set]; exact hl2
              have HQ := Lib.hid (And.intro hlen2 (ht2.turn hm2 hjl2 mb))
              generalize l2.set jj mb = l3 at *
              generalize mb.toNat = mm at *
              generalize l2[jj].toNat = nn at *
              clear hq hl2 ht2 hm2 hjl2 hlen2
              go_wp2_with fail
              go_roundw
              case rel => exact ⟨jj + 1, hjl, by go_num, l3, HQ.out.1, HQ.out.2.1, HQ.out.2.2⟩
              case measure => simp [intOf]; omega
            · obtain rfl : jj = xb.length := by omega
              have hJ : decide ((xb.length : Int) < (xb.length : Int)) = false := decide_eq_false (by omega)
              obtain ⟨l2, hl2, ht2, hm2⟩ := hq.out
              have HTF := Lib.hid ht2
              clear hq hl2 ht2 hm2
              go_wp2_with fail
              go_meet
              exact ⟨bn', rfl, base, bm', _, L2, base2, lv3, R3, HTF.out, HKK.out, HLE.out⟩
        · as_aux_lemma => -- send
          obtain ⟨eN, heN⟩ : ∃ e, sE k p q xb.length = e := ⟨_, rfl⟩
          obtain ⟨aN, haN⟩ : ∃ a, aE eN last = a := ⟨_, rfl⟩
          have HE := Lib.hid heN
          have HA := Lib.hid haN
          have HBW := Lib.hid (Bytes.ext HBX.out HT.out.t.ext)
          have hb1 : (0 + xb.length) * 1 ≤ 140737488355328 := by omega
          have hb2 : 0 + xb.length ≤ maxLen := by unfold maxLen; omega
          clear heN haN
          go_upto_region 15 with (at_builtin; (refine wpList_append_row 52 5 (.const (.slice none 0 0)) (.tmp 83) rfl wa.heap.size _ 1 1 Try.underlying52 info5t rfl (by decide) rfl (.slice none 0 0) 0 [] rfl (own_none _ _ _ _) xb.length (bC xb) HBW.out (bC_one xb) hb1 hb2 (Nat.le_refl _) ?_); intro v84 w1 ho hg; have ho2 := own_zeroB ho; have hx2 : Ext wa w1 := (Ext.refl wa).grown_none (v := .slice none 0 0) hg (fun _ h => nomatch h); obtain ⟨am, cm, rfl, _, _⟩ := own_shape ho2; have HT1 := Lib.hid (HT.out.mine ho2 hx2); clear ho ho2 hg hx2)
          clear b0 b1 b2 b3 b4 HBW HT
          obtain ⟨b0, b1, b2, b3, b4⟩ := HT1.out.1.cells
          go_upto_region 16 with (go_at_call 22; (with_reducible refine (HT1.out.1.send HKL.out HT1.out.2 HFW.out.1 HLA.out p q HE.out HA.out).mono ?_); rintro e w2 ⟨rfl, L2, hk2, ht2, hm2⟩; have HK2 := Lib.hid hk2; have HT2 := Lib.hid ht2; have HM2 := Lib.hid hm2; clear hk2 ht2 hm2)
          clear b0 b1 b2 b3 b4 HT1
          obtain ⟨b0, b1, b2, b3, b4⟩ := HT2.out.cells
          go_upto_region 17 with (go_at_call 29; (with_reducible refine (HT2.out.rsend HKR.out HM2.out HBX.out HFW.out.2.1 HLA.out p q HE.out HA.out).mono ?_); rintro e w3 ⟨rfl, lv3, R3, hk3, ht3, hm3⟩; have HK3 := Lib.hid hk3; have HT3 := Lib.hid ht3; have HM3 := Lib.hid hm3; clear hk3 ht3 hm3)
          clear b0 b1 b2 b3 b4 HT2 HM2
          obtain ⟨b0, b1, b2, b3, b4⟩ := HT3.out.cells
          have cv1 : (convert 52 9 (.slice am xb.length cm)).run Try.prog w3 = .ok (.string (strOf xb)) w3 := run_bytes_str _ 52 9 5 Try.underlying52 Try.underlying5 Try.underlying9 HM3.out.bytes
          have cv2 : (convert 52 9 (.slice ah xb.length ch)).run Try.prog w3 = .ok (.string (strOf xb)) w3 := run_bytes_str _ 52 9 5 Try.underlying52 Try.underlying5 Try.underlying9 (Bytes.ext HBX.out HT3.out.t.ext)
          have HKK : Hid (L2.map kK = R3.map kK) := by show _ = _; rw [HK2.out, HK3.out]
          have HLE : Hid (lE eN last ≤ j + 1) := lE_le HL.out
          go_upto_region 19 with fail
          clear cv1 cv2 b0 b1 b2 b3 b4 HK2 HK3
          go_wp2_with fail
          go_loopw [16] (fun i wr => ∃ jj : Nat, jj ≤ xb.length ∧ i = .int .i64 jj ∧ Hid (∃ l2 : List UInt8, l2.length = xb.length ∧ TwoB w wr base bn' bm' k (lE eN last) L2 base2 rb (lE eN last) lv3 R3 bx #[.int .i64 1, .int .i64 p, .int .i64 q, .int .u64 id, .slice ah xb.length ch] ∧ MineB w wr L2 R3 (.slice am xb.length cm) l2)) (fun i _ => xb.length - (intOf i).toNat)
          case atStart => exact ⟨0, Nat.zero_le _, rfl, xb, rfl, HT3.out, HM3.out⟩
          case round => as_aux_lemma =>
            obtain ⟨jj, hjj, rfl, hq⟩ := hrel
            by_cases hjl : jj < xb.length
            · have hJ : decide ((jj : Int) < (xb.length : Int)) = true := decide_eq_true (by omega)
              have hjN : (jj : Int) < (xb.length : Int) := by omega
              obtain ⟨l2, hl2, ht2, hm2⟩ := hq.out
              obtain ⟨g, hg⟩ := hm2.spot (by omega)
              subst hg
              have hjl2 : jj < l2.length := by omega
              obtain ⟨m0, m1⟩ := hm2.cell hjl2
              obtain ⟨mb, hmb2⟩ := xor1 l2[jj]
              have hlen2 : (l2.set jj mb).length = xb.length := by rw [List.length_set]; exact hl2
              have HQ := Lib.hid (And.intro hlen2 (ht2.turn hm2 hjl2 mb))
              generalize l2.set jj mb = l3 at *
              generalize mb.toNat = mm at *
              generalize l2[jj].toNat = nn at *
              clear hq hl2 ht2 hm2 hjl2 hlen2
              go_wp2_with fail
              go_roundw
              case rel => exact ⟨jj + 1, hjl, by go_num, l3, HQ.out.1, HQ.out.2.1, HQ.out.2.2⟩
              case measure => simp [intOf]; omega
            · obtain rfl : jj = xb.length := by omega
              have hJ : decide ((xb.length : Int) < (xb.length : Int)) = false := decide_eq_false (by omega)
              obtain ⟨l2, hl2, ht2, hm2⟩ := hq.out
              have HTF := Lib.hid ht2
              clear hq hl2 ht2 hm2
              go_wp2_with fail
              go_meet
              exact ⟨bn', rfl, base, bm', _, L2, base2, lv3, R3, HTF.out, HKK.out, HLE.out⟩
        · as_aux_lemma => -- deliver
          obtain ⟨eN, heN⟩ : ∃ e, dE K id = e := ⟨_, rfl⟩
          have HeN := Lib.hid heN
          obtain ⟨fN, hfN⟩ : ∃ e, dF K id = e := ⟨_, rfl⟩
          have HfN := Lib.hid hfN
          obtain ⟨tN, htN⟩ : ∃ e, dT K id = e := ⟨_, rfl⟩
          have HtN := Lib.hid htN
          obtain ⟨bN, hbN⟩ : ∃ e, dB K id = e := ⟨_, rfl⟩
          have HbN := Lib.hid hbN
          clear heN hfN htN hbN
          go_upto_region 25 with (go_at_call 23; (with_reducible refine (HT.out.deliver HKL.out id HeN.out HfN.out HtN.out HbN.out).mono ?_); rintro e w1 ⟨ad, cd, L1, rfl, hk1, ht1, hm1⟩; have HK1 := Lib.hid hk1; have HT1 := Lib.hid ht1; have HM1 := Lib.hid hm1; clear hk1 ht1 hm1)
          clear b0 b1 b2 b3 b4 HT
          obtain ⟨b0, b1, b2, b3, b4⟩ := HT1.out.cells
          go_upto_region 26 with (go_at_call 30; (with_reducible refine (HT1.out.rdeliver HKR.out (Nat.le_of_lt HFW.out.2.1) HM1.out id HeN.out HfN.out HtN.out HbN.out).mono ?_); rintro e w2 ⟨iN, ap, cp, lv2, R2, rfl, hk2, ht2, hm2, hb2⟩; have HK2 := Lib.hid hk2; have HT2 := Lib.hid ht2; have HM2 := Lib.hid hm2; have HB2 := Lib.hid hb2; clear hk2 ht2 hm2 hb2)
          clear b0 b1 b2 b3 b4 HT1 HM1
          obtain ⟨hxp, hbp⟩ := boxes1 w2 (.cells #[.int .u64 iN, .int .i64 fN, .int .i64 tN, .slice ap bN.length cp] 75)
          have g1 := cell_of_row _ _ 1 _ _ _ hbp
          have g2 := cell_of_row _ _ 2 _ _ _ hbp
          have g3 := cell_of_row _ _ 3 _ _ _ hbp
          have HT3 := Lib.hid (HT2.out.ext' hxp)
          have HM3 := Lib.hid (HM2.out.ext hxp)
          have cv1 : (convert 52 9 (.slice ad bN.length cd)).run Try.prog (w2.alloc (.cells #[.int .u64 iN, .int .i64 fN, .int .i64 tN, .slice ap bN.length cp] 75)) = .ok (.string (strOf bN)) (w2.alloc (.cells #[.int .u64 iN, .int .i64 fN, .int .i64 tN, .slice ap bN.length cp] 75)) := run_bytes_str _ 52 9 5 Try.underlying52 Try.underlying5 Try.underlying9 HM3.out.bytes
          have cv2 : (convert 52 9 (.slice ap bN.length cp)).run Try.prog (w2.alloc (.cells #[.int .u64 iN, .int .i64 fN, .int .i64 tN, .slice ap bN.length cp] 75)) = .ok (.string (strOf bN)) (w2.alloc (.cells #[.int .u64 iN, .int .i64 fN, .int .i64 tN, .slice ap bN.length cp] 75)) := run_bytes_str _ 52 9 5 Try.underlying52 Try.underlying5 Try.underlying9 (Bytes.ext HB2.out hxp)
          clear hxp hbp HT2 HM2 HB2
          generalize w2.alloc (.cells #[.int .u64 iN, .int .i64 fN, .int .i64 tN, .slice ap bN.length cp] 75) = w3 at *
          generalize w2.heap.size = bp at *
          have HKK : Hid (L1.map kK = R2.map kK) := by show _ = _; rw [HK1.out, HK2.out]
          have HLE : Hid (last ≤ j + 1) := Nat.le_succ_of_le HL.out
          have hbl := HM3.out.len
          go_upto_region 28 with fail
          clear cv1 cv2 g1 g2 g3 HK1 HK2
          go_wp2_with fail
          go_loopw [23] (fun i wr => ∃ jj : Nat, jj ≤ bN.length ∧ i = .int .i64 jj ∧ Hid (∃ l2 : List UInt8, l2.length = bN.length ∧ TwoB w wr base bn' bm' k last L1 base2 rb last lv2 R2 bx #[.int .i64 2, .int .i64 p, .int .i64 q, .int .u64 id, .slice ah xb.length ch] ∧ MineB w wr L1 R2 (.slice ad bN.length cd) l2)) (fun i _ => bN.length - (intOf i).toNat)
          case atStart => exact ⟨0, Nat.zero_le _, rfl, bN, rfl, HT3.out, HM3.out⟩
          case round => as_aux_lemma =>
            obtain ⟨jj, hjj, rfl, hq⟩ := hrel
            by_cases hjl : jj < bN.length
            · have hJ : decide ((jj : Int) < (bN.length : Int)) = true := decide_eq_true (by omega)
              have hjN : (jj : Int) < (bN.length : Int) := by omega
              obtain ⟨l2, hl2, ht2, hm2⟩ := hq.out
              obtain ⟨g, hg⟩ := hm2.spot (by omega)
              subst hg
              have hjl2 : jj < l2.length := by omega
              obtain ⟨m0, m1⟩ := hm2.cell hjl2
              obtain ⟨mb, hmb2⟩ := xor1 l2[jj]
              have hlen2 : (l2.set jj mb).length = bN.length := by rw [List.length_set]; exact hl2
              have HQ := Lib.hid (And.intro hlen2 (ht2.turn hm2 hjl2 mb))
              generalize l2.set jj mb = l3 at *
              generalize mb.toNat = mm at *
              generalize l2[jj].toNat = nn at *
              clear hq hl2 ht2 hm2 hjl2 hlen2
              go_wp2_with fail
              go_roundw
              case rel => exact ⟨jj + 1, hjl, by go_num, l3, HQ.out.1, HQ.out.2.1, HQ.out.2.2⟩
              case measure => simp [intOf]; omega
            · obtain rfl : jj = bN.length := by omega
              have hJ : decide ((bN.length : Int) < (bN.length : Int)) = false := decide_eq_false (by omega)
              obtain ⟨l2, hl2, ht2, hm2⟩ := hq.out
              have HTF := Lib.hid ht2
              clear hq hl2 ht2 hm2
              go_wp2_with fail
              go_meet
              exact ⟨bn', rfl, base, bm', _, L1, base2, lv2, R2, HTF.out, HKK.out, HLE.out⟩
        · as_aux_lemma => -- drop
          obtain ⟨eN, heN⟩ : ∃ e, dE K id = e := ⟨_, rfl⟩
          have HeN := Lib.hid heN
          obtain ⟨fN, hfN⟩ : ∃ e, dF K id = e := ⟨_, rfl⟩
          have HfN := Lib.hid hfN
          obtain ⟨tN, htN⟩ : ∃ e, dT K id = e := ⟨_, rfl⟩
          have HtN := Lib.hid htN
          obtain ⟨bN, hbN⟩ : ∃ e, dB K id = e := ⟨_, rfl⟩
          have HbN := Lib.hid hbN
          clear heN hfN htN hbN
          go_upto_region 34 with (go_at_call 30; (with_reducible refine (HT.out.rdeliver HKR.out (Nat.le_of_lt HFW.out.2.1) (MineB.nil _ _ _ _) id HeN.out HfN.out HtN.out HbN.out).mono ?_); rintro e w2 ⟨iN, ap, cp, lv2, R2, rfl, hk2, ht2, hm2, hb2⟩; have HK2 := Lib.hid hk2; have HT2 := Lib.hid ht2; clear hk2 ht2 hm2 hb2)
          clear b0 b1 b2 b3 b4
          obtain ⟨hxp, hbp⟩ := boxes1 w2 (.cells #[.int .u64 iN, .int .i64 fN, .int .i64 tN, .slice ap bN.length cp] 75)
          have HT3 := Lib.hid (HT2.out.ext' hxp)
          clear hxp hbp HT2 HT
          generalize w2.alloc (.cells #[.int .u64 iN, .int .i64 fN, .int .i64 tN, .slice ap bN.length cp] 75) = w3 at *
          generalize w2.heap.size = bp at *
          obtain ⟨b0, b1, b2, b3, b4⟩ := HT3.out.cells
          have HLE : Hid (last ≤ j + 1) := Nat.le_succ_of_le HL.out
          go_wp2_with (go_at_call 24; (with_reducible refine (HT3.out.drop HKL.out id HeN.out).mono ?_); rintro e w4 ⟨rfl, L4, hk4, ht4⟩; have HK4 := Lib.hid hk4; have HT4 := Lib.hid ht4; clear hk4 ht4)
          go_meet
          exact ⟨bn', rfl, base, bm', _, L4, base2, lv2, R2, HT4.out, by rw [HK4.out, HK2.out], HLE.out⟩
        · as_aux_lemma => -- double
          obtain ⟨eN, heN⟩ : ∃ e, dE K id = e := ⟨_, rfl⟩
          obtain ⟨aN, haN⟩ : ∃ a, aE eN last = a := ⟨_, rfl⟩
          have HE := Lib.hid heN
          have HA := Lib.hid haN
          clear heN haN
          go_upto_region 38 with (go_at_call 25; (with_reducible refine (HT.out.double HKL.out id HFW.out.1 HLA.out HE.out HA.out).mono ?_); rintro e w1 ⟨rfl, L1, hk1, ht1⟩; have HK1 := Lib.hid hk1; have HT1 := Lib.hid ht1; clear hk1 ht1)
          clear b0 b1 b2 b3 b4 HT
          obtain ⟨b0, b1, b2, b3, b4⟩ := HT1.out.cells
          go_wp2_with (go_at_call 31; (with_reducible refine (HT1.out.rdouble HKR.out id HFW.out.2.2 HFW.out.2.1 HLA.out HE.out HA.out).mono ?_); rintro e w2 ⟨rfl, lv2, R2, hk2, ht2⟩; have HK2 := Lib.hid hk2; have HT2 := Lib.hid ht2; clear hk2 ht2)
          go_meet
          exact ⟨bn', rfl, base, bm', _, L1, base2, lv2, R2, HT2.out, by rw [HK1.out, HK2.out], lE_le HL.out⟩
        · as_aux_lemma => -- copy
          go_upto_region 44 with (go_at_call 32; (with_reducible refine (HT.out.copy).mono ?_); rintro e w1 ⟨cn, cm, L1, rfl, hk1, ho1, ht1, hn1, hx1⟩; have HK1 := Lib.hid hk1; have HO1 := Lib.hid ho1; clear hk1 ho1 ht1 hn1 hx1)
          clear b0 b1 b2 b3 b4
          obtain ⟨b0, b1, b2, b3, b4⟩ := HO1.out.b.cells
          have HL2 : Hid (last ≤ 200) := by have := HL.out; have := HLJ.out; show last ≤ 200; omega
          go_wp2_with (first
            | (go_at_call 23; (with_reducible refine (HO1.out.deliver id).mono ?_); rintro e w2 ⟨a2, n2, c2, f2, t2, r2, M2, rfl, hl2, ho2⟩; have HO2 := Lib.hid ho2; clear hl2 ho2)
            | (go_at_call 25; (with_reducible refine (HO2.out.double 1 1 rfl HL2.out).mono ?_); rintro e w3 ⟨a3, r3, rfl, ht3⟩; have HT3 := Lib.hid ht3; clear ht3))
          go_meet
          exact ⟨cn, rfl, _, cm, _, L1, base2, lv, R, HT3.out, by rw [HK1.out, HS.out], Nat.le_succ_of_le HL.out⟩
        · as_aux_lemma => -- change
          have HL2 : Hid (last ≤ 200) := by have := HL.out; have := HLJ.out; show last ≤ 200; omega
          go_upto_region 48 with (go_at_call 32; (with_reducible refine (HT.out.copy).mono ?_); rintro e w1 ⟨cn, cm, L1, rfl, hk1, ho1, ht1, hn1, hx1⟩; have HN1 : Hid (NewN wa w1 wa.heap.size cn cm k last L1) := ⟨hn1, hx1, Nat.le_refl _⟩; have g3 := hx1.cell b3; clear hk1 ho1 ht1 hn1 hx1)
          clear b0 b1 b2 b3 b4
          go_upto_region 50 with (go_at_call 23; (with_reducible refine (HN1.out.deliver id).mono ?_); rintro e w2 ⟨ad, cd, f2, t2, r2, bN, L2, rfl, hl2, hn2, hm2⟩; have HN2 := Lib.hid hn2; have HM2 := Lib.hid hm2; clear hl2 hn2 hm2)
          clear g3
          have hbl := HM2.out.len
          go_wp2_with fail
          go_loopw [36] (fun i wr => ∃ jj : Nat, jj ≤ bN.length ∧ i = .int .i64 jj ∧ Hid (∃ l2 : List UInt8, l2.length = bN.length ∧ NewN wa wr wa.heap.size cn cm k last L2 ∧ MineB wa wr L2 [] (.slice ad bN.length cd) l2)) (fun i _ => bN.length - (intOf i).toNat)
          case atStart => exact ⟨0, Nat.zero_le _, rfl, bN, rfl, HN2.out, HM2.out⟩
          case round => as_aux_lemma =>
            obtain ⟨jj, hjj, rfl, hq⟩ := hrel
            by_cases hjl : jj < bN.length
            · have hJ : decide ((jj : Int) < (bN.length : Int)) = true := decide_eq_true (by omega)
              have hjN : (jj : Int) < (bN.length : Int) := by omega
              obtain ⟨l2, hl2, ht2, hm2⟩ := hq.out
              obtain ⟨g, hg⟩ := hm2.spot (by omega)
              subst hg
              have hjl2 : jj < l2.length := by omega
              obtain ⟨m0, m1⟩ := hm2.cell hjl2
              obtain ⟨mb, hmb2⟩ := xor1 l2[jj]
              have hlen2 : (l2.set jj mb).length = bN.length := by rw [List.length_set]; exact hl2
              have HQ := Lib.hid (And.intro hlen2 (ht2.turn hm2 hjl2 mb))
              generalize l2.set jj mb = l3 at *
              generalize mb.toNat = mm at *
              generalize l2[jj].toNat = nn at *
              clear hq hl2 ht2 hm2 hjl2 hlen2
              go_wp2_with fail
              go_roundw
              case rel => exact ⟨jj + 1, hjl, by go_num, l3, HQ.out.1, HQ.out.2.1, HQ.out.2.2⟩
              case measure => simp [intOf]; omega
            · obtain rfl : jj = bN.length := by omega
              have hJ : decide ((bN.length : Int) < (bN.length : Int)) = false := decide_eq_false (by omega)
              obtain ⟨l2, hl2, ht2, hm2⟩ := hq.out
              have HTF := Lib.hid ht2
              clear hq hl2 ht2 hm2
              go_wp2_with (go_at_call 25; (with_reducible refine (HTF.out.double 1 1 rfl HL2.out).mono ?_); rintro e w3 ⟨a3, r3, rfl, hx3⟩; have HX3 := Lib.hid hx3; clear hx3)
              go_meet
              exact ⟨bn', rfl, base, bm', _, L, base2, lv, R, HT.out.ext' HX3.out, HS.out, Nat.le_succ_of_le HL.out⟩
        · as_aux_lemma => -- none of them
          obtain ⟨n0, n1, n2, n3, n4, n5, n6⟩ := hno
          have e0 := beq_int_ne n0
          have e1 := beq_int_ne n1
          have e2 := beq_int_ne n2
          have e3 := beq_int_ne n3
          have e4 := beq_int_ne n4
          have e5 := beq_int_ne n5
          have e6 := beq_int_ne n6
          clear n0 n1 n2 n3 n4 n5 n6 b0 b1 b2 b3 b4
          go_wp2_with fail
          go_meet
          exact ⟨bn', rfl, base, bm', _, L, base2, lv, R, HT.out, HS.out, Nat.le_succ_of_le HL.out⟩
      case rest => as_aux_lemma =>
        clear HT HS HL HKR HKL HFW HLA b0 b1 b2 b3 b4
        obtain ⟨bn2, rfl, hq⟩ := hcut
        obtain ⟨base', bm2, last', L', base2', lv', R', ht, hs, hl⟩ := hq.out
        obtain ⟨ar, cr, rfl, hcr, hmr⟩ := own_shape ht.t.ref.row
        unfold maxLen at hmr
        obtain ⟨W, hW⟩ : ∃ W, R'.map wOf = W := ⟨_, rfl⟩
        have hWL : L'.map wOf = W := by rw [same_ways hs]; exact hW
        obtain ⟨M, hM⟩ : ∃ M, R'.length = M := ⟨_, rfl⟩
        have hWM : W.length = M := by rw [← hW, List.length_map]; exact hM
        have HWO : Hid (∀ i (h : i < R'.length) (h' : i < W.length), W[i].i = R'[i].id ∧ W[i].f = R'[i].fr ∧ W[i].d = R'[i].dst) := fun i h h' => by subst hW; rw [List.getElem_map]; exact ⟨rfl, rfl, rfl⟩
        obtain ⟨Q, hQ⟩ : ∃ Q, betw p q W = Q := ⟨_, rfl⟩
        obtain ⟨mQ, hmQ⟩ : ∃ m, Q.length = m := ⟨_, rfl⟩
        obtain ⟨fc, hf0, hfy, hfn, hfe⟩ := betw_count p q W
        rw [hQ, hmQ, hWM] at hfe
        have HFY := Lib.hid hfy
        have HFN := Lib.hid hfn
        have HWL := Lib.hid hWL
        have HWM := Lib.hid hWM
        have HM := Lib.hid hM
        have HQ := Lib.hid hQ
        have HMQ := Lib.hid hmQ
        have HT := Lib.hid ht
        have HS := Lib.hid hs
        have HL := Lib.hid hl
        rw [hM] at HT
        obtain ⟨b0, b1, b2, b3, b4⟩ := HT.out.cells
        have HF0 := Lib.hid hf0
        have HFE := Lib.hid hfe
        have hmR : M ≤ 9223372036854775807 := by rw [hM] at hcr; omega
        clear hq ht hs hl hcr hfy hfn hWL hWM hM hQ hmQ hW hf0 hfe
        go_upto_region 55 with (go_at_call 26; (with_reducible refine (waysP wc _ _ _ _ _ _ HT.out.t.net W HWL.out M HWM.out).mono ?_); rintro e w6 ⟨aw, cw, rfl, hwr, hcw, hx⟩; have HWR := Lib.hid hwr; have HCW := Lib.hid hcw; have HT6 := Lib.hid (HT.out.ext' hx); clear hwr hcw hx)
        clear b0 b1 b2 b3 b4
        obtain ⟨r0, r1, r2⟩ := HT6.out.t.ref.cell
        obtain ⟨b0, b1, b2, b3, b4⟩ := HT6.out.cells
        have hcw2 := HCW.out
        unfold maxLen at hcw2
        go_upto_region 58 with fail
        clear r0 r1 r2
        go_upto_region 59 with (go_at_call 33; (with_reducible refine (betwP w6 _ _ _ _ _ _ HT6.out.t.net W HWL.out p q Q HQ.out mQ HMQ.out).mono ?_); rintro e w7 ⟨ab, cb, rfl, hbr, hcb, hx⟩; have HBR := Lib.hid hbr; have HCB := Lib.hid hcb; have HT7 := Lib.hid (HT6.out.ext' hx); have HWR7 := Lib.hid (HWR.out.ext hx); clear hbr hcb hx)
        clear b0 b1 b2 b3 b4 HT HT6 HWR
        have hcb2 := HCB.out
        unfold maxLen at hcb2
        have hmq : mQ ≤ 9223372036854775807 := by
          obtain ⟨_, _, eqq, hq1, hq2⟩ := Row.shape HBR.out
          simp only [Value.slice.injEq] at eqq
          unfold maxLen at hq2
          omega
        go_wp2_with fail
        go_loopw [38, 40] (fun kv i wr => ∃ j2 : Nat, j2 ≤ M ∧ i = .int .i64 j2 ∧ kv = .int .i64 (fc j2 : Nat) ∧ Hid (Ext w7 wr)) (fun _ i _ => M - (intOf i).toNat)
        case atStart => exact ⟨0, Nat.zero_le _, rfl, by rw [HF0.out]; rfl, Ext.refl _⟩
        case round => as_aux_lemma =>
          obtain ⟨j2, hj2, rfl, rfl, hxq⟩ := hrel
          by_cases hjl : j2 < M
          · have hJ : decide ((j2 : Int) < (M : Int)) = true := decide_eq_true (by omega)
            have hjN : (j2 : Int) < (M : Int) := by omega
            have hjr : j2 < R'.length := by rw [HM.out]; exact hjl
            have hjw : j2 < W.length := by rw [HWM.out]; exact hjl
            have ht := HT7.out.ext' hxq.out
            obtain ⟨Br, or, ear, k0, k1, k2, k3⟩ := ht.t.ref.at hjr
            subst ear
            obtain ⟨Bw, ow, eaw, f0, f1, f2⟩ := (HWR7.out.ext hxq.out).at hjw
            subst eaw
            obtain ⟨e0, e1, e2⟩ := HWO.out j2 hjr hjw
            obtain ⟨a3, c3, e3⟩ := OwnB.slice (ht.t.ref.own _ (List.getElem_mem hjr))
            obtain ⟨b0, b1, b2, b3, b4⟩ := ht.cells
            have hrc := ht.t.ref.cell
            rw [e3] at k3
            have HY := Lib.hid (HFY.out j2 hjw)
            have HNO := Lib.hid (HFN.out j2 hjw)
            obtain ⟨y, hy⟩ : ∃ y, y = W[j2] := ⟨_, rfl⟩
            rw [← hy] at f0 f1 f2 e0 e1 e2 HY HNO
            rw [← e0] at k0
            rw [← e1] at k1
            rw [← e2] at k2
            generalize R'[j2].b.length = nb3 at *
            obtain ⟨r0, r1, r2⟩ := hrc
            clear e0 e1 e2 e3 hy hjr hjw ht r0 r1
            go_upto_region 63 with fail
            obtain ⟨hxp, hbp⟩ := boxes1 wr (.cells #[.int .u64 y.i, .int .i64 y.f, .int .i64 y.d, .slice a3 nb3 c3] 75)
            have g0 := cell_of_row _ _ 0 _ _ _ hbp
            have g1 := cell_of_row _ _ 1 _ _ _ hbp
            have g2 := cell_of_row _ _ 2 _ _ _ hbp
            have HX3 := Lib.hid (hxq.out.trans hxp)
            have f0' := hxp.cell f0
            have f1' := hxp.cell f1
            have f2' := hxp.cell f2
            have b1' := hxp.cell b1
            have b2' := hxp.cell b2
            clear hxp hbp k0 k1 k2 k3 f0 f1 f2 b0 b1 b2 b3 b4 r2 hxq
            generalize wr.alloc (.cells #[.int .u64 y.i, .int .i64 y.f, .int .i64 y.d, .slice a3 nb3 c3] 75) = w8 at *
            generalize wr.heap.size = bp at *
            generalize y.i = yi at *
            have n1 : ((yi : Int) != (yi : Int)) = false := by simp
            have n2 : ((y.f : Int) != (y.f : Int)) = false := by simp
            have n3 : ((y.d : Int) != (y.d : Int)) = false := by simp
            go_quiet (fail)
            have hx1 : Ext w8 (w8.drewN nq) := (Ext.refl w8).drewN _
            generalize w8.drewN nq = w1 at *
            have HX4 := Lib.hid (HX3.out.trans hx1)
            replace g0 := hx1.cell g0
            replace g1 := hx1.cell g1
            replace g2 := hx1.cell g2
            replace b1' := hx1.cell b1'
            replace b2' := hx1.cell b2'
            clear f0' f1' f2' hx1 HX3
            go_upto_region 65 with fail
            by_cases hp : (y.f : Int) = p
            · by_cases hqq : (y.d : Int) = q
              · have e1 : decide ((y.f : Int) = p) = true := decide_eq_true hp
                have e2 : decide ((y.d : Int) = q) = true := decide_eq_true hqq
                have e3 : ((y.f : Int) == p) = true := beq_iff_eq.2 hp
                have e4 : ((y.d : Int) == q) = true := beq_iff_eq.2 hqq
                obtain ⟨hf1, hf2, hf3⟩ := HY.out (by unfold isB; rw [e1, e2]; rfl)
                have hf3' : fc j2 < mQ := by rw [← HMQ.out, ← HQ.out]; exact hf3
                have hz : 0 < mQ := by omega
                obtain ⟨Bb, ob, eab⟩ := Row.base HBR.out hz (by decide)
                subst eab
                have hq0 : (Q.map nC)[fc j2]? = some (.int .u64 (yi : Nat)) := by rw [List.getElem?_map, ← HQ.out, hf2]; rfl
                have q0 := HX4.out.cell (Row.cellAt HBR.out hq0 hz)
                have HF1 := Lib.hid hf1
                generalize fc j2 = kf at *
                have d3 : decide ((mQ : Int) ≤ (kf : Int)) = false := decide_eq_false (by omega)
                have d4 : decide (mQ ≤ kf) = false := decide_eq_false (by omega)
                have d5 : (kf : Int) < (mQ : Int) := by omega
                clear hf1 hf2 hf3 hq0 hp hqq
                go_upto_region 66 with fail
                have n4 : ((yi : Int) != (yi : Int)) = false := by simp
                go_quiet (fail)
                have hx1 : Ext w1 (w1.drewN nq) := (Ext.refl w1).drewN _
                generalize w1.drewN nq = w9 at *
                have HX5 := Lib.hid (HX4.out.trans hx1)
                clear hx1 g0 g1 g2 b1' b2' q0
                go_wp2_with fail
                go_roundw
                case rel => exact ⟨j2 + 1, hjl, by go_num, by rw [HF1.out]; go_num, HX5.out⟩
                case measure => simp [intOf]; omega
              · have e1 : decide ((y.f : Int) = p) = true := decide_eq_true hp
                have e2 : decide ((y.d : Int) = q) = false := decide_eq_false hqq
                have e3 : ((y.f : Int) == p) = true := beq_iff_eq.2 hp
                have e4 : ((y.d : Int) == q) = false := beq_eq_false_iff_ne.2 hqq
                have HF1 := Lib.hid (HNO.out (by unfold isB; rw [e1, e2]; rfl))
                clear hp hqq
                go_wp2_with fail
                go_roundw
                case rel => exact ⟨j2 + 1, hjl, by go_num, by rw [HF1.out], HX4.out⟩
                case measure => simp [intOf]; omega
            · have e1 : decide ((y.f : Int) = p) = false := decide_eq_false hp
              have e3 : ((y.f : Int) == p) = false := beq_eq_false_iff_ne.2 hp
              have HF1 := Lib.hid (HNO.out (by unfold isB; rw [e1]; rfl))
              clear hp
              go_wp2_with fail
              go_roundw
              case rel => exact ⟨j2 + 1, hjl, by go_num, by rw [HF1.out], HX4.out⟩
              case measure => simp [intOf]; omega
          · obtain rfl : j2 = M := by omega
            have hJ : decide ((j2 : Int) < (j2 : Int)) = false := decide_eq_false (by omega)
            have hfm : fc j2 = mQ := HFE.out
            rw [hfm]
            have HTZ := Lib.hid (HT7.out.ext' hxq.out)
            clear hfm hxq
            go_wp2_with fail
            go_roundw
            case rel => exact ⟨bn2, j + 1, by omega, by have := HLJ.out; omega, rfl, by go_num, _, _, _, _, _, _, _, HTZ.out.t, HS.out, HL.out⟩
            case measure => simp [intOf]; omega
    · have hdone : j = N ∨ (j < N ∧ j = 100) := by omega
      obtain ⟨base, bm', last, L, base2, lv, R, h2, hs, hl⟩ := hst.out
      have HXX := Lib.hid h2.ext
      clear h2 hs hl hst
      rcases hdone with rfl | ⟨hlt2, rfl⟩
      · have hI : decide ((j : Int) < (j : Int)) = false := decide_eq_false (by omega)
        go_wp2_with fail
        go_ret
        exact ⟨rfl, HXX.out⟩
      · have hI : decide (((100 : Nat) : Int) < (N : Int)) = true := decide_eq_true (by omega)
        have hI3 : decide ((100 : Int) < (N : Int)) = true := decide_eq_true (by omega)
        go_wp2_with fail
        go_ret
        exact ⟨rfl, HXX.out⟩
theorem netPlays_walk (w : World) (kI : Int) (vl : Value) (l : List OPn) (hi : OpR w vl l) (hb : ∀ x ∈ l, okO x ∧ x.b.length ≤ 140737488351232) : Calls Try.prog 10 #[.int .i64 kI, vl] w fun e w' => e = .returned (.bool true) ∧ Ext w w' := by
  rcases Int.lt_or_le kI 1 with h | h
  · exact netPlays_none w kI vl (.inl h)
  rcases Int.lt_or_le 64 kI with h' | h'
  · exact netPlays_none w kI vl (.inr h')
  obtain ⟨k, rfl⟩ : ∃ k : Nat, kI = k := ⟨kI.toNat, by omega⟩
  exact netPlays_some w k (by omega) (by omega) vl l hi hb
end Go.Proofs.Ytlgopjfnknjgjaa
