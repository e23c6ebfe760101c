/- NetOnce, walked. -/
import Derived.Test.YtlgopjfnknjgjaaN14
import Derived.Deep.CutBlock
namespace Go.Proofs.Ytlgopjfnknjgjaa
open Go.RowKit Go.MapKept

theorem dlS (w : World) (base bn bm k last id : Nat) (L1 L2 L M : List PK) (x : PK) (h : NetR w base bn bm k last L) (hL : L = L1 ++ x :: L2) (hM : L1 ++ L2 = M) (hid : x.id = id) : Calls Try.prog 23 #[.pointer (some ⟨bn, 0, none⟩), .int .u64 id] w fun e w' => ∃ a c, e = .returned (.tuple #[.int .i64 x.fr, .int .i64 x.dst, .slice a x.b.length c, .int .i64 0]) ∧ NetR w' base bn bm k last M ∧ Net2 bn bm w w' ∧ Bytes w' (.slice a x.b.length c) x.b := by
  refine (dl_yes w base bn bm k last id L1 L2 L M x h hL hM hid _ _ _ rfl rfl rfl).mono ?_
  rintro e w' ⟨rfl, h1, h2, h3⟩
  obtain ⟨a, c, e⟩ := OwnB.slice h3
  exact ⟨a, c, by rw [e], h1, h2, by rw [← e]; exact OwnB.bytes h3⟩
theorem waysL (w : World) (base bn bm k last : Nat) (L : List PK) (h : NetR w base bn bm k last L) : Calls Try.prog 26 #[.pointer (some ⟨bn, 0, none⟩)] w fun e w' => ∃ a c, e = .returned (.slice a L.length c) ∧ WR w' (.slice a L.length c) (L.map wOf) ∧ c ≤ maxLen ∧ Ext w w' := by
  refine (ways_any w base bn bm k last L h).mono ?_
  rintro e w' ⟨v, rfl, ho, hx⟩
  obtain ⟨a, c, rfl, _, hm⟩ := own_shape ho
  have hr := WaysO.row ho
  rw [List.length_map] at *
  exact ⟨a, c, rfl, hr, hm, hx⟩

set_option maxRecDepth 100000 in
set_option maxHeartbeats 0 in
theorem netOnce_walk (w : World) (vl : Value) (l : List OPn) (hi : OpR w vl l) (hb : ∀ x ∈ l, okO x) : Calls Try.prog 8 #[vl] w fun e w' => e = .returned (.bool true) ∧ Ext w w' := by
  obtain ⟨a, cap, rfl, hc, hmx⟩ := Row.shape hi.row
  unfold maxLen at hmx
  have HI := Lib.hid hi
  have HB := Lib.hid hb
  clear hi hb
  generalize hN : l.length = N at *
  have HN := Lib.hid hN
  clear hN
  go_enter Try.func8, Try.ntmps8
  go_upto_region 4 with (go_at_call 21; (with_reducible refine (new_lit w 4 4 rfl (by decide) (by decide)).mono ?_); rintro e w1 ⟨rfl, hn, hx⟩; have HN1 := Lib.hid hn; have HX1 := Lib.hid hx; clear hn hx)
  have HBN0 : Hid (w.heap.size ≤ w.heap.size + 1) := Nat.le_succ _
  generalize hbn : w.heap.size + 1 = bn at HN1 HBN0 ⊢
  clear hbn
  obtain ⟨bm, hbm⟩ : ∃ bm, bm = w.heap.size := ⟨_, rfl⟩
  have HNA : Hid (NetR w1 w.heap.size bn bm 4 0 []) := by rw [hbm]; exact HN1.out
  have HLT : Hid (bm < w1.heap.size) := HNA.out.bmlt
  have HBM : Hid (w.heap.size ≤ bm) := by rw [hbm]; exact Nat.le_refl _
  clear hbm HN1
  have hmk : (Instr.makeMap 44 none).run Try.prog w1 = .ok (.map (some w1.heap.size)) (w1.alloc (.map #[] 0)) := run_makeMap (P := Try.prog) 44 w1
  have hx2 : Ext w1 (w1.alloc (.map #[] 0)) := (Ext.refl w1).alloc _
  have HW0 : Hid (OnceW w (w1.alloc (.map #[] 0)) w.heap.size bn bm w1.heap.size (.slice none 0 0) [] [] []) :=
    ⟨HNA.out.ext hx2, own_none _ _ _ _, MapE.made w1 _, once_nil, (fun _ h => by cases h), Nat.ne_of_gt HLT.out, HX1.out.trans hx2, Nat.le_refl _, HX1.out.size⟩
  clear hx2
  go_wp2_with fail
  clear hmk
  generalize w1.alloc (.map #[] 0) = w2 at *
  generalize hbg : w1.heap.size = bg at *
  clear hbg HNA HX1
  go_loopw [5, 7] (fun sv i wr => ∃ k : Nat, k ≤ N ∧ k ≤ 80 ∧ i = .int .i64 k ∧ Hid (∃ S G L, OnceW w wr w.heap.size bn bm bg sv S G L ∧ S.length ≤ k)) (fun _ i _ => N - (intOf i).toNat)
  case atStart => exact ⟨0, Nat.zero_le _, Nat.zero_le _, rfl, [], [], [], HW0.out, Nat.le_refl _⟩
  case round => as_aux_lemma =>
    clear HW0
    obtain ⟨k, hk, hk80, rfl, hst⟩ := hrel
    by_cases hlt : k < N ∧ k < 80
    · obtain ⟨hlt, hlt80⟩ := hlt
      have hI : decide ((k : Int) < (N : Int)) = true := decide_eq_true (by omega)
      have hI2 : decide ((k : Int) < 80) = true := decide_eq_true (by omega)
      have hkN : (k : Int) < (N : Int) := by omega
      obtain ⟨S, G, L, hw, hsl⟩ := hst.out
      have hkl : k < l.length := by rw [HN.out]; exact hlt
      obtain ⟨B, o, ea, f0, f1, f2, f3, f4⟩ := (HI.out.ext hw.ext).at hkl
      subst ea
      obtain ⟨hid64, ah, ch, eh⟩ := HB.out _ (List.getElem_mem hkl)
      have hbx := HI.out.hs _ (List.getElem_mem hkl)
      have HW := Lib.hid hw
      have HSL := Lib.hid hsl
      rw [eh] at f4 hbx
      clear hw hsl hst eh
      generalize l[k] = x at *
      clear hkl
      have HBX := Lib.hid hbx
      obtain ⟨F, hF⟩ : ∃ F : Nat, (F : Int) = x.fr % 4 := ⟨(x.fr % 4).toNat, by omega⟩
      obtain ⟨T, hT⟩ : ∃ T : Nat, (T : Int) = x.dst % 4 := ⟨(x.dst % 4).toNat, by omega⟩
      have hF4 : F < 4 := by omega
      have hT4 : T < 4 := by omega
      have e1 : bits .and .i64 x.fr 3 = (F : Int) := by rw [and3, hF]
      have e2 : bits .and .i64 x.dst 3 = (T : Int) := by rw [and3, hT]
      have HFF := Lib.hid hF
      have HTT := Lib.hid hT
      clear hF hT hbx
      go_upto_region 11 with fail
      have HE := Lib.hid (And.intro e1 e2)
      clear e1 e2 f0 f1 f2 f3 f4
      obtain ⟨hxa, hbx⟩ := boxes1 wr (.cells #[.int .i64 x.wh, .int .i64 F, .int .i64 T, .int .u64 x.id, .slice ah x.b.length ch] 54)
      have b0 := cell_of_row _ _ 0 _ _ _ hbx
      have b1 := cell_of_row _ _ 1 _ _ _ hbx
      have b2 := cell_of_row _ _ 2 _ _ _ hbx
      have b3 := cell_of_row _ _ 3 _ _ _ hbx
      have b4 := cell_of_row _ _ 4 _ _ _ hbx
      have HWA := Lib.hid (HW.out.ext' hxa)
      have HBOX := Lib.hid hbx
      clear HW hxa hbx
      obtain ⟨a5, c5, e5, hc5, hm5⟩ := own_shape HWA.out.sent
      subst e5
      unfold maxLen at hm5
      generalize wr.alloc (.cells #[.int .i64 x.wh, .int .i64 F, .int .i64 T, .int .u64 x.id, .slice ah x.b.length ch] 54) = wa at *
      generalize wr.heap.size = bx at *
      have hs79 : S.length ≤ 79 := by have := HSL.out; omega
      obtain ⟨E, hE⟩ : ∃ E, E = thereB S G x.id := ⟨_, rfl⟩
      have HEE := Lib.hid hE
      clear hE
      go_cut [9] from 50 to 67 (fun v wx => v = .bool E ∧ wa = wx)
      case first => as_aux_lemma =>
        by_cases h1 : 1 ≤ x.id
        · have d1 : decide ((1 : Int) ≤ (x.id : Int)) = true := decide_eq_true (by omega)
          by_cases h2 : x.id ≤ S.length
          · have d2 : decide ((x.id : Int) ≤ (S.length : Int)) = true := decide_eq_true (by omega)
            have d3 : decide (x.id ≤ S.length) = true := decide_eq_true h2
            by_cases h3 : x.id ∈ G
            · have hl := (HWA.out.gone.known (P := Try.prog) (t := 44) (e := 3) (z := .int .i64 0) Try.underlying44 Try.underlying28 (by kernel_rfl) (eGone_in h3)).1
              have ht : E = false := by rw [HEE.out]; unfold thereB; rw [decide_eq_true h1, decide_eq_true h2, decide_eq_true h3]; rfl
              subst ht
              clear h3
              go_wp2_with fail
              go_meet
              exact ⟨rfl, rfl⟩
            · have hl := (HWA.out.gone.unknown (P := Try.prog) (t := 44) (e := 3) (z := .int .i64 0) Try.underlying44 Try.underlying28 (by kernel_rfl) (key := .int .u64 (x.id : Nat)) rfl (eGone_no h3)).1
              have ht : E = true := by rw [HEE.out]; unfold thereB; rw [decide_eq_true h1, decide_eq_true h2, decide_eq_false h3]; rfl
              subst ht
              clear h3
              go_wp2_with fail
              go_meet
              exact ⟨rfl, rfl⟩
          · have d2 : decide ((x.id : Int) ≤ (S.length : Int)) = false := decide_eq_false (by omega)
            have d3 : decide (x.id ≤ S.length) = false := decide_eq_false h2
            have ht : E = false := by rw [HEE.out]; unfold thereB; rw [decide_eq_true h1, decide_eq_false h2]; rfl
            subst ht
            go_wp2_with fail
            go_meet
            exact ⟨rfl, rfl⟩
        · have d1 : decide ((1 : Int) ≤ (x.id : Int)) = false := decide_eq_false (by omega)
          have ht : E = false := by rw [HEE.out]; unfold thereB; rw [decide_eq_false h1]; rfl
          subst ht
          go_wp2_with fail
          go_meet
          exact ⟨rfl, rfl⟩
      case rest => as_aux_lemma =>
        obtain ⟨rfl, rfl⟩ := hcut
        obtain ⟨m, hm, hm4⟩ : ∃ m : Int, bits .and .i64 x.wh 3 = m ∧ (m = 0 ∨ m = 1 ∨ m = 2 ∨ m = 3) := ⟨_, and3 _, by omega⟩
        have HM4 := Lib.hid hm4
        clear hm4
        go_upto_block 2 with fail
        clear hm
        go_cut [5, 9, 10, 11, 12, 13, 14, 15, 16, 17, 18] from 42 to 212 (fun sv _ _ _ _ _ _ _ _ _ _ wx => Hid (∃ S G L, OnceW w wx w.heap.size bn bm bg sv S G L ∧ S.length ≤ k + 1))
        case first => as_aux_lemma =>
          have hsl1 : Hid (S.length ≤ k + 1) := Nat.le_succ_of_le HSL.out
          have hll : Hid (L.length < 4096) := Nat.lt_of_le_of_lt HWA.out.llen (by omega)
          have hla : Hid (S.length < 1000000000) := by show S.length < 1000000000; omega
          have hlow := Lib.hid HWA.out.low
          rcases HM4.out with rfl | rfl | rfl | rfl
          · as_aux_lemma => -- Send
            by_cases hFT : F = T
            · as_aux_lemma =>
              subst hFT
              have hbad : (decide (0 ≤ (F : Int)) && decide ((F : Int) < ((4 : Nat) : Int)) && (decide (0 ≤ (F : Int)) && decide ((F : Int) < ((4 : Nat) : Int))) && !decide ((F : Int) = (F : Int))) = false := by simp
              have HBAD := Lib.hid hbad
              clear hbad
              go_wp2_with (go_at_call 22; (with_reducible refine (send_arg wa _ _ _ _ _ _ HWA.out.net (F : Int) (F : Int) _ HBAD.out).mono ?_); rintro e w3 ⟨rfl, hx⟩; have g1 := hx.cell b1; have g2 := hx.cell b2; have g3 := hx.cell b3; have g4 := hx.cell b4; have HW3 := Lib.hid (HWA.out.ext' hx); clear hx b0 b1 b2 b3 b4)
              go_meet
              exact ⟨S, G, L, HW3.out, hsl1.out⟩
            · have hE : decide ((F : Int) = (T : Int)) = false := decide_eq_false (by omega)
              have hE2 : decide (F = T) = false := decide_eq_false hFT
              have hE4 : ((F : Int) == (T : Int)) = false := beq_eq_false_iff_ne.2 (by omega)
              have hE5 : (F == T) = false := beq_eq_false_iff_ne.2 hFT
              have hE6 : ((F : Int) != (T : Int)) = true := bne_iff_ne.2 (by omega)
              have hE7 : (F != T) = true := bne_iff_ne.2 hFT
              have HFT := Lib.hid hFT
              have HF4 := Lib.hid (And.intro hF4 hT4)
              clear hFT
              by_cases hlb : 4096 < x.b.length
              · have d1 : decide ((x.b.length : Int) ≤ 4096) = false := decide_eq_false (by omega)
                go_wp2_with (go_at_call 22; (with_reducible refine (send_long wa _ _ _ _ _ _ HWA.out.net F T _ _ _ HF4.out HFT.out hlb).mono ?_); rintro e w3 ⟨rfl, hx⟩; have g1 := hx.cell b1; have g2 := hx.cell b2; have g3 := hx.cell b3; have g4 := hx.cell b4; have HW3 := Lib.hid (HWA.out.ext' hx); clear hx b0 b1 b2 b3 b4)
                go_meet
                exact ⟨S, G, L, HW3.out, hsl1.out⟩
              · have d1 : decide ((x.b.length : Int) ≤ 4096) = true := decide_eq_true (by omega)
                have HLB : Hid (x.b.length ≤ 4096) := Nat.le_of_not_lt hlb
                have HOLD := Lib.hid (bytes_old HBX.out hlow.out.1 hlow.out.2)
                have HBW := Lib.hid (Bytes.ext HBX.out HWA.out.ext)
                obtain ⟨l1, hl1⟩ : ∃ l1, l1 = S.length + 1 := ⟨_, rfl⟩
                have HL1 := Lib.hid hl1
                have q1 : (S.length : Int) + 1 = (l1 : Int) := by omega
                clear hl1 hlb
                go_upto_region 27 with (go_at_call 22; (with_reducible refine (send_any wa _ _ _ _ _ _ HWA.out.net F T _ x.b HBW.out HOLD.out HF4.out HFT.out HLB.out hll.out hla.out).mono ?_); rw [← HL1.out]; rintro e w3 ⟨rfl, ⟨hv, hn⟩, h2⟩; have hbx3 := HWA.out.net.box h2 HBOX.out (by decide); have g0 := cell_of_row _ _ 0 _ _ _ hbx3; have g1 := cell_of_row _ _ 1 _ _ _ hbx3; have g2 := cell_of_row _ _ 2 _ _ _ hbx3; have g3 := cell_of_row _ _ 3 _ _ _ hbx3; have g4 := cell_of_row _ _ 4 _ _ _ hbx3; rw [HL1.out] at hn; have HO3 := Lib.hid (HWA.out.out hn h2); clear hn h2 hbx3 b0 b1 b2 b3 b4)
                have hrow := o_row w3 x.wh (F : Int) (T : Int) x.id ah x.b.length ch
                have hxb : Ext w3 (w3.alloc (.cells #[.int .i64 x.wh, .int .i64 F, .int .i64 T, .int .u64 x.id, .slice ah x.b.length ch] 54)) := (Ext.refl w3).alloc _
                have HROW := Lib.hid hrow
                have HO4 := Lib.hid (HO3.out.ext' hxb)
                have HBS : Hid (w.heap.size ≤ (w3.alloc (.cells #[.int .i64 x.wh, .int .i64 F, .int .i64 T, .int .u64 x.id, .slice ah x.b.length ch] 54)).heap.size) := HO4.out.ext.size
                have hb1 : (S.length + 1) * 56 ≤ 140737488355328 := by omega
                have hb2 : S.length + 1 ≤ maxLen := by unfold maxLen; omega
                clear hrow hxb HO3
                go_wp2_with (at_builtin; (refine wpList_append_row 47 54 (.tmp 137) (.tmp 139) rfl w.heap.size _ 5 56 Try.underlying47 info54t rfl (by decide) rfl (.slice a5 S.length c5) S.length (S.flatMap oC) rfl HO4.out.sent 1 [.int .i64 x.wh, .int .i64 F, .int .i64 T, .int .u64 x.id, .slice ah x.b.length ch] HROW.out (o_one _ _ _ _ _ _ _) hb1 hb2 HBS.out ?_); intro v9 w9 hown2 hg; obtain ⟨a9, c9, rfl, _, _⟩ := own_shape hown2; have HW9 := Lib.hid (HO4.out.told ⟨x.wh, F, T, x.id, x.b, .slice ah x.b.length ch⟩ hown2 hg rfl rfl rfl rfl ⟨⟨_, _, rfl⟩, HBX.out, HLB.out⟩); clear hown2 hg)
                go_meet
                exact ⟨_, _, _, HW9.out, by rw [List.length_append, List.length_singleton]; exact Nat.succ_le_succ HSL.out⟩
          · as_aux_lemma => -- Deliver
            cases E with
            | true =>
              obtain ⟨L1, y, L2, hL, hy⟩ := HWA.out.inv.yes HEE.out.symm
              subst hL
              have hge : 1 ≤ x.id := by rw [← hy]; exact (HWA.out.net.low y (by simp)).1
              have hmem : y ∈ L1 ++ y :: L2 := by simp
              have hle : x.id ≤ S.length := by rw [← hy]; exact (HWA.out.net.low y hmem).2
              have d1 : decide ((x.id : Int) < 1) = false := decide_eq_false (by omega)
              have d2 : decide ((S.length : Int) < (x.id : Int)) = false := decide_eq_false (by omega)
              have d3 : decide (S.length < x.id) = false := decide_eq_false (by omega)
              have HY := Lib.hid hy
              have HMEM := Lib.hid hmem
              have HNOT : Hid (x.id ∉ G) := by show x.id ∉ G; rw [← hy]; exact HWA.out.notin
              clear hy hmem
              go_upto_region 34 with (go_at_call 23; (with_reducible refine (dlS wa _ _ _ _ _ x.id L1 L2 _ _ y HWA.out.net rfl rfl HY.out).mono ?_); rintro e w3 ⟨ay, cy, rfl, hn, h2, ho⟩; have HN3 := Lib.hid hn; have H23 := Lib.hid h2; have HO3 := Lib.hid ho; clear hn h2 ho)
              have hbx3 := HWA.out.net.box H23.out HBOX.out (by decide)
              have g3 := cell_of_row _ _ 3 _ _ _ hbx3
              have hr3 : Row w3 5 (.slice a5 S.length c5) S.length (S.flatMap oC) := Row.of_own (HWA.out.net.row H23.out HWA.out.sent (by decide))
              obtain ⟨s, Bs, os, as1, cs, ea, hlt1, hsm, eh, hbs, hbl, ef, ed, eb, k0, k1, k2, k3, k4⟩ := HWA.out.of HMEM.out hr3
              subst ea
              obtain ⟨i1, hi1⟩ : ∃ i1, i1 = y.id - 1 := ⟨_, rfl⟩
              rw [← hi1] at hlt1 k0 k1 k2 k3 k4
              have q1 : (x.id : Int) - 1 = (i1 : Int) := by have := HY.out; omega
              have hiN : (i1 : Int) < (S.length : Int) := by omega
              have HBS := Lib.hid hbs
              have HX3 := Lib.hid (H23.out.ext HWA.out.ext hlow.out.1 hlow.out.2)
              obtain ⟨hxb, hbx4⟩ := boxes1 w3 (.cells #[.int .i64 s.wh, .int .i64 y.fr, .int .i64 y.dst, .int .u64 s.id, .slice as1 y.b.length cs] 54)
              have m1 := cell_of_row _ _ 1 _ _ _ hbx4
              have m2 := cell_of_row _ _ 2 _ _ _ hbx4
              have m4 := cell_of_row _ _ 4 _ _ _ hbx4
              have g5 := hxb.cell g3
              have hcv1 : (convert 52 9 (.slice ay y.b.length cy)).run Try.prog (w3.alloc (.cells #[.int .i64 s.wh, .int .i64 y.fr, .int .i64 y.dst, .int .u64 s.id, .slice as1 y.b.length cs] 54)) = .ok (.string (strOf y.b)) (w3.alloc (.cells #[.int .i64 s.wh, .int .i64 y.fr, .int .i64 y.dst, .int .u64 s.id, .slice as1 y.b.length cs] 54)) := run_bytes_str _ 52 9 5 Try.underlying52 Try.underlying5 Try.underlying9 (Bytes.ext HO3.out hxb)
              have hcv2 : (convert 52 9 (.slice as1 y.b.length cs)).run Try.prog (w3.alloc (.cells #[.int .i64 s.wh, .int .i64 y.fr, .int .i64 y.dst, .int .u64 s.id, .slice as1 y.b.length cs] 54)) = .ok (.string (strOf y.b)) (w3.alloc (.cells #[.int .i64 s.wh, .int .i64 y.fr, .int .i64 y.dst, .int .u64 s.id, .slice as1 y.b.length cs] 54)) := run_bytes_str _ 52 9 5 Try.underlying52 Try.underlying5 Try.underlying9 (Bytes.ext HBS.out (HX3.out.trans hxb))
              have HN4 := Lib.hid (HN3.out.ext hxb)
              have H24 := Lib.hid (H23.out.trans (Net2.of hxb))
              have HG4 := Lib.hid ((HWA.out.net.mapE H23.out HWA.out.gone HWA.out.ne).ext hxb)
              clear hbx3 hr3 hsm eh hbs hbl ef ed eb hi1 hxb hbx4 b0 b1 b2 b3 b4 HN3 H23 HO3 HBS HX3
              go_upto_region 38 with fail
              clear k0 k1 k2 k3 k4 g3
              generalize w3.alloc (.cells #[.int .i64 s.wh, .int .i64 y.fr, .int .i64 y.dst, .int .u64 s.id, .slice as1 y.b.length cs] 54) = w4 at *
              go_wp2_with (refine wpList_put rfl (.tmp 197) (.tmp 199) (.const (.int .i64 1)) 44 rfl Try.underlying44 Try.underlying28 rfl HG4.out rfl ?_; intro w5 hbut hput; have hgp := eGone_put HNOT.out hput; rw [← HY.out] at hgp; have HW5 := Lib.hid (HWA.out.took HN4.out H24.out hbut hgp); clear hbut hput hgp)
              go_meet
              exact ⟨_, _, _, HW5.out, hsl1.out⟩
            | false =>
              go_wp2_with (go_at_call 23; (with_reducible refine (deliver_no wa _ _ _ _ _ _ HWA.out.net x.id (HWA.out.inv.no (fun x hx => (HWA.out.net.low x hx).1) HEE.out.symm)).mono ?_); rintro e w3 ⟨rfl, hx⟩; have HW3 := Lib.hid (HWA.out.ext' hx); clear hx b0 b1 b2 b3 b4)
              go_meet
              exact ⟨S, G, L, HW3.out, hsl1.out⟩
          · as_aux_lemma => -- Drop
            cases E with
            | true =>
              obtain ⟨L1, y, L2, hL, hy⟩ := HWA.out.inv.yes HEE.out.symm
              subst hL
              have hge : 1 ≤ x.id := by rw [← hy]; exact (HWA.out.net.low y (by simp)).1
              have hmem : y ∈ L1 ++ y :: L2 := by simp
              have hle : x.id ≤ S.length := by rw [← hy]; exact (HWA.out.net.low y hmem).2
              have d1 : decide ((x.id : Int) < 1) = false := decide_eq_false (by omega)
              have d2 : decide ((S.length : Int) < (x.id : Int)) = false := decide_eq_false (by omega)
              have d3 : decide (S.length < x.id) = false := decide_eq_false (by omega)
              have HY := Lib.hid hy
              have HMEM := Lib.hid hmem
              have HNOT : Hid (x.id ∉ G) := by show x.id ∉ G; rw [← hy]; exact HWA.out.notin
              clear hy hmem
              go_upto_region 44 with (go_at_call 24; (with_reducible refine (dr_yes wa _ _ _ _ _ x.id L1 L2 _ _ y HWA.out.net rfl rfl HY.out (x.id : Int) rfl).mono ?_); rintro e w3 ⟨rfl, hn, h2⟩; have HN4 := Lib.hid hn; have H24 := Lib.hid h2; clear hn h2)
              have hbx3 := HWA.out.net.box H24.out HBOX.out (by decide)
              have g3 := cell_of_row _ _ 3 _ _ _ hbx3
              have HG4 := Lib.hid (HWA.out.net.mapE H24.out HWA.out.gone HWA.out.ne)
              clear hbx3 b0 b1 b2 b3 b4
              go_wp2_with (refine wpList_put rfl (.tmp 210) (.tmp 212) (.const (.int .i64 1)) 44 rfl Try.underlying44 Try.underlying28 rfl HG4.out rfl ?_; intro w5 hbut hput; have hgp := eGone_put HNOT.out hput; rw [← HY.out] at hgp; have HW5 := Lib.hid (HWA.out.took HN4.out H24.out hbut hgp); clear hbut hput hgp)
              go_meet
              exact ⟨_, _, _, HW5.out, hsl1.out⟩
            | false =>
              go_wp2_with (go_at_call 24; (with_reducible refine (drop_no wa _ _ _ _ _ _ HWA.out.net x.id (HWA.out.inv.no (fun x hx => (HWA.out.net.low x hx).1) HEE.out.symm)).mono ?_); rintro e w3 ⟨rfl, hx⟩; have HW3 := Lib.hid (HWA.out.ext' hx); clear hx b0 b1 b2 b3 b4)
              go_meet
              exact ⟨S, G, L, HW3.out, hsl1.out⟩
          · as_aux_lemma => -- Double
            cases E with
            | true =>
              obtain ⟨L1, y, L2, hL, hy⟩ := HWA.out.inv.yes HEE.out.symm
              subst hL
              have hge : 1 ≤ x.id := by rw [← hy]; exact (HWA.out.net.low y (by simp)).1
              have hmem : y ∈ L1 ++ y :: L2 := by simp
              have hle : x.id ≤ S.length := by rw [← hy]; exact (HWA.out.net.low y hmem).2
              have d1 : decide ((x.id : Int) < 1) = false := decide_eq_false (by omega)
              have d2 : decide ((S.length : Int) < (x.id : Int)) = false := decide_eq_false (by omega)
              have d3 : decide (S.length < x.id) = false := decide_eq_false (by omega)
              have HY := Lib.hid hy
              have HMEM := Lib.hid hmem
              have HNOT : Hid (x.id ∉ G) := by show x.id ∉ G; rw [← hy]; exact HWA.out.notin
              clear hy hmem
              obtain ⟨l1, hl1⟩ : ∃ l1, l1 = S.length + 1 := ⟨_, rfl⟩
              have HL1 := Lib.hid hl1
              have q2 : (S.length : Int) + 1 = (l1 : Int) := by omega
              clear hl1
              go_upto_region 16 with (go_at_call 25; (with_reducible refine (db_yes wa _ _ _ _ _ l1 x.id _ y HWA.out.net HMEM.out HY.out hll.out hla.out (x.id : Int) (l1 : Int) rfl HL1.out rfl).mono ?_); rintro e w3 ⟨rfl, ⟨hv, hn⟩, h2⟩; rw [HL1.out] at hn; have HO3 := Lib.hid (HWA.out.out hn h2); have H23 := Lib.hid h2; clear hn h2)
              have hbx3 := HWA.out.net.box H23.out HBOX.out (by decide)
              have g3 := cell_of_row _ _ 3 _ _ _ hbx3
              obtain ⟨s, Bs, os, as1, cs, ea, hlt1, hsm, eh, hbs, hbl, ef, ed, eb, k0, k1, k2, k3, k4⟩ := HWA.out.of HMEM.out (Row.of_own HO3.out.sent)
              subst ea
              obtain ⟨i1, hi1⟩ : ∃ i1, i1 = y.id - 1 := ⟨_, rfl⟩
              rw [← hi1] at hlt1 k0 k1 k2 k3 k4
              have q1 : (x.id : Int) - 1 = (i1 : Int) := by have := HY.out; omega
              have hiN : (i1 : Int) < (S.length : Int) := by omega
              have HBS := Lib.hid hbs
              have HBL := Lib.hid hbl
              clear hbx3 hsm eh hbs hbl ef ed eb hi1 b0 b1 b2 b3 b4 H23
              have hrow := o_row w3 s.wh y.fr y.dst s.id as1 y.b.length cs
              have hxb : Ext w3 (w3.alloc (.cells #[.int .i64 s.wh, .int .i64 y.fr, .int .i64 y.dst, .int .u64 s.id, .slice as1 y.b.length cs] 54)) := (Ext.refl w3).alloc _
              have HROW := Lib.hid hrow
              have HO4 := Lib.hid (HO3.out.ext' hxb)
              have HBZ : Hid (w.heap.size ≤ (w3.alloc (.cells #[.int .i64 s.wh, .int .i64 y.fr, .int .i64 y.dst, .int .u64 s.id, .slice as1 y.b.length cs] 54)).heap.size) := HO4.out.ext.size
              have hb1 : (S.length + 1) * 56 ≤ 140737488355328 := by omega
              have hb2 : S.length + 1 ≤ maxLen := by unfold maxLen; omega
              clear hrow hxb HO3
              go_wp2_with (at_builtin; (refine wpList_append_row 47 54 (.tmp 94) (.tmp 101) rfl w.heap.size _ 5 56 Try.underlying47 info54t rfl (by decide) rfl (.slice (some ⟨Bs, os, none⟩) S.length c5) S.length (S.flatMap oC) rfl HO4.out.sent 1 [.int .i64 s.wh, .int .i64 y.fr, .int .i64 y.dst, .int .u64 s.id, .slice as1 y.b.length cs] HROW.out (o_one _ _ _ _ _ _ _) hb1 hb2 HBZ.out ?_); intro v9 w9 hown2 hg; obtain ⟨a9, c9, rfl, _, _⟩ := own_shape hown2; have HW9 := Lib.hid (HO4.out.told ⟨s.wh, y.fr, y.dst, s.id, y.b, .slice as1 y.b.length cs⟩ hown2 hg rfl rfl rfl rfl ⟨⟨_, _, rfl⟩, HBS.out, HBL.out⟩); clear hown2 hg)
              go_meet
              exact ⟨_, _, _, HW9.out, by rw [List.length_append, List.length_singleton]; exact Nat.succ_le_succ HSL.out⟩
            | false =>
              go_wp2_with (go_at_call 25; (with_reducible refine (double_no wa _ _ _ _ _ _ HWA.out.net x.id (HWA.out.inv.no (fun x hx => (HWA.out.net.low x hx).1) HEE.out.symm)).mono ?_); rintro e w3 ⟨rfl, hx⟩; have HW3 := Lib.hid (HWA.out.ext' hx); clear hx b0 b1 b2 b3 b4)
              go_meet
              exact ⟨S, G, L, HW3.out, hsl1.out⟩
        case rest => as_aux_lemma =>
          obtain ⟨S2, G2, L2, hw2, hs2⟩ := hcut.out
          obtain ⟨a6, c6, e6, hc6, hm6⟩ := own_shape hw2.sent
          subst e6
          unfold maxLen at hm6
          have hcnt := hw2.inv.cnt
          have hs80 : S2.length ≤ 80 := by omega
          have hsub : (S2.length : Int) - (G2.length : Int) = (L2.length : Int) := by omega
          have hl80 : L2.length ≤ 80 := by omega
          have HGL := Lib.hid (eGone_len G2)
          have HWC := Lib.hid hw2
          have HS2 := Lib.hid hs2
          clear hcut hw2 hs2 hcnt hc6 b0 b1 b2 b3 b4 HWA HBOX HEE HSL
          go_wp2_with (first
            | (go_at_call 26; (with_reducible refine (waysL wc _ _ _ _ _ _ HWC.out.net).mono ?_); rintro e w6 ⟨aw, cw, rfl, hwr, hcw, hx⟩; have HWR := Lib.hid hwr; have HCW := Lib.hid hcw; have HW6 := Lib.hid (HWC.out.ext' hx); clear hwr hcw hx)
            | (refine wpList_lenE (.tmp 219) 44 rfl rfl Try.underlying44 rfl HW6.out.gone HGL.out ?_))
          have hcw2 := HCW.out
          unfold maxLen at hcw2
          go_loopw [20] (fun i wr => ∃ j : Nat, j ≤ L2.length ∧ i = .int .i64 j ∧ Hid (Ext w6 wr)) (fun i _ => L2.length - (intOf i).toNat)
          case atStart => exact ⟨0, Nat.zero_le _, rfl, Ext.refl _⟩
          case round => as_aux_lemma =>
            obtain ⟨j, hj, rfl, hxq⟩ := hrel
            by_cases hjl : j < L2.length
            · have hJ : decide ((j : Int) < (L2.length : Int)) = true := decide_eq_true (by omega)
              have hjN : (j : Int) < (L2.length : Int) := by omega
              have hWl : (L2.map wOf).length = L2.length := List.length_map ..
              obtain ⟨Bw, ow, ew, f0, f1, f2⟩ := (HWR.out.ext hxq.out).at (k := j) (by rw [hWl]; exact hjl)
              subst ew
              obtain ⟨idj, hidj⟩ : ∃ i, i = (L2[j]'hjl).id := ⟨_, rfl⟩
              have hid : (L2.map wOf)[j].i = idj := by rw [List.getElem_map, hidj]; rfl
              rw [hid] at f0
              have hng : idj ∉ G2 := by rw [hidj]; exact HW6.out.inv.out _ (List.getElem_mem hjl)
              have HL : Hid (∀ W', Ext w6 W' → (Instr.lookup 44 (.map (some bg)) (.int .u64 (idj : Nat)) false).run Try.prog W' = .ok (.int .i64 0) W') := fun W' hx => ((HW6.out.gone.ext hx).unknown (P := Try.prog) (t := 44) (e := 3) (z := .int .i64 0) Try.underlying44 Try.underlying28 (by kernel_rfl) (key := .int .u64 (idj : Nat)) rfl (eGone_no hng)).1
              have HRI := Lib.hid HW6.out.net.rise
              clear hng hid f1 f2
              by_cases hj0 : j = 0
              · have hz : decide ((0 : Int) < (j : Int)) = false := decide_eq_false (by omega)
                have hz2 : decide (0 < j) = false := decide_eq_false (by omega)
                clear hj0 hidj hWl
                go_upto_region 52 with fail
                refine wp_region_facts [Fact.eq (.map (some bg)),
                    Fact.eq (.slice (some ⟨Bw, ow, none⟩) L2.length cw),
                    Fact.eq (.int .i64 j),
                    Fact.eq (.pointer (some ⟨Bw, ow + j * 3, none⟩)),
                    Fact.eq (.pointer (some ⟨Bw, ow + j * 3, none⟩)),
                    Fact.eq (.int .u64 idj),
                    Fact.eq (.int .i64 0),
                    Fact.eq (.bool false),
                    Fact.eq (.bool false),
                    Fact.eq (.int .i64 j),
                    Fact.eq (.bool false),
                    Fact.eq (.bool false),
                    Fact.eq undef,
                    Fact.eq undef,
                    Fact.eq undef,
                    Fact.eq undef,
                    Fact.eq undef,
                    Fact.eq undef,
                    Fact.eq undef,
                    Fact.eq undef,
                    Fact.eq undef,
                    Fact.eq undef,
                    Fact.eq undef,
                    Fact.eq undef,
                    Fact.eq (.bool false),
                    Fact.eq (.bool false)]
                  [[], [], [], [(1, 230), (2, 231)], [(3, 232)], [(4, 233)], [(0, 229), (5, 234)], [(6, 235)], [(7, 236)], [(8, 237)], [(9, 238), (8, 237)], [(10, 239), (8, 237)], [(11, 240)], [(11, 240)], [(13, 242), (11, 240)], [(12, 241), (14, 243), (11, 240)], [(15, 244), (11, 240)], [(16, 245), (11, 240)], [(11, 240)], [(11, 240)], [(18, 247), (19, 248), (11, 240)], [(20, 249), (11, 240)], [(21, 250), (11, 240)], [(17, 246), (22, 251), (11, 240)], [(11, 240), (23, 252), (8, 237)], [(8, 237), (24, 253)]]
                  [(0, 229), (1, 230), (2, 231), (3, 232), (4, 233), (5, 234), (6, 235), (7, 236), (8, 237), (9, 238), (10, 239), (11, 240), (12, 241), (13, 242), (14, 243), (15, 244), (16, 245), (17, 246), (18, 247), (19, 248), (20, 249), (21, 250), (22, 251), (23, 252), (24, 253), (25, 254)] (by kernel_rfl) (by kernel_rfl) ?_ ?_
                · refine ⟨?_, ?_, ?_, ?_, ?_, ?_, ?_, ?_, ?_, ?_, ?_, ?_, ?_, ?_, ?_, ?_, ?_, ?_, ?_, ?_, ?_, ?_, ?_, ?_, ?_, ?_, trivial⟩
                  · intro w1 hx1; change wpList _ _ _ _ _ _; exact ob_move rfl rfl rfl rfl rfl
                  · intro w1 hx1; change wpList _ _ _ _ _ _; exact ob_move rfl rfl rfl rfl rfl
                  · intro w1 hx1; change wpList _ _ _ _ _ _; exact ob_move rfl rfl rfl rfl rfl
                  · intro w1 hx1; rintro _ rfl; rintro _ rfl; change wpList _ _ _ _ _ _; go_wp2_with fail; exact ⟨rfl, Ext.refl _, rfl, rfl⟩
                  · intro w1 hx1; rintro _ rfl; change wpList _ _ _ _ _ _; go_wp2_with fail; exact ⟨rfl, Ext.refl _, rfl, rfl⟩
                  · intro w1 hx1; rintro _ rfl; change wpList _ _ _ _ _ _; have m0 := hx1.cell f0; go_wp2_with fail; exact ⟨rfl, Ext.refl _, rfl, rfl⟩
                  · intro w1 hx1; rintro _ rfl; rintro _ rfl; change wpList _ _ _ _ _ _; refine wpList_lookN (.tmp 229) (.tmp 234) 44 false rfl rfl rfl rfl (HL.out w1 (hxq.out.trans hx1)) ?_; exact wpList_nil ⟨rfl, Ext.refl _, rfl, rfl⟩
                  · intro w1 hx1; rintro _ rfl; change wpList _ _ _ _ _ _; go_wp2_with fail; exact ⟨rfl, Ext.refl _, rfl, rfl⟩
                  · intro w1 hx1; rintro _ rfl; change wpList _ _ _ _ _ _; exact ob_move rfl rfl rfl rfl rfl
                  · intro w1 hx1; rintro _ rfl; change wpList _ _ _ _ _ _; exact ob_move rfl rfl rfl rfl rfl
                  · intro w1 hx1; rintro _ rfl; rintro _ rfl; change wpList _ _ _ _ _ _; go_wp2_with fail; exact ⟨rfl, Ext.refl _, rfl, rfl⟩
                  · intro w1 hx1; rintro _ rfl; rintro _ rfl; change wpList _ _ _ _ _ _; exact ob_move rfl rfl rfl rfl rfl
                  · intro w1 hx1; rintro _ rfl; change wpList _ _ _ _ _ _; exact ob_skip rfl rfl rfl rfl
                  · intro w1 hx1; rintro _ rfl; change wpList _ _ _ _ _ _; exact ob_skip rfl rfl rfl rfl
                  · intro w1 hx1; rintro _ rfl; rintro _ rfl; change wpList _ _ _ _ _ _; exact ob_skip rfl rfl rfl rfl
                  · intro w1 hx1; rintro _ rfl; rintro _ rfl; rintro _ rfl; change wpList _ _ _ _ _ _; exact ob_skip rfl rfl rfl rfl
                  · intro w1 hx1; rintro _ rfl; rintro _ rfl; change wpList _ _ _ _ _ _; exact ob_skip rfl rfl rfl rfl
                  · intro w1 hx1; rintro _ rfl; rintro _ rfl; change wpList _ _ _ _ _ _; exact ob_skip rfl rfl rfl rfl
                  · intro w1 hx1; rintro _ rfl; change wpList _ _ _ _ _ _; exact ob_skip rfl rfl rfl rfl
                  · intro w1 hx1; rintro _ rfl; change wpList _ _ _ _ _ _; exact ob_skip rfl rfl rfl rfl
                  · intro w1 hx1; rintro _ rfl; rintro _ rfl; rintro _ rfl; change wpList _ _ _ _ _ _; exact ob_skip rfl rfl rfl rfl
                  · intro w1 hx1; rintro _ rfl; rintro _ rfl; change wpList _ _ _ _ _ _; exact ob_skip rfl rfl rfl rfl
                  · intro w1 hx1; rintro _ rfl; rintro _ rfl; change wpList _ _ _ _ _ _; exact ob_skip rfl rfl rfl rfl
                  · intro w1 hx1; rintro _ rfl; rintro _ rfl; rintro _ rfl; change wpList _ _ _ _ _ _; exact ob_skip rfl rfl rfl rfl
                  · intro w1 hx1; rintro _ rfl; rintro _ rfl; rintro _ rfl; change wpList _ _ _ _ _ _; exact ob_pick rfl rfl rfl rfl rfl rfl
                  · intro w1 hx1; rintro _ rfl; rintro _ rfl; change wpList _ _ _ _ _ _; exact ob_pick rfl rfl rfl rfl rfl rfl
                · intro w1 hx1; rintro _ rfl; rintro _ rfl; rintro _ rfl; rintro _ rfl; rintro _ rfl; rintro _ rfl; rintro _ rfl; rintro _ rfl; rintro _ rfl; rintro _ rfl; rintro _ rfl; rintro _ rfl; rintro _ rfl; rintro _ rfl; rintro _ rfl; rintro _ rfl; rintro _ rfl; rintro _ rfl; rintro _ rfl; rintro _ rfl; rintro _ rfl; rintro _ rfl; rintro _ rfl; rintro _ rfl; rintro _ rfl; rintro _ rfl; refine depsThen_nil ?_; dsimp only; simp only [Act.put, List.setIfInBounds_toArray, List.set_cons_zero, List.set_cons_succ]
                  have HXW := Lib.hid (hxq.out.trans hx1)
                  clear hx1 f0 hxq
                  go_wp2_with fail
                  go_roundw
                  case rel => exact ⟨j + 1, hjl, by go_num, HXW.out⟩
                  case measure => simp [intOf]; omega
              · obtain ⟨jj, hjj⟩ : ∃ jj, jj = j - 1 := ⟨_, rfl⟩
                have hz : decide ((0 : Int) < (j : Int)) = true := decide_eq_true (by omega)
                have hz2 : decide (0 < j) = true := decide_eq_true (by omega)
                have q5 : (j : Int) - 1 = (jj : Int) := by omega
                have hjjl : jj < L2.length := by omega
                have hjjN : (jj : Int) < (L2.length : Int) := by omega
                obtain ⟨Bw2, ow2, ew2, p0, p1, p2⟩ := (HWR.out.ext hxq.out).at (k := jj) (by rw [List.length_map]; exact hjjl)
                cases ew2
                obtain ⟨idk, hidk⟩ : ∃ i, i = (L2[jj]'hjjl).id := ⟨_, rfl⟩
                have hid2 : (L2.map wOf)[jj].i = idk := by rw [List.getElem_map, hidk]; rfl
                rw [hid2] at p0
                have hlt2 : idk < idj := by rw [hidj, hidk]; exact List.pairwise_iff_getElem.1 HRI.out jj j hjjl hjl (by omega)
                clear p1 p2 hid2 hj0 hjj hidj hidk hWl
                have d4 : decide ((idj : Int) ≤ (idk : Int)) = false := decide_eq_false (by omega)
                have d5 : decide (idj ≤ idk) = false := decide_eq_false (by omega)
                clear hlt2
                go_upto_region 52 with fail
                refine wp_region_facts [Fact.eq (.map (some bg)),
                    Fact.eq (.slice (some ⟨Bw, ow, none⟩) L2.length cw),
                    Fact.eq (.int .i64 j),
                    Fact.eq (.pointer (some ⟨Bw, ow + j * 3, none⟩)),
                    Fact.eq (.pointer (some ⟨Bw, ow + j * 3, none⟩)),
                    Fact.eq (.int .u64 idj),
                    Fact.eq (.int .i64 0),
                    Fact.eq (.bool false),
                    Fact.eq (.bool false),
                    Fact.eq (.int .i64 j),
                    Fact.eq (.bool true),
                    Fact.eq (.bool true),
                    Fact.eq (.slice (some ⟨Bw, ow, none⟩) L2.length cw),
                    Fact.eq (.int .i64 j),
                    Fact.eq (.int .i64 jj),
                    Fact.eq (.pointer (some ⟨Bw, ow + jj * 3, none⟩)),
                    Fact.eq (.pointer (some ⟨Bw, ow + jj * 3, none⟩)),
                    Fact.eq (.int .u64 idk),
                    Fact.eq (.slice (some ⟨Bw, ow, none⟩) L2.length cw),
                    Fact.eq (.int .i64 j),
                    Fact.eq (.pointer (some ⟨Bw, ow + j * 3, none⟩)),
                    Fact.eq (.pointer (some ⟨Bw, ow + j * 3, none⟩)),
                    Fact.eq (.int .u64 idj),
                    Fact.eq (.bool false),
                    Fact.eq (.bool false),
                    Fact.eq (.bool false)]
                  [[], [], [], [(1, 230), (2, 231)], [(3, 232)], [(4, 233)], [(0, 229), (5, 234)], [(6, 235)], [(7, 236)], [(8, 237)], [(9, 238), (8, 237)], [(10, 239), (8, 237)], [(11, 240)], [(11, 240)], [(13, 242), (11, 240)], [(12, 241), (14, 243), (11, 240)], [(15, 244), (11, 240)], [(16, 245), (11, 240)], [(11, 240)], [(11, 240)], [(18, 247), (19, 248), (11, 240)], [(20, 249), (11, 240)], [(21, 250), (11, 240)], [(17, 246), (22, 251), (11, 240)], [(11, 240), (23, 252), (8, 237)], [(8, 237), (24, 253)]]
                  [(0, 229), (1, 230), (2, 231), (3, 232), (4, 233), (5, 234), (6, 235), (7, 236), (8, 237), (9, 238), (10, 239), (11, 240), (12, 241), (13, 242), (14, 243), (15, 244), (16, 245), (17, 246), (18, 247), (19, 248), (20, 249), (21, 250), (22, 251), (23, 252), (24, 253), (25, 254)] (by kernel_rfl) (by kernel_rfl) ?_ ?_
                · refine ⟨?_, ?_, ?_, ?_, ?_, ?_, ?_, ?_, ?_, ?_, ?_, ?_, ?_, ?_, ?_, ?_, ?_, ?_, ?_, ?_, ?_, ?_, ?_, ?_, ?_, ?_, trivial⟩
                  · intro w1 hx1; change wpList _ _ _ _ _ _; exact ob_move rfl rfl rfl rfl rfl
                  · intro w1 hx1; change wpList _ _ _ _ _ _; exact ob_move rfl rfl rfl rfl rfl
                  · intro w1 hx1; change wpList _ _ _ _ _ _; exact ob_move rfl rfl rfl rfl rfl
                  · intro w1 hx1; rintro _ rfl; rintro _ rfl; change wpList _ _ _ _ _ _; go_wp2_with fail; exact ⟨rfl, Ext.refl _, rfl, rfl⟩
                  · intro w1 hx1; rintro _ rfl; change wpList _ _ _ _ _ _; go_wp2_with fail; exact ⟨rfl, Ext.refl _, rfl, rfl⟩
                  · intro w1 hx1; rintro _ rfl; change wpList _ _ _ _ _ _; have m0 := hx1.cell f0; go_wp2_with fail; exact ⟨rfl, Ext.refl _, rfl, rfl⟩
                  · intro w1 hx1; rintro _ rfl; rintro _ rfl; change wpList _ _ _ _ _ _; refine wpList_lookN (.tmp 229) (.tmp 234) 44 false rfl rfl rfl rfl (HL.out w1 (hxq.out.trans hx1)) ?_; exact wpList_nil ⟨rfl, Ext.refl _, rfl, rfl⟩
                  · intro w1 hx1; rintro _ rfl; change wpList _ _ _ _ _ _; go_wp2_with fail; exact ⟨rfl, Ext.refl _, rfl, rfl⟩
                  · intro w1 hx1; rintro _ rfl; change wpList _ _ _ _ _ _; exact ob_move rfl rfl rfl rfl rfl
                  · intro w1 hx1; rintro _ rfl; change wpList _ _ _ _ _ _; exact ob_move rfl rfl rfl rfl rfl
                  · intro w1 hx1; rintro _ rfl; rintro _ rfl; change wpList _ _ _ _ _ _; go_wp2_with fail; exact ⟨rfl, Ext.refl _, rfl, rfl⟩
                  · intro w1 hx1; rintro _ rfl; rintro _ rfl; change wpList _ _ _ _ _ _; exact ob_move rfl rfl rfl rfl rfl
                  · intro w1 hx1; rintro _ rfl; change wpList _ _ _ _ _ _; exact ob_move rfl rfl rfl rfl rfl
                  · intro w1 hx1; rintro _ rfl; change wpList _ _ _ _ _ _; exact ob_move rfl rfl rfl rfl rfl
                  · intro w1 hx1; rintro _ rfl; rintro _ rfl; change wpList _ _ _ _ _ _; go_wp2_with fail; exact ⟨rfl, Ext.refl _, rfl, rfl⟩
                  · intro w1 hx1; rintro _ rfl; rintro _ rfl; rintro _ rfl; change wpList _ _ _ _ _ _; go_wp2_with fail; exact ⟨rfl, Ext.refl _, rfl, rfl⟩
                  · intro w1 hx1; rintro _ rfl; rintro _ rfl; change wpList _ _ _ _ _ _; go_wp2_with fail; exact ⟨rfl, Ext.refl _, rfl, rfl⟩
                  · intro w1 hx1; rintro _ rfl; rintro _ rfl; change wpList _ _ _ _ _ _; have m0 := hx1.cell p0; go_wp2_with fail; exact ⟨rfl, Ext.refl _, rfl, rfl⟩
                  · intro w1 hx1; rintro _ rfl; change wpList _ _ _ _ _ _; exact ob_move rfl rfl rfl rfl rfl
                  · intro w1 hx1; rintro _ rfl; change wpList _ _ _ _ _ _; exact ob_move rfl rfl rfl rfl rfl
                  · intro w1 hx1; rintro _ rfl; rintro _ rfl; rintro _ rfl; change wpList _ _ _ _ _ _; go_wp2_with fail; exact ⟨rfl, Ext.refl _, rfl, rfl⟩
                  · intro w1 hx1; rintro _ rfl; rintro _ rfl; change wpList _ _ _ _ _ _; go_wp2_with fail; exact ⟨rfl, Ext.refl _, rfl, rfl⟩
                  · intro w1 hx1; rintro _ rfl; rintro _ rfl; change wpList _ _ _ _ _ _; have m0 := hx1.cell f0; go_wp2_with fail; exact ⟨rfl, Ext.refl _, rfl, rfl⟩
                  · intro w1 hx1; rintro _ rfl; rintro _ rfl; rintro _ rfl; change wpList _ _ _ _ _ _; go_wp2_with fail; exact ⟨rfl, Ext.refl _, rfl, rfl⟩
                  · intro w1 hx1; rintro _ rfl; rintro _ rfl; rintro _ rfl; change wpList _ _ _ _ _ _; exact ob_pick rfl rfl rfl rfl rfl rfl
                  · intro w1 hx1; rintro _ rfl; rintro _ rfl; change wpList _ _ _ _ _ _; exact ob_pick rfl rfl rfl rfl rfl rfl
                · intro w1 hx1; rintro _ rfl; rintro _ rfl; rintro _ rfl; rintro _ rfl; rintro _ rfl; rintro _ rfl; rintro _ rfl; rintro _ rfl; rintro _ rfl; rintro _ rfl; rintro _ rfl; rintro _ rfl; rintro _ rfl; rintro _ rfl; rintro _ rfl; rintro _ rfl; rintro _ rfl; rintro _ rfl; rintro _ rfl; rintro _ rfl; rintro _ rfl; rintro _ rfl; rintro _ rfl; rintro _ rfl; rintro _ rfl; rintro _ rfl; refine depsThen_nil ?_; dsimp only; simp only [Act.put, List.setIfInBounds_toArray, List.set_cons_zero, List.set_cons_succ]
                  have HXW := Lib.hid (hxq.out.trans hx1)
                  clear hx1 f0 p0 hxq
                  go_wp2_with fail
                  go_roundw
                  case rel => exact ⟨j + 1, hjl, by go_num, HXW.out⟩
                  case measure => simp [intOf]; omega
            · obtain rfl : j = L2.length := by omega
              have hJ : decide ((L2.length : Int) < (L2.length : Int)) = false := decide_eq_false (by omega)
              have HWZ := Lib.hid (HW6.out.ext' hxq.out)
              clear hxq HWR
              go_wp2_with fail
              go_roundw
              case rel => exact ⟨k + 1, by omega, by omega, by go_num, S2, G2, L2, HWZ.out, HS2.out⟩
              case measure => simp [intOf]; omega
    · have hdone : k = N ∨ (k < N ∧ k = 80) := by omega
      obtain ⟨S, G, L, hw, hsl⟩ := hst.out
      have HXX := Lib.hid hw.ext
      clear hw hsl hst
      rcases hdone with rfl | ⟨h1, rfl⟩
      · have hI : decide ((k : Int) < (k : Int)) = false := decide_eq_false (by omega)
        go_wp2_with (go_at_call 27; (with_reducible refine (netwakes_any _).mono ?_); rintro e w9 ⟨rfl, hx⟩; have HX9 := Lib.hid (HXX.out.trans hx); clear hx)
        go_ret
        exact ⟨rfl, HX9.out⟩
      · have hI : decide ((80 : Int) < (N : Int)) = true := decide_eq_true (by omega)
        go_wp2_with (go_at_call 27; (with_reducible refine (netwakes_any _).mono ?_); rintro e w9 ⟨rfl, hx⟩; have HX9 := Lib.hid (HXX.out.trans hx); clear hx)
        go_ret
        exact ⟨rfl, HX9.out⟩
end Go.Proofs.Ytlgopjfnknjgjaa
