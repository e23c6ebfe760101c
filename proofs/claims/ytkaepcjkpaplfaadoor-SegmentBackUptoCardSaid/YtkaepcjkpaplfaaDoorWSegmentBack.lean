/- SegmentBack, walked: whatever it is handed, what stands behind of a bounded length, it answers true and writes nothing that was there. -/
import Derived.Test.YtkaepcjkpaplfaaDoorS3
import Derived.Test.YtkaepcjkpaplfaaDoorN12
import Derived.Deep.DeepCutAuto
namespace Go.Proofs.YtkaepcjkpaplfaaDoor
open Go.RowKit

theorem forms_len : ∀ {xs : List (Nat × List UInt8)} {a : Nat}, Rise a xs → (formsOf xs).length ≤ 2000 * xs.length
  | [], _, _ => by simp [formsOf]
  | x :: xs, a, h => by
    have h1 := forms_len h.2.2.2
    have h2 := vput_length x.1
    have h3 := h.2.2.1
    have e : formsOf (x :: xs) = formOf x ++ formsOf xs := by simp [formsOf]
    rw [e, List.length_append, List.length_cons]
    have : (formOf x).length ≤ 2000 := by unfold formOf; rw [fr_length, List.length_append]; omega
    omega
theorem lst_take {W : World} {a : Option Addr} {n c k : Nat} {xs : List (Nat × List UInt8)} (h : Lst W (.slice a n c) xs) (hk : k ≤ xs.length) : Lst W (.slice a k c) (xs.take k) := by
  obtain ⟨us, ⟨hl, a', c', e, hc, hm, hnil, hspot, hcell⟩, h2, h3⟩ := h
  simp only [Value.slice.injEq] at e
  obtain ⟨rfl, rfl, rfl⟩ := e
  have hlen : (us.take k).length = k := by rw [List.length_take]; omega
  have hrs : rsC (us.take k) = (rsC us).take (2 * k) := by
    have e1 : rsC us = rsC (us.take k) ++ rsC (us.drop k) := by
      have := congrArg rsC (List.take_append_drop k us)
      rw [← this, rsC, rsC, rsC, List.flatMap_append]
    rw [e1, List.take_left' (by rw [rsC_length, hlen, Nat.mul_comm])]
  refine ⟨us.take k, ⟨by rw [rsC_length], a, c, by rw [hlen], by rw [hlen]; omega, hm, hnil, hspot, fun j u hj => hcell j u ?_⟩, by rw [List.length_take, List.length_take, h2], fun i u x e1 e2 => ?_⟩
  · rw [hrs, List.getElem?_take] at hj
    split at hj
    · exact hj
    · cases hj
  · rw [List.getElem?_take] at e1 e2
    split at e1
    · rename_i hi
      rw [if_pos hi] at e2
      exact h3 i u x e1 e2
    · cases e1

set_option maxRecDepth 100000 in
set_option maxHeartbeats 6000000 in
theorem segmentBack_any (w : World) (v1 v2 v3 : Value) (n0 n4 : Nat) (ss rest : List UInt8) (ds : List (List UInt8)) (h1 : Bytes w v1 ss) (h2 : Lists w v2 ds) (h3 : Bytes w v3 rest) (hn : rest.length ≤ 100000000000) :
    Calls Tryd.prog 5 #[.agg #[.int .u64 n0, v1, v2, v3, .int .u64 n4]] w fun e w' => e = .returned (.bool true) ∧ Ext w w' := by
  obtain ⟨a1, c1, rfl, hc1, hm1⟩ := h1.shape
  obtain ⟨a2, c2, rfl, hc2, hm2⟩ := h2.shape
  obtain ⟨a3, c3, rfl, hc3, hm3⟩ := h3.shape
  unfold maxLen at hm1 hm2 hm3
  have hx0 : Ext w (w.alloc (.cells #[.int .u64 n0, .slice a1 ss.length c1, .slice a2 ds.length c2, .slice a3 rest.length c3, .int .u64 n4] 57)) := (Ext.refl w).alloc _
  have hT : (w.alloc (.cells #[.int .u64 n0, .slice a1 ss.length c1, .slice a2 ds.length c2, .slice a3 rest.length c3, .int .u64 n4] 57)).heap[w.heap.size]? = some (.cells #[.int .u64 n0, .slice a1 ss.length c1, .slice a2 ds.length c2, .slice a3 rest.length c3, .int .u64 n4] 57 (0, 0)) := heap_alloc_new _ _
  have HT := Lib.hid hT
  clear hT
  have g1 := h1.ext hx0
  have g2 := h2.ext hx0
  have g3 := h3.ext hx0
  go_enter Tryd.func5, Tryd.ntmps5
  go_wp2_with fail
  generalize w.alloc (.cells #[.int .u64 n0, .slice a1 ss.length c1, .slice a2 ds.length c2, .slice a3 rest.length c3, .int .u64 n4] 57) = wa at *
  have t3 : wa.cell? ⟨w.heap.size, 3, none⟩ = some (.slice a3 rest.length c3) := by rw [cell_of_row _ _ _ _ _ _ HT.out]; rfl
  have e1 : (1 + (n0 : Int) % 1099511527776) = ((1 + n0 % 1099511527776 : Nat) : Int) := by omega
  have hF1 : 1 ≤ 1 + n0 % 1099511527776 ∧ 1 + n0 % 1099511527776 ≤ 1099511527776 := by omega
  rw [e1]
  clear e1
  generalize 1 + n0 % 1099511527776 = F at *
  have hmay : may F := ⟨hF1.1, by omega⟩
  refine (laid_any _ _ _ F ss ds g1 g2 (by omega)).mono ?_
  rintro e w1 ⟨vl, vb, us, rfl, hol, hll, hul, hob, hx1⟩
  have hrise : Rise F (laidL 40 F ss ds) := laid_rise 40 F ss ds
  have hlen40 : (laidL 40 F ss ds).length ≤ 40 := laid_len 40 F ss ds
  generalize laidL 40 F ss ds = L at *
  have hfl := forms_len hrise
  have hsp1 : Hid (splitS (formsOf L) F = (L, (formsOf L).length)) := by
    have := splitS_forms [] hmay hrise (nextR_short (by simp))
    rw [List.append_nil] at this
    exact this
  obtain ⟨ys, nb, hbe⟩ := splitS_behind rest hmay hrise
  obtain ⟨b1, b2, b3, b4⟩ := splitS_told (formsOf L ++ rest) F hmay
  rw [hbe] at b1 b2 b3 b4
  simp only [] at b1 b2 b3 b4
  have HBE := Lib.hid hbe
  have HB2 := Lib.hid b2
  have HB4 := Lib.hid b4
  clear hbe b2 b4 hul
  obtain ⟨al, cl, rfl, hcl, hml⟩ := hll.shape
  obtain ⟨ab, cb, rfl, hcb, hmb⟩ := hob.bytes.shape
  unfold maxLen at hml hmb
  generalize hBL : formsOf L = B at *
  have HBL := Lib.hid hBL
  clear hBL
  have hbl : B.length ≤ 80000 := by omega
  go_wp2_with fail
  refine (ssplit_any _ _ B F hob.bytes (by omega)).mono ?_
  rw [hsp1.out]
  rintro e w2 ⟨vm, um, rfl, hom, hrm, hx2⟩
  have hlm := Lst.of_own hom hrm
  obtain ⟨am, cm, rfl, hcm, hmm⟩ := hlm.shape
  have hll2 := hll.ext hx2
  clear hom hrm hsp1
  go_wp2_with fail
  refine (segsame_any _ _ _ L L hlm hll2).mono ?_
  rintro e w3 ⟨rfl, hx3⟩
  rw [decide_eq_true rfl]
  have hx13 := hx2.trans hx3
  have hx03 := hx0.trans (hx1.trans hx13)
  have hob3 := hob.bytes.ext hx13
  have hll3 := hll.ext hx13
  have hre3 := h3.ext hx03
  have ht3 := (hx1.trans hx13).cell t3
  clear t3 g1 g2 g3 hx2 hx3 hlm hll2
  go_upto_region 6 with fail
  have HX1 := Lib.hid hx1
  go_cut [8] from 46 to 51 (fun v8 wx => Bytes wx v8 (B ++ rest) ∧ Ext w3 wx)
  case first =>
    have hxe : Ext w3 (w3.drew.alloc (.cells #[] 5)) := (Ext.refl w3).drew.alloc _
    have hoe := own_empty w3.drew w3.heap.size (Nat.le_refl _)
    have hobE := hob3.ext hxe
    have htE := (((Ext.refl w3).alloc (.cells #[] 5)).drew).cell ht3
    have ht3d := (Ext.refl w3).drew.cell ht3
    have hr1 : ([] : List UInt8).length + B.length ≤ 140737488355328 := by simp; omega
    have hr2 : B.length + rest.length ≤ 140737488355328 := by omega
    have hszE : w3.heap.size ≤ (w3.drew.alloc (.cells #[] 5)).heap.size := hxe.size
    go_region_law (first | (refine step_appB rfl (.tmp 46) (.tmp 47) rfl w3.heap.size hoe hobE hr1 hszE ?_; intro v4 w4 ho4 hg4; rw [List.nil_append] at ho4; have hx4 : Ext w3 w4 := hxe.mono_grown hoe (Nat.le_refl _) hg4; have ht4 := hx4.cell ht3) | (refine step_appB rfl (.tmp 48) (.tmp 50) rfl w3.heap.size ho4 (hre3.ext hx4) hr2 hx4.size ?_; intro v5 w5 ho5 hg5; have hx5 : Ext w3 w5 := hx4.mono_grown ho4 (Nat.le_refl _) hg5))
    all_goals
      have HB5 := ho5.bytes
      go_wp2_with fail
      go_meet
      exact ⟨HB5, hx5⟩
  case rest =>
    obtain ⟨HB5, hx5⟩ := hcut
    rename_i v8 w5
    obtain ⟨ag, cg, rfl, hcg, hmg⟩ := HB5.shape
    clear ht3 hre3
    have hx05 := hx03.trans hx5
    have hll5 := hll3.ext hx5
    have hob5 := hob3.ext hx5
    have hGl : (B ++ rest).length = B.length + rest.length := List.length_append
    have hG12 : (B ++ rest).length ≤ 1000000000000 := by omega
    generalize B ++ rest = G at *
    unfold maxLen at hmg
    have HGL := Lib.hid hGl
    clear hGl
    go_wp2_with fail
    refine (ssplit_any _ _ G F HB5 hG12).mono ?_
    rw [HBE.out]
    rintro e w6 ⟨vq, uq, rfl, hoq, hrq, hx6⟩
    have hlq := Lst.of_own hoq hrq
    have hqn : uq.length = (L ++ ys).length := hrq.1
    have hb6 := HB5.ext hx6
    have hll6 := hll5.ext hx6
    replace hx6 := hx05.trans hx6
    obtain ⟨aq, cq, rfl, hcq, hmq⟩ := hlq.shape
    unfold maxLen at hmq
    clear hoq hrq hqn
    have hLM : L.length ≤ (L ++ ys).length := by simp
    have htk : Hid ((L ++ ys).take L.length = L) := List.take_left' rfl
    have hd1 : decide (((L ++ ys).length : Int) < (L.length : Int)) = false := decide_eq_false (by omega)
    have hd1n : decide ((L ++ ys).length < L.length) = false := decide_eq_false (by omega)
    have hN1 : B.length + nb ≤ G.length := b3
    have hd2 : decide (((B.length + nb : Nat) : Int) < (B.length : Int)) = false := decide_eq_false (by omega)
    have hd2n : decide (B.length + nb < B.length) = false := decide_eq_false (by omega)
    have hd3 : decide ((G.length : Int) < ((B.length + nb : Nat) : Int)) = false := decide_eq_false (by omega)
    have hd3n : decide (G.length < B.length + nb) = false := decide_eq_false (by omega)
    have hlt := lst_take hlq hLM
    rw [htk.out] at hlt
    generalize L ++ ys = M at *
    generalize hN9 : B.length + nb = N at *
    have HN9 := Lib.hid hN9
    clear hN9
    generalize hmn : M.length = mn at *
    have HMN := Lib.hid hmn
    clear hmn
    generalize hln : L.length = ln at *
    have HLN := Lib.hid hln
    clear hln
    go_wp2_with fail
    refine (segsame_any _ _ _ L L hlt hll6).mono ?_
    rintro e w7 ⟨rfl, hx7⟩
    rw [decide_eq_true rfl]
    have hlq7 := hlq.ext hx7
    have hb7 := hb6.ext hx7
    replace hx7 := hx6.trans hx7
    clear hlt hll6 hlq hb6 hx6
    have hF64 : F < 18446744073709551616 := by omega
    go_wp2_with fail
    go_loopw [11, 12, 88] (fun va vlast i wr => ∃ (k last : Nat), k ≤ mn ∧ i = .int .i64 k ∧ vlast = .int .u64 last ∧ Hid (Rise (last + 1) (M.drop k)) ∧ last ≤ 1099511627776 ∧ OwnB wr w7.heap.size va (formsOf (M.take k)) ∧ Ext w7 wr) (fun _ _ i _ => mn - (intOf i).toNat)
    case atStart => exact ⟨0, F - 1, Nat.zero_le _, rfl, by go_num, by show Rise _ _; rw [show F - 1 + 1 = F by omega]; exact b1, by omega, OwnB.nil _ _, Ext.refl _⟩
    case round =>
      obtain ⟨k, last, hk, rfl, rfl, hri, hlast, hoa, hx⟩ := hrel
      by_cases hlt : k < mn
      · have k1 : k < M.length := by rw [HMN.out]; exact hlt
        obtain ⟨B1, o1, ad1, cc1, rfl, f1, f2, f3⟩ := hlq7.at k1
        have hdr : M.drop k = M[k] :: M.drop (k + 1) := List.drop_eq_getElem_cons k1
        have hri' := hri.out
        rw [hdr] at hri'
        obtain ⟨r1, r2, r3, r4⟩ := hri'
        have R4 := Lib.hid r4
        have hsn : Hid (formsOf (M.take (k + 1)) = formsOf (M.take k) ++ formOf M[k]) := by
          show _ = _
          rw [List.take_succ_eq_append_getElem k1, formsOf_snoc]
        have hpre : (formsOf (M.take k)).length ≤ N := by
          rw [HB2.out]
          have e : formsOf M = formsOf (M.take k) ++ formsOf (M.drop k) := by
            have := congrArg formsOf (List.take_append_drop k M)
            rw [← this, formsOf, formsOf, formsOf, List.map_append, List.flatten_append]
          rw [e, List.length_append]; omega
        clear hdr r4
        generalize M[k] = x at *
        generalize formsOf (M.take k) = A at *
        have F1 := hx.cell f1
        have F2 := hx.cell f2
        have F3 := (hx.alloc (.cells #[.int .u64 x.1, .slice ad1 x.2.length cc1] 40))
        have F4 := f3.ext F3
        have hput : putS x.1 x.2 = (formOf x, 0) := by unfold putS; rw [if_neg (not_not_intro r2), if_neg (by omega)]; rfl
        have hr264 : x.1 < 18446744073709551616 := by have := r2.2; omega
        have hnl : decide ((x.1 : Int) ≤ (last : Int)) = false := decide_eq_false (by omega)
        have hnln : decide (x.1 ≤ last) = false := decide_eq_false (by omega)
        have hRb : (wr.alloc (.cells #[.int .u64 x.1, .slice ad1 x.2.length cc1] 40)).heap[wr.heap.size]? = some (.cells #[.int .u64 x.1, .slice ad1 x.2.length cc1] 40 (0, 0)) := heap_alloc_new _ _
        have HRB := Lib.hid hRb
        clear hRb
        go_wp2_with fail
        refine (sput_any _ x.1 _ x.2 F4 hr264).mono ?_
        rw [hput]
        rintro e w8 ⟨vf, rfl, hof, hx8⟩
        simp only [] at hof
        have hRl : wr.heap.size < (wr.alloc (.cells #[.int .u64 x.1, .slice ad1 x.2.length cc1] 40)).heap.size := (Array.getElem?_eq_some_iff.1 HRB.out).1
        have HR8 := Lib.hid ((hx8.block wr.heap.size hRl).trans HRB.out)
        have c8 : w8.cell? ⟨wr.heap.size, 0, none⟩ = some (.int .u64 x.1) := by rw [cell_of_row _ _ _ _ _ _ HR8.out]; rfl
        have hoa8 := hoa.ext (((Ext.refl wr).alloc _).trans hx8)
        have hx78 := F3.trans hx8
        have hflen : (formOf x).length ≤ 2000 := by
          have := vput_length x.1
          unfold formOf; rw [fr_length, List.length_append]; omega
        have hroom : A.length + (formOf x).length ≤ 140737488355328 := by omega
        obtain ⟨aa, ca, rfl, -, -⟩ := hoa8.bytes.shape
        obtain ⟨af, cf, rfl, -, -⟩ := hof.bytes.shape
        clear hput F1 F2 F3 F4 f1 f2 f3
        go_upto_region 18 with fail
        have hRn : some wr.heap.size = (Value.slice aa A.length ca).ownBlock → False := fun e => by
          rcases hoa.2 with ⟨e0, _⟩ | ⟨g', cap', cur', e0, _, hh, _⟩
          · rw [e0] at e; cases e
          · rw [e0] at e
            have e9 : wr.heap.size = g' := Option.some.inj e
            have := (Array.getElem?_eq_some_iff.1 hh).1
            omega
        have hR8l : wr.heap.size < w8.heap.size := (Array.getElem?_eq_some_iff.1 HR8.out).1
        have hod := hoa8.ext (Ext.refl w8).drew
        have hfd := hof.bytes.ext (Ext.refl w8).drew
        have c8d := (Ext.refl w8).drew.cell c8
        have hx78d := hx78.trans (Ext.refl w8).drew
        have hszd : w7.heap.size ≤ w8.drew.heap.size := hx78d.size
        go_region_law (refine step_appB rfl (.tmp 105) (.tmp 106) rfl w7.heap.size hod hfd hroom hszd ?_; intro v9 w9 ho9 hg9; have hx9 : Ext w7 w9 := hx78d.grown_none hg9 (own_base hod); have c9 : w9.cell? ⟨wr.heap.size, 0, none⟩ = some (.int .u64 x.1) := by (rw [cell_of_row _ _ _ _ _ _ ((hg9.block wr.heap.size hR8l (fun e => hRn e)).trans HR8.out)]; rfl))
        all_goals
          go_wp2_with fail
          go_roundw
          case rel => exact ⟨k + 1, x.1, hlt, by go_num, rfl, R4, by have := r2.2; omega, by rw [hsn.out]; exact ho9, hx9⟩
          case measure => simp [intOf]; omega
      · obtain rfl : k = mn := by omega
        have hall : formsOf (M.take k) = formsOf M := by rw [List.take_of_length_le (by rw [HMN.out]; exact Nat.le_refl _)]
        rw [hall] at hoa
        clear hall
        have hb9 := hb7.ext hx
        have hxf := hx7.trans hx
        obtain ⟨aa, ca, rfl, -, -⟩ := hoa.bytes.shape
        go_wp2_with fail
        refine (awake_any _).mono ?_
        rintro e w8 ⟨rfl, hx8⟩
        have hb10 := hb9.ext hx8
        have hoa10 := hoa.bytes.ext hx8
        replace hx8 := hxf.trans hx8
        have eN : (0 : Int) ≤ (N : Int) ∧ ((N : Int)).toNat = N := by omega
        have EN := Lib.hid eN
        clear eN hb9 hoa
        go_wp2_with (refine cutB (.tmp 114) none (some (.tmp 115)) 0 N rfl rfl hb10 rfl ⟨_, _, rfl, EN.out.1, EN.out.2⟩ (Nat.zero_le _) hN1 ?_; intro v116 h116; rw [List.drop_zero, HB4.out] at h116)
        refine (bequal_any _ _ _ (formsOf M) (formsOf M) hoa10 h116).mono ?_
        rintro e w9 ⟨rfl, hx9⟩
        rw [decide_eq_true rfl]
        go_wp2_with fail
        go_ret
        exact ⟨rfl, hx8.trans hx9⟩

end Go.Proofs.YtkaepcjkpaplfaaDoor
