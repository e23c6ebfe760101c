/- SegmentTorn, walked: whatever it is handed it answers true and writes nothing that was there. -/
import Derived.Test.YtkaepcjkpaplfaaDoorT1
import Derived.Test.YtkaepcjkpaplfaaDoorN12
import Derived.Deep.DeepCutAuto
import Derived.Deep.CutBlock
namespace Go.Proofs.YtkaepcjkpaplfaaDoor
open Go.RowKit

set_option maxRecDepth 100000 in
set_option maxHeartbeats 6000000 in
theorem segmentTorn_any (w : World) (v1 v2 v3 : Value) (n0 n4 : Nat) (ss rest : List UInt8) (ds : List (List UInt8)) (h1 : Bytes w v1 ss) (h2 : Lists w v2 ds) (h3 : Bytes w v3 rest) (cut : Nat) (hcu : cut < 65536) (flip : UInt8) :
    Calls Tryd.prog 6 #[.agg #[.int .u64 n0, v1, v2, v3, .int .u64 n4], .int .u16 cut, .int .u8 flip.toNat] w fun e w' => e = .returned (.bool true) ∧ Ext w w' := by
  obtain ⟨a1, c1, rfl, hc1, hm1⟩ := h1.shape
  obtain ⟨a2, c2, rfl, hc2, hm2⟩ := h2.shape
  obtain ⟨a3, c3, rfl, hc3, hm3⟩ := h3.shape
  unfold maxLen at hm1 hm2 hm3
  have hx0 : Ext w (w.alloc (.cells #[.int .u64 n0, .slice a1 ss.length c1, .slice a2 ds.length c2, .slice a3 rest.length c3, .int .u64 n4] 57)) := (Ext.refl w).alloc _
  have g1 := h1.ext hx0
  have g2 := h2.ext hx0
  go_enter Tryd.func6, Tryd.ntmps6
  go_wp2_with fail
  generalize w.alloc (.cells #[.int .u64 n0, .slice a1 ss.length c1, .slice a2 ds.length c2, .slice a3 rest.length c3, .int .u64 n4] 57) = wa at *
  have e1 : (1 + (n0 : Int) % 1099511527776) = ((1 + n0 % 1099511527776 : Nat) : Int) := by omega
  have hF1 : 1 ≤ 1 + n0 % 1099511527776 ∧ 1 + n0 % 1099511527776 ≤ 1099511527776 := by omega
  rw [e1]
  clear e1
  generalize 1 + n0 % 1099511527776 = F at *
  have hmay : may F := ⟨hF1.1, by omega⟩
  refine (laid_any _ _ _ F ss ds g1 g2 (by omega)).mono ?_
  rintro e w1 ⟨vl, vb, us, rfl, hol, hll, hul, hob, hx1⟩
  have hrise : Rise F (laidL 40 F ss ds) := laid_rise 40 F ss ds
  have hlen40 : (laidL 40 F ss ds).length ≤ 40 := laid_len 40 F ss ds
  generalize laidL 40 F ss ds = L at *
  have hfl := forms_len hrise
  clear hul g1 g2
  obtain ⟨al, cl, rfl, hcl, hml⟩ := hll.shape
  obtain ⟨ab, cb, rfl, hcb, hmb⟩ := hob.bytes.shape
  unfold maxLen at hml hmb
  have hx01 := hx0.trans hx1
  have hbl : (formsOf L).length ≤ 80000 := by omega
  generalize hBN : (formsOf L).length = bn at *
  have HBN := Lib.hid hBN
  clear hBN
  generalize hln : L.length = ln at *
  have HLN := Lib.hid hln
  clear hln
  by_cases hb0 : bn = 0
  · subst hb0
    go_wp2_with fail
    refine (awake_any _).mono ?_
    rintro e w2 ⟨rfl, hx2⟩
    go_wp2_with fail
    go_ret
    exact ⟨rfl, hx01.trans hx2⟩
  · have hd0 : ((bn : Int) == 0) = false := beq_eq_false_iff_ne.2 (by omega)
    have hz : ¬ ((bn : Int) + 1 = 0) := by omega
    have hcast : (cut : Int) % ((bn : Int) + 1) = ((cut % (bn + 1) : Nat) : Int) := by push_cast; rfl
    have hp : cut % (bn + 1) ≤ bn := by have := Nat.mod_lt cut (show 0 < bn + 1 by omega); omega
    have HC := Lib.hid hcast
    clear hcast
    go_upto_region 7 with fail
    rw [HC.out]
    clear HC
    generalize cut % (bn + 1) = p at *
    go_upto_block 0 with fail
    go_cut [11, 12, 14, 15, 16] from 47 to 68 (fun va vs _ _ _ wx => ∃ k s : Nat, k ≤ ln ∧ va = .int .i64 k ∧ vs = .int .i64 s ∧ s ≤ p ∧ Hid (s = (formsOf (L.take k)).length) ∧ Hid (∀ hk : k < L.length, p < s + (formOf L[k]).length) ∧ Ext w1 wx)
    case first =>
      go_wp2_with fail
      go_loopw [11, 12, 47] (fun va vs i wr => ∃ k s : Nat, k ≤ ln ∧ i = .int .i64 k ∧ va = .int .i64 k ∧ vs = .int .i64 s ∧ s ≤ p ∧ Hid (s = (formsOf (L.take k)).length) ∧ Ext w1 wr) (fun _ _ i _ => ln - (intOf i).toNat)
      case atStart => exact ⟨0, 0, Nat.zero_le _, rfl, rfl, rfl, Nat.zero_le _, rfl, Ext.refl _⟩
      case round =>
        obtain ⟨k, s, hk, rfl, rfl, rfl, hsp, hs, hx⟩ := hrel
        by_cases hlt : k < ln
        · have k1 : k < L.length := by rw [HLN.out]; exact hlt
          obtain ⟨B1, o1, ad1, cc1, rfl, f1, f2, f3⟩ := hll.at k1
          have hr1 : may L[k].1 ∧ L[k].2.length ≤ 1500 := by
            have := hrise.drop k
            rw [List.drop_eq_getElem_cons k1] at this
            exact ⟨this.2.1, this.2.2.1⟩
          have hsn : Hid (formsOf (L.take (k + 1)) = formsOf (L.take k) ++ formOf L[k]) := by
            show _ = _
            rw [List.take_succ_eq_append_getElem k1, formsOf_snoc]
          have hnx : Hid (p < s + (formOf L[k]).length → ∀ hk : k < L.length, p < s + (formOf L[k]).length) := fun h _ => h
          generalize L[k] = x at *
          have F1 := hx.cell f1
          have F2 := hx.cell f2
          have F3 := (hx.alloc (.cells #[.int .u64 x.1, .slice ad1 x.2.length cc1] 40))
          have F4 := f3.ext F3
          have hput : putS x.1 x.2 = (formOf x, 0) := by unfold putS; rw [if_neg (not_not_intro hr1.1), if_neg (by omega)]; rfl
          have hr264 : x.1 < 18446744073709551616 := by have := hr1.1.2; omega
          go_wp2_with fail
          refine (sput_any _ x.1 _ x.2 F4 hr264).mono ?_
          rw [hput]
          rintro e w8 ⟨vf, rfl, hof, hx8⟩
          simp only [] at hof
          have hx9 := F3.trans hx8
          have hflen : (formOf x).length ≤ 2000 := by
            have := vput_length x.1
            unfold formOf; rw [fr_length, List.length_append]; omega
          obtain ⟨af, cf, rfl, -, -⟩ := hof.bytes.shape
          clear hput F1 F2 F3 F4 f1 f2 f3
          by_cases hgt : p < s + (formOf x).length
          · have hd : decide ((p : Int) < (s : Int) + ((formOf x).length : Int)) = true := decide_eq_true (by omega)
            have hnx2 := Lib.hid (hnx.out hgt)
            go_wp2_with fail
            go_meet
            exact ⟨k, s, hk, rfl, rfl, hsp, hs, hnx2, hx9⟩
          · have hd : decide ((p : Int) < (s : Int) + ((formOf x).length : Int)) = false := decide_eq_false (by omega)
            go_wp2_with fail
            go_roundw
            case rel => exact ⟨k + 1, s + (formOf x).length, hlt, by go_num, by go_num, by go_num, by omega, by show _ = _; rw [hsn.out, List.length_append, hs.out], hx9⟩
            case measure => simp [intOf]; omega
        · obtain rfl : k = ln := by omega
          go_wp2_with fail
          go_meet
          exact ⟨k, s, hk, rfl, rfl, hsp, hs, fun h => absurd h (by rw [HLN.out]; omega), hx⟩
    case rest =>
      obtain ⟨k, s, hk, rfl, rfl, hsp, hs, hnext, hx⟩ := hcut
      have hob2 := hob.bytes.ext hx
      have hll2 := hll.ext hx
      have hcutS : Hid (splitS ((formsOf L).take p) F = (L.take k, s)) := by
        show _ = _
        rw [splitS_cut hmay hrise (by rw [HLN.out]; exact hk) (by rw [← hs.out]; exact hsp) (fun h => by have := hnext.out h; rw [← hs.out]; exact this), ← hs.out]
      have hTl : ((formsOf L).take p).length = p := by rw [List.length_take, HBN.out]; omega
      have hlk := lst_take hll2 (show k ≤ L.length by rw [HLN.out]; exact hk)
      have hkt : (L.take k).length = k := by rw [List.length_take, HLN.out]; omega
      have hb0' : Bytes wc (.slice ab (formsOf L).length cb) (formsOf L) := by rw [HBN.out]; exact hob2
      have hbt := bytes_take hb0' p
      rw [hTl] at hbt
      have hTm : ((formsOf L).take p).length ≤ 1000000000000 := by rw [hTl]; omega
      clear hb0'
      go_wp2_with fail
      refine (ssplit_any _ _ ((formsOf L).take p) F hbt hTm).mono ?_
      rw [hcutS.out]
      rintro e w2 ⟨vm, um, rfl, hom, hrm, hx2⟩
      have hlm := Lst.of_own hom hrm
      obtain ⟨am, cm, rfl, hcm, hmm⟩ := hlm.shape
      have hlk2 := hlk.ext hx2
      clear hom hrm hcutS hTm hlk
      rw [hkt] at hlm hcm ⊢
      clear hkt
      go_wp2_with fail
      refine (segsame_any _ _ _ (L.take k) (L.take k) hlm hlk2).mono ?_
      rintro e w3 ⟨rfl, hx3⟩
      rw [decide_eq_true rfl]
      have hx03 := hx01.trans (hx.trans (hx2.trans hx3))
      have hbt3 := hbt.ext (hx2.trans hx3)
      have hll3 := hll2.ext (hx2.trans hx3)
      clear hlm hlk2 hbt hll2 hob2 hx2 hx3
      by_cases hp0 : p = 0
      · subst hp0
        go_wp2_with fail
        refine (awake_any _).mono ?_
        rintro e w4 ⟨rfl, hx4⟩
        go_wp2_with fail
        go_ret
        exact ⟨rfl, hx03.trans hx4⟩
      by_cases hf0 : flip = 0
      · subst hf0
        have hdp : ((p : Int) == 0) = false := beq_eq_false_iff_ne.2 (by omega)
        go_wp2_with fail
        refine (awake_any _).mono ?_
        rintro e w4 ⟨rfl, hx4⟩
        go_wp2_with fail
        go_ret
        exact ⟨rfl, hx03.trans hx4⟩
      · have hdp : ((p : Int) == 0) = false := beq_eq_false_iff_ne.2 (by omega)
        have hdf : ((flip.toNat : Int) == 0) = false := by
          have : flip.toNat ≠ 0 := fun h => hf0 (UInt8.toNat_inj.1 h)
          simp; omega
        obtain ⟨q, rfl⟩ : ∃ q, p = q + 1 := ⟨p - 1, by omega⟩
        have hxe : Ext w3 (w3.alloc (.cells #[] 5)) := (Ext.refl w3).alloc _
        have hoe := own_empty w3 w3.heap.size (Nat.le_refl _)
        have hbtE := hbt3.ext hxe
        have hr1 : ([] : List UInt8).length + ((formsOf L).take (q + 1)).length ≤ 140737488355328 := by rw [hTl]; simp; omega
        have hszE : w3.heap.size ≤ (w3.alloc (.cells #[] 5)).heap.size := hxe.size
        go_upto_region 20 with (at_builtin; refine appB (.tmp 95) (.tmp 98) rfl rfl w3.heap.size hoe hbtE hr1 hszE ?_; intro v4 w4 ho4 hg4; rw [List.nil_append] at ho4; have hx4 : Ext w3 w4 := hxe.mono_grown hoe (Nat.le_refl _) hg4)
        rcases OwnB.own_shape ho4 with ⟨-, h⟩ | ⟨g4, cp4, rfl, hg43, hg44, hcp4, hcm4⟩
        · rw [h] at hTl; simp at hTl
        rw [hTl] at ho4 hcp4 ⊢
        unfold maxLen at hcm4
        have hjl : q < ((formsOf L).take (q + 1)).length := by rw [hTl]; omega
        obtain ⟨x, hx', hcell, hfr⟩ := ho4.get hjl
        have hset := ho4.set hjl (x ^^^ flip)
        have hjf : q < (formsOf L).length := by rw [HBN.out]; omega
        have hxj : x = (formsOf L)[q] := by
          rw [List.getElem?_take, if_pos (by omega), List.getElem?_eq_getElem hjf] at hx'
          exact (Option.some.inj hx').symm
        rw [take_set _ _ _ hjf] at hset
        have hE := hx4.setCell (p := ⟨g4, q, none⟩) hg43 (.int .u8 ((x ^^^ flip).toNat : Int))
        have hval := Lib.hid (turn3_val x flip)
        have hc1 := byte_lt x
        have hd1 := byte_lt flip
        generalize hW8 : w4.setCell ⟨g4, q, none⟩ (.int .u8 ((x ^^^ flip).toNat : Int)) = w8 at *
        have HW8 := Lib.hid hW8
        have hturn : ∀ j, (hj : j < L.length) → (formsOf (L.take j)).length ≤ q → q < (formsOf (L.take j)).length + (formOf L[j]).length → splitS ((formsOf L).take q ++ [x ^^^ flip]) F = (L.take j, (formsOf (L.take j)).length) := fun j hj e1 e2 => by
          rw [hxj]
          exact splitS_turned flip hmay hrise hj e1 e2 hf0 hjf
        have HT := Lib.hid hturn
        have hTm : ((formsOf L).take q ++ [x ^^^ flip]).length = q + 1 := by rw [List.length_append, List.length_take, HBN.out]; simp; omega
        have hkT := hset.bytes
        generalize (formsOf L).take q ++ [x ^^^ flip] = T at *
        have HTM := Lib.hid hTm
        have hq1 : ((q + 1 : Nat) : Int) - 1 = (q : Int) := by omega
        clear hW8 hxj hx' hjl hturn hset hTm
        go_upto_region 21 with fail
        rw [hval.out, HW8.out]
        clear hval HW8 hcell hfr ho4 hjf
        have hll8 := hll3.ext hE
        have hx08 := hx03.trans hE
        go_upto_if 110 with fail
        go_cut [11, 12, 20, 21] from 106 to 125 (fun va vs _ _ wx => ∃ k s : Nat, k < ln ∧ s ≤ q ∧ va = .int .i64 k ∧ vs = .int .i64 s ∧ Hid (splitS T F = (L.take k, s)) ∧ Ext w8 wx)
        case first =>
          by_cases hqs : q + 1 = s
          · have HQS := Lib.hid hqs
            have hdq : (((q + 1 : Nat) : Int) == (s : Int)) = true := beq_iff_eq.2 (by omega)
            have hdq2 : ((q : Int) + 1 == (s : Int)) = true := beq_iff_eq.2 (by omega)
            clear hqs
            have hk0 : k ≠ 0 := by
              rintro rfl
              have := hs.out
              simp [formsOf] at this
              have := HQS.out
              omega
            obtain ⟨j, hkj⟩ : ∃ j, k = j + 1 := ⟨k - 1, by omega⟩
            have HKJ := Lib.hid hkj
            have hk1' : (k : Int) - 1 = (j : Int) := by omega
            have hjn : j < ln := by omega
            have hj0 : (0 : Int) ≤ (j : Int) := by omega
            clear hkj hk0
            have k1 : j < L.length := by rw [HLN.out]; omega
            obtain ⟨B1, o1, ad1, cc1, rfl, f1, f2, f3⟩ := hll8.at k1
            have hr1 : may L[j].1 ∧ L[j].2.length ≤ 1500 := by
              have := hrise.drop j
              rw [List.drop_eq_getElem_cons k1] at this
              exact ⟨this.2.1, this.2.2.1⟩
            have hsn : Hid (s = (formsOf (L.take j)).length + (formOf L[j]).length) := by
              show _ = _
              have := hs.out
              rw [HKJ.out] at this
              rw [List.take_succ_eq_append_getElem k1, formsOf_snoc, List.length_append] at this
              exact this
            have hT2 := fun e1 e2 => HT.out j k1 e1 e2
            generalize L[j] = x at *
            have hput : putS x.1 x.2 = (formOf x, 0) := by unfold putS; rw [if_neg (not_not_intro hr1.1), if_neg (by omega)]; rfl
            have hr264 : x.1 < 18446744073709551616 := by have := hr1.1.2; omega
            go_wp2_with fail
            refine (sput_any _ x.1 _ x.2 f3 hr264).mono ?_
            rw [hput]
            rintro e w9 ⟨vf, rfl, hof, hx9⟩
            simp only [] at hof
            obtain ⟨af, cf, rfl, -, -⟩ := hof.bytes.shape
            clear hput f1 f2 f3
            have hfn : 1 ≤ (formOf x).length := by unfold formOf; rw [fr_length]; omega
            have hs2 := Lib.hid (hT2 (by have := hsn.out; have := HQS.out; omega) (by have := hsn.out; have := HQS.out; omega))
            have hsz := hsn.out
            have hlq : (formOf x).length ≤ s := by omega
            have hsub : Hid ((s : Int) - ((formOf x).length : Int) = (((formsOf (L.take j)).length : Nat) : Int)) := by show _ = _; omega
            have hle : (formsOf (L.take j)).length ≤ q := by have := HQS.out; omega
            clear hsz hT2
            go_wp2_with fail
            rw [hsub.out]
            go_meet
            exact ⟨j, _, hjn, hle, rfl, rfl, hs2, hx9⟩
          · have hk2 : k < ln := by
              rcases Nat.lt_or_ge k ln with h | h
              · exact h
              · exfalso
                have e := hs.out
                rw [List.take_of_length_le (by rw [HLN.out]; exact h), HBN.out] at e
                omega
            have k1 : k < L.length := by rw [HLN.out]; exact hk2
            have hs2 := Lib.hid (HT.out k k1 (by rw [← hs.out]; omega) (by have := hnext.out k1; rw [← hs.out]; omega))
            rw [← hs.out] at hs2
            have hdq : (((q + 1 : Nat) : Int) == (s : Int)) = false := beq_eq_false_iff_ne.2 (by omega)
            have hdq2 : ((q : Int) + 1 == (s : Int)) = false := beq_eq_false_iff_ne.2 (by omega)
            go_wp2_with fail
            go_meet
            exact ⟨k, s, hk2, by omega, rfl, rfl, hs2, Ext.refl _⟩
        case rest =>
          obtain ⟨k', s', hk', hs', rfl, rfl, hsp2, hx9⟩ := hcut
          rename_i w9
          have hkt := hkT.ext hx9
          have hll9 := hll8.ext hx9
          have hlk := lst_take hll9 (show k' ≤ L.length by rw [HLN.out]; omega)
          have hkl : (L.take k').length = k' := by rw [List.length_take, HLN.out]; omega
          have hTm : T.length ≤ 1000000000000 := by rw [HTM.out]; omega
          go_wp2_with fail
          refine (ssplit_any _ _ T F hkt hTm).mono ?_
          rw [hsp2.out]
          rintro e w10 ⟨vm, um, rfl, hom, hrm, hx10⟩
          have hlm := Lst.of_own hom hrm
          obtain ⟨am, cm, rfl, hcm, hmm⟩ := hlm.shape
          rw [hkl] at hlm hcm ⊢
          have hlk2 := hlk.ext hx10
          have hx010 := hx08.trans (hx9.trans hx10)
          clear hom hrm hkl
          go_wp2_with fail
          refine (awake_any _).mono ?_
          rintro e w11 ⟨rfl, hx11⟩
          have hlm2 := hlm.ext hx11
          have hlk3 := hlk2.ext hx11
          go_wp2_with fail
          refine (segsame_any _ _ _ (L.take k') (L.take k') hlm2 hlk3).mono ?_
          rintro e w12 ⟨rfl, hx12⟩
          rw [decide_eq_true rfl]
          go_wp2_with fail
          go_ret
          exact ⟨rfl, hx010.trans (hx11.trans hx12)⟩

end Go.Proofs.YtkaepcjkpaplfaaDoor
