/- SegmentFrom, walked: whatever it is handed it answers true and writes nothing that was there. -/
import Derived.Test.YtkaepcjkpaplfaaDoorP3
import Derived.Test.YtkaepcjkpaplfaaDoorN12
import Derived.BigQuiet
namespace Go.Proofs.YtkaepcjkpaplfaaDoor
open Go.RowKit

theorem rsC_app (a b : List RS) : rsC (a ++ b) = rsC a ++ rsC b := by simp [rsC]
theorem rsC_take (us : List RS) (k : Nat) (h : k ≤ us.length) : (rsC us).take (k * 2) = rsC (us.take k) := by
  conv => lhs; rw [← List.take_append_drop k us]
  rw [rsC_app, List.take_left' (by rw [rsC_length, List.length_take, Nat.min_eq_left h])]
theorem rsC_drop (us : List RS) (k : Nat) (h : k ≤ us.length) : (rsC us).drop (k * 2) = rsC (us.drop k) := by
  conv => lhs; rw [← List.take_append_drop k us]
  rw [rsC_app, List.drop_left' (by rw [rsC_length, List.length_take, Nat.min_eq_left h])]
theorem lst_drop {W : World} {a : Option Addr} {n c k : Nat} {xs : List (Nat × List UInt8)} (h : Lst W (.slice a n c) xs) (hk : k ≤ xs.length) : Lst W (.slice (a.map fun x => x.add (k * 2)) (n - k) (c - k)) (xs.drop k) := by
  obtain ⟨us, ⟨hl, a', c', e, hc, hm, hnil, hspot, hcell⟩, h2, h3⟩ := h
  simp only [Value.slice.injEq] at e
  obtain ⟨rfl, rfl, rfl⟩ := e
  refine ⟨us.drop k, ⟨by rw [rsC_length], a.map fun x => x.add (k * 2), c - k, by rw [List.length_drop], by rw [List.length_drop]; omega, by omega, fun e => ?_, fun p hp h0 => ?_, fun j u hj => ?_⟩, by rw [List.length_drop, List.length_drop, h2], fun j u y e1 e2 => ?_⟩
  · cases a with
    | none => have := hnil rfl; omega
    | some p => cases e
  · cases a with
    | none => cases hp
    | some q =>
      cases hp
      have := hspot q rfl (by omega)
      simp only [Addr.add]
      split
      · exact this
      · rfl
  · rw [← rsC_drop _ _ (by omega), List.getElem?_drop] at hj
    obtain ⟨p, rfl, hcl⟩ := hcell _ u hj
    have hlt : k * 2 + j < (rsC us).length := by
      rcases Nat.lt_or_ge (k * 2 + j) (rsC us).length with h | h
      · exact h
      · rw [List.getElem?_eq_none h] at hj; cases hj
    have hps := hspot p rfl (by rw [rsC_length] at hlt; omega)
    refine ⟨p.add (k * 2), rfl, ?_⟩
    obtain ⟨pb, po, ps⟩ := p
    simp only at hps
    subst hps
    by_cases h0 : k * 2 = 0
    · simp only [Addr.add, h0, if_true]
      rw [h0, Nat.zero_add] at hcl
      exact hcl
    · simp only [Addr.add, h0, if_false]
      rw [Nat.add_assoc]
      exact hcl
  · rw [List.getElem?_drop] at e1 e2
    exact h3 _ u y e1 e2

theorem lst_end {W : World} {a : Option Addr} {n k : Nat} {xs : List (Nat × List UInt8)} (h : Lst W (.slice a n k) xs) (hk : k ≤ xs.length) : Lst W (.slice a (n - k) 0) (xs.drop k) := by
  obtain ⟨us, ⟨hl, a', c', e, hc, hm, hnil, hspot, hcell⟩, h2, h3⟩ := h
  simp only [Value.slice.injEq] at e
  obtain ⟨rfl, rfl, rfl⟩ := e
  have e0 : us.length - k = 0 := by omega
  have ex : xs.drop k = [] := List.drop_of_length_le (by omega)
  rw [e0, ex]
  exact ⟨[], ⟨rfl, a, 0, rfl, Nat.le_refl _, by decide, fun _ => rfl, fun p _ h0 => absurd h0 (Nat.lt_irrefl 0), fun j u hj => by simp [rsC] at hj⟩, rfl, fun j u y e1 _ => by simp at e1⟩

theorem ahead_law {L : List (Nat × List UInt8)} {F n a k : Nat} (hr : Rise F L) (ha : a ≤ L.length) (hk : k ≤ L.length) (h1 : ∀ x, 0 < a → L[a - 1]? = some x → x.1 < n) (h2 : a = L.length ∨ ∃ x, L[a]? = some x ∧ n ≤ x.1)
    (h3 : k = 0 ∨ ∃ hk : k < L.length, L[k].1 ≤ n) (h4 : ∀ h : k + 4 < L.length, n < L[k + 4].1) : k ≤ a ∧ a ≤ k + 4 := by
  constructor
  · rcases Nat.lt_or_ge a k with h | h
    · exfalso
      rcases h3 with h3 | ⟨hk2, h3⟩
      · omega
      · rcases h2 with h2 | ⟨x, h2, h5⟩
        · omega
        · have h6 := rise_lt hr a k h hk2
          rw [List.getElem?_eq_getElem (by omega)] at h2
          rw [← Option.some.inj h2] at h5
          omega
    · exact h
  · rcases Nat.lt_or_ge (k + 4) a with h | h
    · exfalso
      have h5 := h4 (by omega)
      have h6 := h1 _ (by omega) (List.getElem?_eq_getElem (by omega))
      rcases Nat.lt_or_ge (k + 4) (a - 1) with h7 | h7
      · have := rise_lt hr (k + 4) (a - 1) h7 (by omega)
        omega
      · have e : a - 1 = k + 4 := by omega
        simp only [e] at h6
        omega
    · exact h

set_option maxRecDepth 100000 in
set_option maxHeartbeats 6000000 in
theorem segmentFrom_any (w : World) (v1 v2 v3 : Value) (n0 n4 : Nat) (ss rest : List UInt8) (ds : List (List UInt8)) (h1 : Bytes w v1 ss) (h2 : Lists w v2 ds) (h3 : Bytes w v3 rest) :
    Calls Tryd.prog 8 #[.agg #[.int .u64 n0, v1, v2, v3, .int .u64 n4]] w fun e w' => e = .returned (.bool true) ∧ Ext w w' := by
  obtain ⟨a1, c1, rfl, hc1, hm1⟩ := h1.shape
  obtain ⟨a2, c2, rfl, hc2, hm2⟩ := h2.shape
  obtain ⟨a3, c3, rfl, hc3, hm3⟩ := h3.shape
  unfold maxLen at hm1 hm2 hm3
  have hx0 : Ext w (w.alloc (.cells #[.int .u64 n0, .slice a1 ss.length c1, .slice a2 ds.length c2, .slice a3 rest.length c3, .int .u64 n4] 57)) := (Ext.refl w).alloc _
  have hT : (w.alloc (.cells #[.int .u64 n0, .slice a1 ss.length c1, .slice a2 ds.length c2, .slice a3 rest.length c3, .int .u64 n4] 57)).heap[w.heap.size]? = some (.cells #[.int .u64 n0, .slice a1 ss.length c1, .slice a2 ds.length c2, .slice a3 rest.length c3, .int .u64 n4] 57 (0, 0)) := heap_alloc_new _ _
  have HT := Lib.hid hT
  clear hT
  have g1 := h1.ext hx0
  have g2 := h2.ext hx0
  go_enter Tryd.func8, Tryd.ntmps8
  go_wp2_with fail
  generalize w.alloc (.cells #[.int .u64 n0, .slice a1 ss.length c1, .slice a2 ds.length c2, .slice a3 rest.length c3, .int .u64 n4] 57) = wa at *
  have t4 : wa.cell? ⟨w.heap.size, 4, none⟩ = some (.int .u64 n4) := by rw [cell_of_row _ _ _ _ _ _ HT.out]; rfl
  have e1 : (1 + (n0 : Int) % 1099511527776) = ((1 + n0 % 1099511527776 : Nat) : Int) := by omega
  have hF1 : 1 ≤ 1 + n0 % 1099511527776 ∧ 1 + n0 % 1099511527776 ≤ 1099511527776 := by omega
  rw [e1]
  clear e1
  generalize 1 + n0 % 1099511527776 = F at *
  have hmay : may F := ⟨hF1.1, by omega⟩
  refine (laid_any _ _ _ F ss ds g1 g2 (by omega)).mono ?_
  rintro e w1 ⟨vl, vb, us, rfl, hol, hll, hul, hob, hx1⟩
  have hrise : Rise F (laidL 40 F ss ds) := laid_rise 40 F ss ds
  have hlen40 : (laidL 40 F ss ds).length ≤ 40 := laid_len 40 F ss ds
  generalize laidL 40 F ss ds = L at *
  have hfl := forms_len hrise
  have t4b := hx1.cell t4
  clear hul g1 g2 t4
  obtain ⟨al, cl, rfl, hcl, hml⟩ := hll.shape
  obtain ⟨ab, cb, rfl, hcb, hmb⟩ := hob.bytes.shape
  unfold maxLen at hml hmb
  have hx01 := hx0.trans hx1
  have hbl : (formsOf L).length ≤ 80000 := by omega
  obtain ⟨k, hk, hfrom, hk0, hk4⟩ := from_place hrise n4
  have hsum : (formsOf L).length = (formsOf (L.take k)).length + (formsOf (L.drop k)).length := by
    conv => lhs; rw [← List.take_append_drop k L]
    rw [forms_app, List.length_append]
  have hdrop : Hid ((formsOf L).drop (formsOf (L.take k)).length = formsOf (L.drop k)) := by
    show _ = _
    conv => lhs; rw [← List.take_append_drop k L]
    rw [forms_app]
    rw [List.drop_append, List.drop_of_length_le (by rw [List.take_append_drop]; exact Nat.le_refl _), List.take_append_drop, Nat.sub_self]
    rfl
  have hspl : Hid (splitS (formsOf (L.drop k)) F = (L.drop k, (formsOf (L.drop k)).length)) := by
    have := splitS_forms [] hmay (hrise.drop k) (nextR_short (by simp))
    rw [List.append_nil] at this
    exact this
  have hgl : (L.drop k).length = L.length - k := List.length_drop
  have HFR := Lib.hid hfrom
  have HGL := Lib.hid hgl
  have hlaw : ∀ a, a ≤ L.length → (∀ x, 0 < a → L[a - 1]? = some x → x.1 < n4) → (a = L.length ∨ ∃ x, L[a]? = some x ∧ n4 ≤ x.1) → k ≤ a ∧ a ≤ k + 4 := fun a ha h1 h2 => ahead_law hrise ha hk h1 h2 hk0 hk4
  have HLW := Lib.hid hlaw
  clear hfrom hgl hk0 hk4 hlaw
  generalize hat : (formsOf (L.take k)).length = p at *
  generalize hdn : (formsOf (L.drop k)).length = dn at *
  generalize hBN : (formsOf L).length = bn at *
  have HBN := Lib.hid hBN
  have HDN := Lib.hid hdn
  clear hBN hat hdn
  generalize hln : L.length = ln at *
  have HLN := Lib.hid hln
  clear hln
  have hsum2 : p ≤ bn ∧ dn = bn - p := by omega
  clear hsum
  go_upto_region 3 with fail
  go_cut [6] from 24 to 28 (fun v6 wx => v6 = .int .i64 p ∧ Ext w1 wx)
  case first =>
    have hlld := hll.ext (Ext.refl w1).drew
    have t4d := (Ext.refl w1).drew.cell t4b
    have hl6 : L.length ≤ 1000000 := by rw [HLN.out]; omega
    go_region_law (first | (refine step_call rfl ?_; go_simp; go_at_call 26; refine (places_any _ _ L F hlld hrise hl6).mono ?_; rintro e w4 ⟨vp, rfl, hop, hx4⟩; have ht4 := hx4.cell t4d; obtain ⟨ap, cp, rfl⟩ := own_slice hop; have hrp := Row.of_own hop) | (refine step_call rfl ?_; go_simp; go_at_call 25; refine (from_any _ _ _ n4 hrp).mono ?_; rintro e w5 ⟨rfl, hx5⟩; rw [HFR.out]))
    all_goals
      go_wp2_with fail
      go_meet
      exact ⟨rfl, (Ext.refl w1).drew.trans (hx4.trans hx5)⟩
  case rest =>
    obtain ⟨rfl, hx5⟩ := hcut
    have hob5 := hob.bytes.ext hx5
    have hll5 := hll.ext hx5
    have t45 := hx5.cell t4b
    have hx05 := hx01.trans hx5
    have hp1 := hsum2.1
    have eP : (0 : Int) ≤ (p : Int) ∧ ((p : Int)).toNat = p := by omega
    have EP := Lib.hid eP
    have hd1 : decide ((bn : Int) < (p : Int)) = false := decide_eq_false (by omega)
    have hcb0 : Bytes wc (.slice ab bn cb) (formsOf L) := hob5
    have hgm : (formsOf (L.drop k)).length ≤ 1000000000000 := by rw [HDN.out]; omega
    have hd2 : ((dn : Int) != (bn : Int) - (p : Int)) = false := by simp; omega
    clear eP hll hob t4b
    go_wp2_with (refine cutB (.tmp 38) (some (.tmp 39)) none p bn rfl rfl hcb0 ⟨_, _, rfl, EP.out.1, EP.out.2⟩ HBN.out.symm hp1 (by rw [HBN.out]; exact Nat.le_refl _) ?_; intro v40 h40; rw [List.take_of_length_le (by rw [HBN.out]; exact Nat.le_refl _), hdrop.out] at h40)
    refine (ssplit_any _ _ (formsOf (L.drop k)) F h40 hgm).mono ?_
    rw [hspl.out]
    rintro e w6 ⟨vm, um, rfl, hom, hrm, hx6⟩
    have hlm := Lst.of_own hom hrm
    obtain ⟨am, cm, rfl, hcm, hmm⟩ := hlm.shape
    have hll6 := hll5.ext hx6
    have t46 := hx6.cell t45
    have hx06 := hx05.trans hx6
    clear hom hrm hgm hcb0 hll5 hob5 t45 h40
    generalize hgn : (L.drop k).length = gn at *
    have HGN := Lib.hid hgn
    clear hgn
    have hgk : gn = ln - k := HGL.out
    have hgk2 : gn ≤ ln ∧ gn + k = ln := by omega
    clear hgk
    have hsub : (ln : Int) - (gn : Int) = (k : Int) := by omega
    go_upto_block 0 with fail
    go_cut [9] from 51 to 66 (fun va wx => ∃ a : Nat, va = .int .i64 a ∧ a ≤ ln ∧ k ≤ a ∧ a ≤ k + 4 ∧ Ext w6 wx)
    case first =>
      go_wp2_with fail
      go_loopw [9] (fun va wr => ∃ a : Nat, va = .int .i64 a ∧ a ≤ ln ∧ Hid (∀ x, 0 < a → L[a - 1]? = some x → x.1 < n4) ∧ Ext w6 wr) (fun va _ => ln - (intOf va).toNat)
      case atStart => exact ⟨0, rfl, Nat.zero_le _, fun x h => absurd h (Nat.lt_irrefl 0), Ext.refl _⟩
      case round =>
        obtain ⟨a, rfl, ha, hall, hx⟩ := hrel
        by_cases hlt : a < ln
        · have k1 : a < L.length := by rw [HLN.out]; exact hlt
          obtain ⟨B1, o1, ad1, cc1, rfl, f1, f2, f3⟩ := hll6.at k1
          have hLa : Hid (L[a]? = some L[a]) := List.getElem?_eq_getElem k1
          generalize L[a] = x at *
          have F1 := hx.cell f1
          have T4 := hx.cell t46
          clear f1 f2 f3
          have hd0 : decide ((a : Int) < (ln : Int)) = true := decide_eq_true (by omega)
          by_cases hn : x.1 < n4
          · have hd : decide ((x.1 : Int) < (n4 : Int)) = true := decide_eq_true (by omega)
            have hdn : decide (x.1 < n4) = true := decide_eq_true hn
            go_upto_region 10 with fail
            go_quiet (fail)
            go_wp2_with fail
            go_roundw
            case rel => exact ⟨a + 1, by go_num, hlt, fun y _ hy => by rw [Nat.add_sub_cancel, hLa.out] at hy; rw [← Option.some.inj hy]; exact hn, drewN_ext hx _⟩
            case measure => simp [intOf]; omega
          · have hd : decide ((x.1 : Int) < (n4 : Int)) = false := decide_eq_false (by omega)
            have hdn : decide (x.1 < n4) = false := decide_eq_false hn
            obtain ⟨b1, b2⟩ := HLW.out a ha hall.out (.inr ⟨x, hLa.out, by omega⟩)
            go_upto_region 10 with fail
            go_quiet (fail)
            go_wp2_with fail
            go_meet
            exact ⟨a, rfl, ha, b1, b2, drewN_ext hx _⟩
        · obtain rfl : a = ln := by omega
          obtain ⟨b1, b2⟩ := HLW.out a ha hall.out (.inl rfl)
          have hd0 : decide ((a : Int) < (a : Int)) = false := decide_eq_false (by omega)
          go_upto_region 10 with fail
          go_quiet (fail)
          go_wp2_with fail
          go_meet
          exact ⟨a, rfl, ha, b1, b2, drewN_ext hx _⟩
    case rest =>
      obtain ⟨a, rfl, ha, hka, hak, hx7⟩ := hcut
      have hll7 := hll6.ext hx7
      have hlm7 := hlm.ext hx7
      have hx07 := hx06.trans hx7
      have hkL : k ≤ L.length := by rw [HLN.out]; omega
      have hd3 : decide ((a : Int) < (k : Int)) = false := decide_eq_false (by omega)
      have hd4 : decide ((a : Int) - (k : Int) ≤ 4) = true := decide_eq_true (by omega)
      go_wp2_with fail
      all_goals
        refine (segsame_any _ _ _ (L.drop k) (L.drop k) hlm7 (by first | exact lst_drop hll7 hkL | exact lst_end (by have e : cl = k := (by omega); rw [← e]; exact hll7) hkL)).mono ?_
        rintro e w8 ⟨rfl, hx8⟩
        rw [decide_eq_true rfl]
        go_wp2_with fail
        refine (awake_any _).mono ?_
        rintro e w9 ⟨rfl, hx9⟩
        go_wp2_with fail
        go_ret
        exact ⟨rfl, hx07.trans (hx8.trans hx9)⟩

end Go.Proofs.YtkaepcjkpaplfaaDoor
