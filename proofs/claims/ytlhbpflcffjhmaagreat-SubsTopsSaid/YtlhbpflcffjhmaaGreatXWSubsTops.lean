/- The walk through SubsTops. -/
import Derived.Test.YtlhbpflcffjhmaaGreatPk16
namespace Go.Proofs.YtlhbpflcffjhmaaGreat
open Go.RowKit Go.Sort

theorem add0S (p : Addr) : p.add 0 = p := by unfold Addr.add; split <;> simp_all
theorem cutQ_head {w : World} {us : List PP} {ad : Option Addr} {c m : Nat} (h : PredsR w (.slice ad us.length c) us) (hm : m ≤ us.length) : PredsR w (.slice ad m c) (us.take m) := by
  refine ⟨?_, fun x hx => h.hs x (List.mem_of_mem_take hx)⟩
  have hc : us.length ≤ c := by
    obtain ⟨a', c', e, hh, _⟩ := Row.shape h.row
    simp only [Value.slice.injEq] at e
    omega
  have := Row.sub h.row 0 m (Nat.zero_le _) hm (c - 0) (by omega) (Nat.le_refl _)
  rw [Nat.zero_mul, List.drop_zero, flat_take ppC 1 ppC_len] at this
  have e : (if c = 0 then ad else ad.map (·.add 0)) = ad := by
    split
    · rfl
    · cases ad with
      | none => rfl
      | some p => simp [add0S]
  rw [e] at this
  rw [List.length_take, Nat.min_eq_left hm]
  simpa using this
theorem PredsR.el {w : World} {a : Option Addr} {n cap : Nat} {us : List PP} (h : PredsR w (.slice a n cap) us) {k : Nat} (hk : k < us.length) : ∃ B o ya yn yc, a = some ⟨B, o, none⟩ ∧ w.cell? ⟨B, o + k, none⟩ = some (.slice ya yn yc) ∧ PredR w (.slice ya yn yc) us[k].p := by
  obtain ⟨B, o, e, c⟩ := PredsR.at h hk
  have hp := h.hs _ (List.getElem_mem hk)
  obtain ⟨ya, yc, hy, _, _⟩ := hp.shape
  rw [hy] at c hp
  exact ⟨B, o, ya, _, yc, e, c, hp⟩
theorem PredsR.elh {w : World} {a : Option Addr} {n cap : Nat} {us : List PP} (h : PredsR w (.slice a n cap) us) {k : Nat} (hk : k < us.length) : ∃ B o ya yn yc, a = some ⟨B, o, none⟩ ∧ w.cell? ⟨B, o + k, none⟩ = some (.slice ya yn yc) ∧ PredR w (.slice ya yn yc) us[k].p ∧ us[k].h = .slice ya yn yc := by
  obtain ⟨B, o, e, c⟩ := PredsR.at h hk
  have hp := h.hs _ (List.getElem_mem hk)
  obtain ⟨ya, yc, hy, _, _⟩ := hp.shape
  rw [hy] at c hp
  exact ⟨B, o, ya, _, yc, e, c, hp, hy⟩
theorem ts_rise {ts : List PP} {L : List (List C)} (h : psP ts = maxF L) : ∀ i (hi : i + 1 < ts.length), cmpP ts[i].p ts[i + 1].p < 0 := fun i hi => by
  have hl : ts.length = (maxF L).length := by rw [← h, psP_len]
  have := max_rise (l := L) (i := i) (by omega)
  have e1 : (maxF L)[i]'(by omega) = ts[i].p := by simp only [← h, psP, List.getElem_map]
  have e2 : (maxF L)[i + 1]'(by omega) = ts[i + 1].p := by simp only [← h, psP, List.getElem_map]
  rwa [e1, e2] at this
theorem ts_apart {ts : List PP} {L : List (List C)} (h : psP ts = maxF L) : ∀ i k (hi : i < ts.length) (hk : k < ts.length), i ≠ k → coversF ts[i].p ts[k].p = false := fun i k hi hk hne => by
  have hl : ts.length = (maxF L).length := by rw [← h, psP_len]
  have := max_apart (l := L) (i := i) (k := k) (by omega) (by omega) hne
  have e1 : (maxF L)[i]'(by omega) = ts[i].p := by simp only [← h, psP, List.getElem_map]
  have e2 : (maxF L)[k]'(by omega) = ts[k].p := by simp only [← h, psP, List.getElem_map]
  rwa [e1, e2] at this
theorem ts_cov {ts : List PP} {L : List (List C)} (h : psP ts = maxF L) {p : List C} (hp : p ∈ L) : (!mayP p || ts.any fun y => coversF y.p p) = true := by
  cases hm : mayP p with
  | false => rfl
  | true =>
    obtain ⟨q, hq, hc⟩ := max_cov hp hm
    rw [← h] at hq
    obtain ⟨y, hy, rfl⟩ := List.mem_map.1 hq
    exact List.any_eq_true.2 ⟨y, hy, hc⟩
set_option maxRecDepth 100000 in
set_option maxHeartbeats 16000000 in
theorem subsTops_walk (W : World) (v : Value) (us : List PP) (B0 : PredsR W v us) (O0 : ∀ y ∈ us, ∀ c ∈ y.p, okC c) :
    Calls Tryz.prog 3 #[v] W fun e W' => e = .returned (.bool true) ∧ Ext W W' := by
  obtain ⟨va, vc, rfl, hvc, hvm⟩ := Row.shape B0.row
  obtain ⟨m, hm⟩ : ∃ m, m = min us.length 30 := ⟨_, rfl⟩
  have hml : m ≤ us.length := by omega
  have q1 : min ((us.length : Nat) : Int) 30 = (m : Int) := by omega
  have hm30 : m ≤ 30 := by omega
  have hmc : m ≤ vc := by omega
  have hls := cutQ_head B0 hml
  have hlo : ∀ y ∈ us.take m, ∀ c ∈ y.p, okC c := fun y hy => O0 y (List.mem_of_mem_take hy)
  have hll : m = (us.take m).length := by rw [List.length_take, Nat.min_eq_left hml]
  have haz : (if vc = 0 then va else va.map (·.add 0)) = va := by
    split
    · rfl
    · cases va with
      | none => rfl
      | some p => simp [add0S]
  obtain ⟨n, hn⟩ : ∃ n, n = us.length := ⟨_, rfl⟩
  rw [← hn] at hvc q1 hml ⊢
  generalize us.take m = ls at *
  have HL := Lib.hid hls
  have HLO := Lib.hid hlo
  have HLL := Lib.hid hll
  unfold maxLen at hvm
  have HMX := Lib.hid (maximal_any W _ ls hls hlo (by omega))
  clear B0 O0 hls hlo hll hn hm
  go_enter Tryz.func3, Tryz.ntmps3
  go_upto_region 3 with (go_at_call 7; (with_reducible refine HMX.out.mono ?_); rintro e w1 ⟨v3, ts, rfl, h1, h2, hx⟩; have HTM := Lib.hid h1; have HT := Lib.hid h2; have HX1 := Lib.hid hx; clear h1 h2 hx HMX)
  obtain ⟨ta, tc, rfl, htc, htm⟩ := own_shape HT.out.own
  have HRI := Lib.hid (ts_rise HTM.out)
  have HAP := Lib.hid (ts_apart HTM.out)
  have HCO : Hid (∀ p ∈ psP ls, (!mayP p || ts.any fun y => coversF y.p p) = true) := fun p hp => ts_cov HTM.out hp
  have htn : ts.length ≤ 30 := by
    have h1 := max_len (psP ls)
    have h2 := congrArg List.length HTM.out
    rw [List.length_map] at h2
    rw [psP_len] at h1
    have h3 := HLL.out
    have h4 : (maxF (psP ls)).length = (maxF (ls.map PP.p)).length := rfl
    omega
  obtain ⟨tn, hn⟩ : ∃ tn, tn = ts.length := ⟨_, rfl⟩
  rw [← hn] at htc htn ⊢
  rw [← hn] at HT
  have HTN := Lib.hid hn
  clear hn
  unfold maxLen at htm
  go_upto_region 4 with fail
  go_loopw [23] (fun i wr => ∃ k : Nat, k ≤ tn ∧ i = .int .i64 k ∧ Hid (Ext w1 wr)) (fun i _ => tn - (intOf i).toNat)
  case atStart => exact ⟨0, Nat.zero_le _, rfl, Ext.refl _⟩
  case round =>
    obtain ⟨k, hk, rfl, hx⟩ := hrel
    by_cases hlt : k < tn
    · have hI : decide ((k : Int) < (tn : Int)) = true := decide_eq_true (by omega)
      have hkl : k < ts.length := by rw [← HTN.out]; exact hlt
      obtain ⟨B, o, ya, yn, yc, rfl, c0, hp⟩ := PredsR.el (HT.out.preds.ext hx.out) hkl
      have hok := HT.out.ok _ (List.getElem_mem hkl)
      have hpx : PredR w1 (.slice ya yn yc) ts[k].p := by
        obtain ⟨B', o', e', c'⟩ := PredsR.at HT.out.preds hkl
        have h1 := hx.out.cell c'
        cases e'
        have c1 := c0
        rw [h1] at c1
        have h2 := HT.out.preds.hs _ (List.getElem_mem hkl)
        rw [Option.some.inj c1] at h2
        exact h2
      clear hp
      obtain ⟨x, hx0⟩ : ∃ x, x = ts[k] := ⟨_, rfl⟩
      have HXP : Hid (x.p = ts[k].p) := congrArg PP.p hx0
      rw [← hx0] at hpx hok
      have HPX := Lib.hid hpx
      have HOX := Lib.hid hok
      clear hpx hok hx0
      by_cases h0 : k = 0
      · have hG : decide ((0 : Int) < (k : Int)) = false := decide_eq_false (by omega)
        have hGN : decide (0 < k) = false := decide_eq_false (by omega)
        clear h0
        have HXI := hx
        go_wp2_with fail
        go_loopw [42] (fun i wr => ∃ j : Nat, j ≤ tn ∧ i = .int .i64 j ∧ Hid (Ext w1 wr)) (fun i _ => tn - (intOf i).toNat)
        case atStart => exact ⟨0, Nat.zero_le _, rfl, HXI.out⟩
        case round =>
          obtain ⟨j, hj, rfl, hx8⟩ := hrel
          clear HXI
          by_cases hjt : j < tn
          · have hJ : decide ((j : Int) < (tn : Int)) = true := decide_eq_true (by omega)
            have hjl : j < ts.length := by rw [← HTN.out]; exact hjt
            obtain ⟨B2, o2, za, zn, zc, e2, d0, hq⟩ := PredsR.el (HT.out.preds.ext hx8.out) hjl
            obtain ⟨rfl, rfl⟩ : B = B2 ∧ o = o2 := by cases e2; exact ⟨rfl, rfl⟩
            clear e2
            have hokq := HT.out.ok _ (List.getElem_mem hjl)
            have hcv := covers_any wr _ _ x.p ts[j].p (HPX.out.ext hx8.out) hq HOX.out hokq
            by_cases hkj : k = j
            · have hE : ((k : Int) != (j : Int)) = false := by simp [hkj]
              have hEN : decide ((k : Int) = (j : Int)) = true := decide_eq_true (by omega)
              clear hcv hokq hq
              go_wp2_with fail
              go_roundw
              case rel => exact ⟨j + 1, hjt, by go_num, hx8.out⟩
              case measure => simp [intOf]; omega
            · have hE : ((k : Int) != (j : Int)) = true := by simp; omega
              have hEN : decide ((k : Int) = (j : Int)) = false := decide_eq_false (by omega)
              rw [HXP.out, HAP.out k j hkl hjl hkj] at hcv
              have HCV := Lib.hid hcv
              clear hcv hokq hq
              go_wp2_with (go_at_call 9; (with_reducible refine HCV.out.mono ?_); rintro e w9 ⟨rfl, hx⟩; have HX9 := Lib.hid (hx8.out.trans hx); clear hx)
              go_roundw
              case rel => exact ⟨j + 1, hjt, by go_num, HX9.out⟩
              case measure => simp [intOf]; omega
          · obtain rfl : j = tn := by omega
            have hJ : decide ((j : Int) < (j : Int)) = false := decide_eq_false (by omega)
            go_wp2_with fail
            go_roundw
            case rel => exact ⟨k + 1, hlt, by go_num, hx8.out⟩
            case measure => simp [intOf]; omega
      · have hG : decide ((0 : Int) < (k : Int)) = true := decide_eq_true (by omega)
        have hGN : decide (0 < k) = true := decide_eq_true (by omega)
        obtain ⟨r, hr⟩ : ∃ r, k = r + 1 := ⟨k - 1, by omega⟩
        have hs1 : (k : Int) - 1 = (r : Int) := by omega
        have hs2 : IntKind.i64.wrap (r : Int) = (r : Int) := by rw [IntKind.wrap_i64]; omega
        have hrl : r < ts.length := by omega
        obtain ⟨B2, o2, za, zn, zc, e2, d0, hq⟩ := PredsR.el (HT.out.preds.ext hx.out) hrl
        obtain ⟨rfl, rfl⟩ : B = B2 ∧ o = o2 := by cases e2; exact ⟨rfl, rfl⟩
        clear e2
        have hcm := pcompare_any wr _ _ ts[r].p x.p hq (HPX.out.ext hx.out)
        have hneg : cmpP ts[r].p x.p < 0 := by
          rw [HXP.out]
          have := HRI.out r (by omega)
          simpa [hr] using this
        generalize cmpP ts[r].p x.p = cc at *
        have hc1 : decide ((0 : Int) ≤ cc) = false := decide_eq_false (by omega)
        have HCM := Lib.hid hcm
        clear h0 hcm hq hneg hr
        go_wp2_with (go_at_call 8; (with_reducible refine HCM.out.mono ?_); rintro e w7 ⟨rfl, hy, -⟩; have HXI := Lib.hid (hx.out.trans hy); clear hy hx HCM)
        go_loopw [42] (fun i wr => ∃ j : Nat, j ≤ tn ∧ i = .int .i64 j ∧ Hid (Ext w1 wr)) (fun i _ => tn - (intOf i).toNat)
        case atStart => exact ⟨0, Nat.zero_le _, rfl, HXI.out⟩
        case round =>
          obtain ⟨j, hj, rfl, hx8⟩ := hrel
          clear HXI
          by_cases hjt : j < tn
          · have hJ : decide ((j : Int) < (tn : Int)) = true := decide_eq_true (by omega)
            have hjl : j < ts.length := by rw [← HTN.out]; exact hjt
            obtain ⟨B2, o2, za, zn, zc, e2, d0, hq⟩ := PredsR.el (HT.out.preds.ext hx8.out) hjl
            obtain ⟨rfl, rfl⟩ : B = B2 ∧ o = o2 := by cases e2; exact ⟨rfl, rfl⟩
            clear e2
            have hokq := HT.out.ok _ (List.getElem_mem hjl)
            have hcv := covers_any wr _ _ x.p ts[j].p (HPX.out.ext hx8.out) hq HOX.out hokq
            by_cases hkj : k = j
            · have hE : ((k : Int) != (j : Int)) = false := by simp [hkj]
              have hEN : decide ((k : Int) = (j : Int)) = true := decide_eq_true (by omega)
              clear hcv hokq hq
              go_wp2_with fail
              go_roundw
              case rel => exact ⟨j + 1, hjt, by go_num, hx8.out⟩
              case measure => simp [intOf]; omega
            · have hE : ((k : Int) != (j : Int)) = true := by simp; omega
              have hEN : decide ((k : Int) = (j : Int)) = false := decide_eq_false (by omega)
              rw [HXP.out, HAP.out k j hkl hjl hkj] at hcv
              have HCV := Lib.hid hcv
              clear hcv hokq hq
              go_wp2_with (go_at_call 9; (with_reducible refine HCV.out.mono ?_); rintro e w9 ⟨rfl, hx⟩; have HX9 := Lib.hid (hx8.out.trans hx); clear hx)
              go_roundw
              case rel => exact ⟨j + 1, hjt, by go_num, HX9.out⟩
              case measure => simp [intOf]; omega
          · obtain rfl : j = tn := by omega
            have hJ : decide ((j : Int) < (j : Int)) = false := decide_eq_false (by omega)
            go_wp2_with fail
            go_roundw
            case rel => exact ⟨k + 1, hlt, by go_num, hx8.out⟩
            case measure => simp [intOf]; omega
    · obtain rfl : k = tn := by omega
      have hI : decide ((k : Int) < (k : Int)) = false := decide_eq_false (by omega)
      clear HRI HAP
      go_wp2_with fail
      go_loopw [8, 59] (fun bv iv wr => ∃ i : Nat, i ≤ m ∧ iv = .int .i64 i ∧ Hid (OwnQ wr w1.heap.size bv (ls.reverse.take i)) ∧ Hid (Ext w1 wr)) (fun _ iv _ => m - (intOf iv).toNat)
      case atStart => exact ⟨0, Nat.zero_le _, rfl, (RowQ.nil _ _).own, hx.out⟩
      case round =>
        clear hx
        obtain ⟨i, hi, rfl, hb, hx⟩ := hrel
        obtain ⟨bs, hbs⟩ : ∃ bs, bs = ls.reverse.take i := ⟨_, rfl⟩
        rw [← hbs] at hb
        have hbl : bs.length = i := by rw [hbs, List.length_take, List.length_reverse, ← HLL.out]; omega
        have HBS := Lib.hid hbs
        have HBL := Lib.hid hbl
        clear hbs hbl
        by_cases hlt3 : i < m
        · have hI2 : decide ((i : Int) < (m : Int)) = true := decide_eq_true (by omega)
          obtain ⟨r, hr⟩ : ∃ r, m = r + i + 1 := ⟨m - i - 1, by omega⟩
          obtain ⟨s, hs⟩ : ∃ s, s + 1 = m := ⟨m - 1, by omega⟩
          have a1 : (m : Int) - 1 = (s : Int) := by omega
          have a2 : IntKind.i64.wrap (s : Int) = (s : Int) := by rw [IntKind.wrap_i64]; omega
          have a3 : (s : Int) - (i : Int) = (r : Int) := by omega
          have a4 : IntKind.i64.wrap (r : Int) = (r : Int) := by rw [IntKind.wrap_i64]; omega
          have hrm : r < m := by omega
          have hrl : r < ls.length := by rw [← HLL.out]; exact hrm
          have hstep : ls.reverse.take (i + 1) = bs ++ [ls[r]] := by
            have hil : i < ls.reverse.length := by rw [List.length_reverse, ← HLL.out]; exact hlt3
            rw [List.take_succ_eq_append_getElem hil, ← HBS.out, List.getElem_reverse]
            congr 2
            have := HLL.out
            congr 1
            omega
          obtain ⟨B3, o3, ya, yn, yc, rfl, c0, hp, hyh⟩ := PredsR.elh (HL.out.ext (HX1.out.trans hx.out)) hrl
          have hok := HLO.out _ (List.getElem_mem hrl)
          have hco := HCO.out _ (List.mem_map.2 ⟨_, List.getElem_mem hrl, rfl⟩ : ls[r].p ∈ psP ls)
          have hym : ∃ y0 ∈ ls, y0 = ls[r] := ⟨_, List.getElem_mem hrl, rfl⟩
          generalize ls[r] = y at *
          have HYM := Lib.hid hym
          clear hym
          have HST := Lib.hid hstep
          have HP := Lib.hid hp
          have HOK := Lib.hid hok
          have HC := Lib.hid hco
          have HYH := Lib.hid hyh
          clear hstep hp hok hco hyh hr hs
          go_upto_region 21 with (at_builtin; refine wpList_append_row 22 25 (.tmp 70) (.tmp 72) rfl w1.heap.size _ 1 24 Tryz.underlying22 infoQ rfl (by decide) rfl _ bs.length (bs.flatMap ppC) rfl (hb.out.ext ((Ext.refl _).alloc _)) 1 [.slice ya yn yc] (lit_Q _ _) (by intro u hu; rw [List.mem_singleton.1 hu]; rfl) (by have := HBL.out; omega) (by have := HBL.out; unfold maxLen; omega) (by rw [World.size_alloc]; have := hx.out.size; omega) ?_; intro v' w6 hown hgrow; have HO := Lib.hid hown; have HG := Lib.hid hgrow; clear hown hgrow)
          have hx6 : Ext w1 w6 := (hx.out.trans ((Ext.refl wr).alloc (.cells #[.slice ya yn yc] 25))).grown_none HG.out (own_base (hb.out.ext ((Ext.refl wr).alloc (.cells #[.slice ya yn yc] 25))))
          have hb6 : OwnQ w6 w1.heap.size v' (bs ++ [y]) := push_own (by have h := HO.out; rw [HYH.out]; exact h)
          rw [← HST.out] at hb6
          have HX6 := Lib.hid hx6
          have HB6 := Lib.hid hb6
          have hp6 : PredR w6 (.slice ya yn yc) y.p := by
            have h0 := HL.out.hs
            have := HYH.out
            obtain ⟨y0, hy0, hy1⟩ : ∃ y0 ∈ ls, y0 = y := HYM.out
            rw [hy1] at hy0
            have h1 := h0 y hy0
            rw [this] at h1
            exact h1.ext (HX1.out.trans hx6)
          have HP6 := Lib.hid hp6
          clear hx6 hb6 hp6 hb HO HG HP hx
          have hmy := pmay_any w6 (.slice ya yn yc) y.p HP6.out
          have HMY := Lib.hid hmy
          clear hmy
          obtain ⟨mb, hmb⟩ : ∃ mb, mb = mayP y.p := ⟨_, rfl⟩
          rw [← hmb] at HMY HC
          clear hmb
          go_wp2_with (go_at_call 10; (with_reducible refine HMY.out.mono ?_); rintro e w7 ⟨rfl, hy⟩; have HX7 := Lib.hid (HX6.out.trans hy); have HB7 := Lib.hid (HB6.out.ext hy); have HP7 := Lib.hid (HP6.out.ext hy); clear hy HX6 HB6 HP6 HMY)
          go_loopw [11, 79] (fun cv jv wr => ∃ (j : Nat) (cb : Bool), j ≤ k ∧ jv = .int .i64 j ∧ cv = .bool cb ∧ Hid (cb = (!mb || (ts.take j).any fun q => coversF q.p y.p)) ∧ Hid (Ext w7 wr)) (fun _ jv _ => k - (intOf jv).toNat)
          case atStart => exact ⟨0, !mb, Nat.zero_le _, rfl, rfl, by show _ = _; simp, Ext.refl _⟩
          case round =>
            obtain ⟨j, cb, hj, rfl, rfl, hcb, hx8⟩ := hrel
            by_cases hjt : j < k
            · have hJ : decide ((j : Int) < (k : Int)) = true := decide_eq_true (by omega)
              have hjl : j < ts.length := by rw [← HTN.out]; exact hjt
              obtain ⟨B4, o4, za, zn, zc, rfl, d0, hq⟩ := PredsR.el (HT.out.preds.ext (HX7.out.trans hx8.out)) hjl
              have hokq := HT.out.ok _ (List.getElem_mem hjl)
              have hany : (ts.take (j + 1)).any (fun q => coversF q.p y.p) = ((ts.take j).any (fun q => coversF q.p y.p) || coversF ts[j].p y.p) := by
                rw [List.take_succ_eq_append_getElem hjl, List.any_append]; simp
              have hcv := covers_any wr _ _ ts[j].p y.p hq (HP7.out.ext hx8.out) hokq HOK.out
              generalize coversF ts[j].p y.p = cc at *
              have HANY := Lib.hid hany
              have HCV := Lib.hid hcv
              clear hany hcv hq hokq
              cases cb
              · have hres : cc = (!mb || (ts.take (j + 1)).any fun q => coversF q.p y.p) := by
                  rw [HANY.out]
                  have h1 := hcb.out
                  cases hm : (!mb) <;> rw [hm] at h1
                  · rw [Bool.false_or] at h1 ⊢
                    rw [← h1, Bool.false_or]
                  · rw [Bool.true_or] at h1; cases h1
                have HRES := Lib.hid hres
                clear hres
                go_wp2_with (go_at_call 9; (with_reducible refine HCV.out.mono ?_); rintro e w9 ⟨rfl, hy⟩; have HX9 := Lib.hid (hx8.out.trans hy); clear hy)
                go_roundw
                case rel => exact ⟨j + 1, cc, hjt, by go_num, rfl, HRES.out, HX9.out⟩
                case measure => simp [intOf]; omega
              · have hres : true = (!mb || (ts.take (j + 1)).any fun q => coversF q.p y.p) := by
                  rw [HANY.out, ← Bool.or_assoc, ← hcb.out, Bool.true_or]
                have HRES := Lib.hid hres
                clear hres
                go_wp2_with fail
                go_roundw
                case rel => exact ⟨j + 1, true, hjt, by go_num, rfl, HRES.out, hx8.out⟩
                case measure => simp [intOf]; omega
            · obtain rfl : j = k := by omega
              have hJ : decide ((j : Int) < (j : Int)) = false := decide_eq_false (by omega)
              have hct : cb = true := by
                rw [hcb.out, List.take_of_length_le (by rw [← HTN.out]; exact Nat.le_refl _)]
                exact HC.out
              clear hcb
              subst hct
              go_wp2_with fail
              go_roundw
              case rel => exact ⟨i + 1, hlt3, by go_num, HB7.out.ext hx8.out, HX7.out.trans hx8.out⟩
              case measure => simp [intOf]; omega
        · obtain rfl : i = m := by omega
          have hI2 : decide ((i : Int) < (i : Int)) = false := decide_eq_false (by omega)
          have hrev : bs = ls.reverse := by rw [HBS.out, List.take_of_length_le (by rw [List.length_reverse, ← HLL.out]; exact Nat.le_refl _)]
          have hmem : ∀ x ∈ bs, x ∈ ls := fun x hx => by rw [hrev] at hx; exact List.mem_reverse.1 hx
          have hsame : maxF (bs.map PP.p) = psP ts := by
            rw [hrev, List.map_reverse, max_turn]
            exact HTM.out.symm
          have HMEM := Lib.hid hmem
          have HSA := Lib.hid hsame
          have hpb : ∀ W', Ext wr W' → PredsR W' u8 bs := fun W' hW => OwnQ.preds (hb.out.ext hW) fun x hm => (HL.out.hs x (HMEM.out x hm)).ext (HX1.out.trans (hx.out.trans hW))
          have hmx := fun W' (hW : Ext wr W') => maximal_any W' u8 bs (hpb W' hW) (fun x hm => HLO.out x (HMEM.out x hm)) (by have := HBL.out; omega)
          have HM2 := Lib.hid hmx
          clear hrev hmem hsame hpb hmx
          go_wp2_with (first
            | (go_at_call 11; (with_reducible refine (awake24_any _).mono ?_); rintro e wa ⟨rfl, hy⟩; have HY := Lib.hid hy; clear hy)
            | (go_at_call 7; (with_reducible refine (HM2.out _ HY.out).mono ?_); rintro e wb ⟨v9, us9, rfl, k1, k2, hy⟩; have HXB := Lib.hid (HY.out.trans hy); have hps := rsameQ_any wb v9 (.slice ta k tc) us9 ts k2.preds (HT.out.preds.ext (hx.out.trans HXB.out)); rw [sameB_yes (show psP us9 = psP ts from k1.trans HSA.out)] at hps; have HSM := Lib.hid hps; clear hps k1 k2 hy HY)
            | (go_at_call 12; (with_reducible refine HSM.out.mono ?_); rintro e wc ⟨rfl, hy⟩; have HXC := Lib.hid (HX1.out.trans (hx.out.trans (HXB.out.trans hy))); clear hy HSM))
          go_ret
          exact ⟨rfl, HXC.out⟩
end Go.Proofs.YtlhbpflcffjhmaaGreat
