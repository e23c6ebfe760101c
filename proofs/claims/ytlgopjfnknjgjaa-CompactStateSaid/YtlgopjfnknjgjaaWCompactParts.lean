/- CompactParts, walked. -/
import Derived.Test.YtlgopjfnknjgjaaU16
import Derived.Test.YtlgopjfnknjgjaaD12
import Derived.Test.YtlgopjfnknjgjaaD13
import Derived.Test.YtlgopjfnknjgjaaD11
import Derived.Test.YtlgopjfnknjgjaaR2
namespace Go.Proofs.Ytlgopjfnknjgjaa
open Go.RowKit Go.MapKept

theorem iCut {ops : Array Oper} {Q : Exit → Act → World → Prop} {a : Act} {w : World} {rest : List Oper} {o : Oper}
    (x : Operand) (lo hi : Option Operand) (us : List IT) (n i j : Nat)
    (ho : o.op = .slice 22 x lo hi none)
    (hw : Region.wanted o (yielded ops a.tmps) = true) (hx : Row w 4 (a.eval x) n (us.flatMap iC))
    (hlo : BoundIs a lo 0 i) (hhi : BoundIs a hi n j) (hij : i ≤ j) (hj : j ≤ n)
    (h : ∀ v, Row w 4 v (j - i) (((us.take j).drop i).flatMap iC) → wpList Try.prog ops Q rest (a.put o.dst v) w) : wpList Try.prog ops Q (o :: rest) a w := by
  refine wpList_cut 22 33 x lo hi 4 n i j _ ho Try.underlying22 (by kernel_rfl) hw hx hlo hhi hij hj fun v hv => h v ?_
  rw [flat_take iC 4 iC_len, flat_drop iC 4 iC_len] at hv
  exact hv

theorem wpList_min2 {P : Program} {ops : Array Oper} {Q : Exit → Act → World → Prop} {a : Act} {w : World} {rest : List Oper} {o : Oper} (x y : Operand) (ts : Array TypeId)
    (ho : o.op = .call { callee := .builtin .min, args := #[x, y], argTypes := ts }) (hw : Region.wanted o (yielded ops a.tmps) = true) (p q : Int) (r : Nat)
    (hx : a.eval x = .int .i64 p) (hy : a.eval y = .int .i64 q) (hr : min p q = r)
    (h : wpList P ops Q rest (a.put o.dst (.int .i64 r)) w) : wpList P ops Q (o :: rest) a w := by
  refine wpList_val hw ?_ h
  have hr2 := run_min_int2 (P := P) (w := w) ts o.type .i64 .i64 p q
  have e : (if q < p then q else p) = (r : Int) := by rw [← hr]; split <;> omega
  rw [e] at hr2
  simp [execOp, ho, resolve, invoke, builtin, hx, hy, hr2, Result.andThen]
theorem stays_mem (q : List IT) : ∀ x ∈ staysI q, x ∈ q := fun _ hx => pickK_mem hx
theorem ext_name2 {w w2 : World} (h : Ext w w2) : ∃ wc, wc = w2 ∧ Ext w wc := ⟨w2, rfl, h⟩
theorem own_zeroI {w : World} {b n : Nat} {v : Value} {xs : List Value} (h : w.ownsRow b 33 4 v (0 + n) ([] ++ xs)) : w.ownsRow b 33 4 v n xs := by
  rw [Nat.zero_add, List.nil_append] at h; exact h
set_option maxRecDepth 100000 in
set_option maxHeartbeats 8000000 in
theorem compactParts_walk (w : World) (vl : Value) (us : List IT) (hi : ItemR w vl us) (hb : ∀ x ∈ us, okI x) : Calls Try.prog 3 #[vl] w fun e w' => e = .returned (.bool true) ∧ Ext w w' := by
  obtain ⟨a, cap, rfl, hc, hmx⟩ := hi.shape
  unfold maxLen at hmx
  have hr := hi.row
  generalize hN : us.length = N at *
  obtain ⟨m, hm⟩ : ∃ m, m = min N 300 := ⟨_, rfl⟩
  have qm : min (N : Int) 300 = (m : Int) := by omega
  have hql : (us.take m).length = m := by rw [List.length_take]; omega
  have hqb : ∀ x ∈ us.take m, okI x := fun x hx => hb x (List.mem_of_mem_take hx)
  have hm1 : m ≤ 300 := by omega
  have hm2 : m ≤ N := by omega
  have HR := Lib.hid hr
  have HQL := Lib.hid hql
  have HQB := Lib.hid hqb
  have hone := ItemR.one (l := us.take m) (fun x hx => (hqb x hx).2)
  have HONE := Lib.hid hone
  clear hone hi hb hN hm hr hql hqb
  generalize ht : us.take m = q at *
  have HT := Lib.hid ht
  clear ht
  have hb1 : (0 + m) * 56 ≤ 140737488355328 := by omega
  have hb2 : 0 + m ≤ maxLen := by unfold maxLen; omega
  go_enter Try.func3, Try.ntmps3
  go_upto_region 3 with (first
    | (refine wpList_min2 (.tmp 10) (.const (.int .i64 300)) _ rfl rfl _ _ m rfl rfl qm ?_)
    | (refine iCut (.tmp 8) none (some (.tmp 11)) us N 0 m rfl rfl HR.out rfl ⟨_, _, rfl, by omega, by omega⟩ (Nat.zero_le _) hm2 ?_; intro v12 h12; rw [List.drop_zero, HT.out, Nat.sub_zero] at h12; obtain ⟨al, cl, rfl, _, _⟩ := Row.shape h12; have H12 := Lib.hid h12; clear h12)
    | (at_builtin; (refine wpList_append_row 22 33 (.const (.slice none 0 0)) (.tmp 13) rfl w.heap.size _ 4 56 Try.underlying22 info33t rfl (by decide) rfl (.slice none 0 0) 0 [] rfl (own_none _ _ _ _) m (q.flatMap iC) H12.out HONE.out hb1 hb2 (Nat.le_refl _) ?_); intro vm w1 hown2 hg; have HM := Lib.hid (own_zeroI hown2); have HX1 := Lib.hid ((Ext.refl w).grown_none (v := .slice none 0 0) hg (fun q hq => by cases hq)); clear hown2 hg))
  have hi1 : ItemR w1 (.slice al m cl) q := ⟨by rw [HQL.out]; exact H12.out.ext HX1.out, fun x hx => (HQB.out x hx).2⟩
  have hm1' : ItemR w1 vm q := ⟨by rw [HQL.out]; exact Row.of_own HM.out, fun x hx => (HQB.out x hx).2⟩
  have HI := Lib.hid hi1
  have HMI := Lib.hid hm1'
  have HB1 : Hid (∀ x ∈ q, x.n < 18446744073709551616) := fun x hx => (HQB.out x hx).1
  clear hi1 hm1' H12 HM
  go_upto_region 4 with (first
    | (go_at_call 12; (with_reducible refine (doubles_any sort500 _ _ _ HMI.out (by rw [HQL.out]; omega) (by rw [HQL.out]; omega) HB1.out).mono ?_); rintro e w2 ⟨v4, rfl, h, hx⟩; have HD := Lib.hid h; have HX2 := Lib.hid hx; clear h hx)
    | (go_at_call 13; (with_reducible refine (stays_any _ _ _ (HMI.out.ext HX2.out) (by rw [HQL.out]; omega)).mono ?_); rintro e w3 ⟨v5, rfl, h, hx⟩; have HS := Lib.hid h; have HX3 := Lib.hid hx; clear h hx))
  have hsl := stays_mem q
  obtain ⟨sa, cs, rfl, hcs, hms⟩ := own_shape HS.out
  unfold maxLen at hms
  have has : 0 < (staysI q).length → ∃ g, sa = some ⟨g, 0, none⟩ ∧ w2.heap.size ≤ g := by
    intro h0
    rcases HS.out.2 with ⟨e, _⟩ | ⟨g, c, cur, e, hb, _⟩
    · simp only [Value.slice.injEq] at e; omega
    · simp only [Value.slice.injEq] at e; exact ⟨g, e.1, hb⟩
  have hsb : ∀ x ∈ staysI q, x.n < 18446744073709551616 := fun x hx => (HQB.out x (hsl x hx)).1
  have hss : ∀ x ∈ staysI q, ∃ a n c, x.h = .slice a n c := fun x hx => (HQB.out x (hsl x hx)).2
  have HAS := Lib.hid has
  have HSB := Lib.hid hsb
  have HSS := Lib.hid hss
  clear hsl has hsb hss
  have dbl : ∀ W, Ext w2 W → ∀ v, (∃ b, W.ownsRow b 28 1 v (doublesF (q.map nkOf)).length ((doublesF (q.map nkOf)).map uC)) → ∀ W', Ext W W' → Calls Try.prog 14 #[v4, v] W' fun e w' => e = .returned (.bool true) ∧ Ext W' w' := fun W hx v ⟨b, h⟩ W' hx' =>
    numbers_yes W' v4 v (doublesF (q.map nkOf)) (Row.of_own (own_ext HD.out (hx.trans hx'))) (Row.of_own (own_ext h hx'))
  have HNU := Lib.hid dbl
  clear dbl
  go_upto_region 5 with (first
    | (go_at_call 15; (with_reducible refine (rdoubles_any _ _ _ (HI.out.ext (HX2.out.trans HX3.out)) (by rw [HQL.out]; omega)).mono ?_); rintro e w4 ⟨v21, rfl, h, hx⟩; have HRD := Lib.hid h; have HX4 := Lib.hid hx; clear h hx)
    | (go_at_call 14; (with_reducible refine (HNU.out _ (HX3.out.trans HX4.out) _ ⟨_, HRD.out⟩ _ (Ext.refl _)).mono ?_); rintro e w5 ⟨rfl, hx⟩; have HX5 := Lib.hid (HX4.out.trans hx); clear hx)
    | (go_at_call 17; (with_reducible refine (rstays_any _ _ _ (HI.out.ext ((HX2.out.trans HX3.out).trans HX5.out)) (by rw [HQL.out]; omega)).mono ?_); rintro e w6 ⟨v26, rfl, h, hx⟩; have HRS := Lib.hid h; have HX6 := Lib.hid (HX5.out.trans hx); clear h hx)
    | (go_at_call 16; (with_reducible refine (same_yes _ _ _ (staysI q) (staysI q) ⟨Row.of_own (own_ext HS.out HX6.out), HSS.out⟩ ⟨Row.of_own HRS.out, HSS.out⟩ rfl).mono ?_); rintro e w7 ⟨rfl, hx⟩; have HX7 := Lib.hid (HX6.out.trans hx); clear hx))
  have HXX := Lib.hid (HX3.out.trans HX7.out)
  have hos : OwnI w2.heap.size w7 (.slice sa (staysI q).length cs) (staysI q) := own_ext HS.out HX7.out
  have HOS := Lib.hid hos
  have HX12 := Lib.hid (HX1.out.trans HX2.out)
  have HLS : Hid ((staysI q).length ≤ m) := by have := pickF_le (fun i => !goesF (q.map nkOf) i) q; rw [HQL.out] at this; exact this
  clear hos HX3 HX4 HX5 HX6 HX7 HRD HRS HS HNU HD HSS
  generalize staysI q = s0 at *
  generalize hsl : s0.length = sl at *
  have HSL := Lib.hid hsl
  clear hsl
  go_upto_region 6 with fail
  go_loopw [7] (fun i wr => ∃ k : Nat, k ≤ sl ∧ i = .int .i64 k ∧ Hid (∃ cur : List IT, cur.length = sl ∧ (∀ x ∈ cur, x.n < 18446744073709551616) ∧ OwnI w2.heap.size wr (.slice sa sl cs) cur) ∧ Hid (Ext w2 wr)) (fun i _ => sl - (intOf i).toNat)
  case atStart => exact ⟨0, Nat.zero_le _, rfl, ⟨s0, HSL.out, HSB.out, HOS.out⟩, HXX.out⟩
  case round =>
    obtain ⟨k, hk, rfl, hown, hxr⟩ := hrel
    have hlm := HLS.out
    by_cases hlt : k < sl
    · have hI : decide ((k : Int) < (sl : Int)) = true := decide_eq_true (by omega)
      have hkN : (k : Int) < (sl : Int) := by omega
      obtain ⟨g, rfl, hg⟩ := HAS.out (by omega)
      obtain ⟨cur, hcl, hcb, ho⟩ := hown.out
      have hkl : k < cur.length := by omega
      have hcell : wr.cell? ⟨g, k * 4, none⟩ = some (.int .u64 cur[k].n) := ho.cellN hkl
      have hnb := hcb _ (List.getElem_mem hkl)
      obtain ⟨m1, hm1, e1⟩ : ∃ m1 : Nat, m1 < 18446744073709551616 ∧ IntKind.u64.wrap ((cur[k].n : Int) + 1) = (m1 : Int) := ⟨(IntKind.u64.wrap ((cur[k].n : Int) + 1)).toNat, by have := wrap_bd ((cur[k].n : Int) + 1); omega, by have := wrap_bd ((cur[k].n : Int) + 1); omega⟩
      have ho2 : OwnI w2.heap.size wr (.slice (some ⟨g, 0, none⟩) cur.length cs) cur := by rw [hcl]; exact ho
      have hfr := own_free ho2 (k * 4)
      have hset := own_setN ho2 hkl m1
      have hx2 : Ext w2 (wr.setCell ⟨g, k * 4, none⟩ (.int .u64 m1)) := hxr.out.grown_none (v := .slice (some ⟨g, 0, none⟩) sl cs) hset.2 (fun k hk => by simp only [Value.ownBlock, Option.some.injEq] at hk; omega)
      have hnew : Hid (∃ cur' : List IT, cur'.length = sl ∧ (∀ x ∈ cur', x.n < 18446744073709551616) ∧ OwnI w2.heap.size (wr.setCell ⟨g, k * 4, none⟩ (.int .u64 m1)) (.slice (some ⟨g, 0, none⟩) sl cs) cur') := by
        refine ⟨cur.set k (withN cur[k] m1), by rw [List.length_set]; exact hcl, fun x hx => ?_, ?_⟩
        · rcases List.mem_or_eq_of_mem_set hx with h | rfl
          · exact hcb x h
          · exact hm1
        · have h := hset.1
          rw [hcl] at h
          exact h
      have HNEW := Lib.hid hnew
      have HX2 := Lib.hid hx2
      clear hset ho2 ho hcb hnew hx2 hown hxr
      generalize hcn : cur[k].n = nn at *
      clear hcn
      go_wp2_with fail
      go_roundw
      case rel => exact ⟨k + 1, hlt, by go_num, HNEW.out.out, HX2.out⟩
      case measure => simp [intOf]; omega
    · obtain rfl : k = sl := by omega
      have hI : decide ((k : Int) < (k : Int)) = false := decide_eq_false (by omega)
      have HXR := Lib.hid hxr.out
      clear hown hxr
      go_wp2_with (first
        | (go_at_call 16; (with_reducible refine (same_yes _ _ _ q q (HMI.out.ext (HX2.out.trans HXR.out)) (HI.out.ext (HX2.out.trans HXR.out)) rfl).mono ?_); rintro e w8 ⟨rfl, hx⟩; have HX8 := Lib.hid (HXR.out.trans hx); clear hx)
        | (go_at_call 18; (with_reducible refine (wakes_any _).mono ?_); rintro e w9 ⟨rfl, hx⟩; have HX9 := Lib.hid (HX8.out.trans hx); clear hx))
      go_ret
      exact ⟨rfl, HX12.out.trans HX9.out⟩
end Go.Proofs.Ytlgopjfnknjgjaa
