/- The same records, walked: bytes.Equal, segment.Same. -/
import Derived.Test.YtkaepcjkpaplfaaDoorN7
namespace Go.Proofs.YtkaepcjkpaplfaaDoor
open Go.RowKit

theorem bequal_any (w : World) (v1 v2 : Value) (l m : List UInt8) (h1 : Bytes w v1 l) (h2 : Bytes w v2 m) :
    Calls Tryd.prog 19 #[v1, v2] w fun e w' => e = .returned (.bool (decide (l = m))) ∧ Ext w w' := by
  by_cases hlm : l = m
  · subst hlm
    have hb := beq_l l
    rw [decide_eq_true rfl]
    go_enter Tryd.func19, Tryd.ntmps19
    go_wp2_with (first | (refine strB (.tmp 5) rfl rfl h1 ?_) | (refine strB (.tmp 7) rfl rfl h2 ?_))
    go_ret
    exact ⟨rfl, Ext.refl w⟩
  · have hbe : (l == m) = false := by simpa using hlm
    have hne : ¬ strOf l = strOf m := fun e => hlm (strOf_inj.1 e)
    rw [decide_eq_false hlm]
    clear hlm
    go_enter Tryd.func19, Tryd.ntmps19
    go_wp2_with (first | (refine strB (.tmp 5) rfl rfl h1 ?_) | (refine strB (.tmp 7) rfl rfl h2 ?_))
    go_ret
    exact ⟨rfl, Ext.refl w⟩

/-- Records that can be read. -/
def Lst (W : World) (v : Value) (xs : List (Nat × List UInt8)) : Prop :=
  ∃ us : List RS, Row W 2 v us.length (rsC us) ∧ us.length = xs.length ∧ ∀ (i : Nat) (u : RS) (x : Nat × List UInt8), us[i]? = some u → xs[i]? = some x → x.1 = u.n ∧ Bytes W (.slice u.a u.m u.c) x.2

theorem Lst.ext {W W' : World} {v : Value} {xs : List (Nat × List UInt8)} (h : Lst W v xs) (hx : Ext W W') : Lst W' v xs := by
  obtain ⟨us, h1, h2, h3⟩ := h
  exact ⟨us, h1.ext hx, h2, fun i u x e1 e2 => ⟨(h3 i u x e1 e2).1, (h3 i u x e1 e2).2.ext hx⟩⟩
theorem row_of_own2 {w : World} {base n : Nat} {v : Value} {xs : List Value} (h : w.ownsRow base 40 2 v n xs) : Row w 2 v n xs := Row.of_own h
theorem Lst.of_own {W : World} {base : Nat} {v : Value} {us : List RS} {xs : List (Nat × List UInt8)} (h : W.ownsRow base 40 2 v us.length (rsC us)) (hr : RecL W base us xs) : Lst W v xs :=
  ⟨us, Row.of_own h, hr.1, fun i u x e1 e2 => ⟨(hr.2 i u x e1 e2).1, (hr.2 i u x e1 e2).2.bytes⟩⟩
theorem Lst.shape {W : World} {v : Value} {xs : List (Nat × List UInt8)} (h : Lst W v xs) : ∃ a cap, v = .slice a xs.length cap ∧ xs.length ≤ cap ∧ cap ≤ maxLen := by
  obtain ⟨us, ⟨_, a, cap, hv, hc, hm, _⟩, h2, _⟩ := h
  exact ⟨a, cap, by rw [hv, h2], by omega, hm⟩

theorem rsC_get (us : List RS) : ∀ (k : Nat), k < us.length → ∃ u, us[k]? = some u ∧ (rsC us)[2 * k]? = some (.int .u64 u.n) ∧ (rsC us)[2 * k + 1]? = some (.slice u.a u.m u.c) := by
  induction us with
  | nil => intro k hk; simp at hk
  | cons u us ih =>
    intro k hk
    have e : rsC (u :: us) = .int .u64 u.n :: .slice u.a u.m u.c :: rsC us := by simp [rsC, RS.cells]
    cases k with
    | zero => exact ⟨u, rfl, by rw [e]; rfl, by rw [e]; rfl⟩
    | succ k =>
      obtain ⟨u', h1, h2, h3⟩ := ih k (by simpa using hk)
      refine ⟨u', by simpa using h1, ?_, ?_⟩
      · rw [e, show 2 * (k + 1) = 2 * k + 1 + 1 by omega]; simpa using h2
      · rw [e, show 2 * (k + 1) + 1 = 2 * k + 1 + 1 + 1 by omega]; simpa using h3

theorem Lst.at {W : World} {a : Option Addr} {n cap : Nat} {xs : List (Nat × List UInt8)} (h : Lst W (.slice a n cap) xs) {k : Nat} (hk : k < xs.length) :
    ∃ B o ad c, a = some ⟨B, o, none⟩ ∧ W.cell? ⟨B, o + k * 2, none⟩ = some (.int .u64 (xs[k].1 : Nat)) ∧ W.cell? ⟨B, o + k * 2 + 1, none⟩ = some (.slice ad xs[k].2.length c) ∧ Bytes W (.slice ad xs[k].2.length c) xs[k].2 := by
  obtain ⟨us, ⟨hl, a', cap', hv, hc, hm, hnil, hspot, hcell⟩, h2, h3⟩ := h
  simp only [Value.slice.injEq] at hv
  obtain ⟨rfl, rfl, rfl⟩ := hv
  obtain ⟨u, hu, hc0, hc1⟩ := rsC_get us k (by omega)
  obtain ⟨hn, hB⟩ := h3 k u xs[k] hu (List.getElem?_eq_getElem hk)
  obtain ⟨p, hp, hcl⟩ := hcell _ _ hc0
  obtain ⟨p', hp', hcl'⟩ := hcell _ _ hc1
  rw [hp] at hp'
  cases hp'
  have hps := hspot p hp (by omega)
  obtain ⟨pb, po, ps⟩ := p
  simp only at hps
  subst hps
  obtain ⟨ad, c, hs, -, -⟩ := hB.shape
  simp only [Value.slice.injEq] at hs
  obtain ⟨rfl, hm', rfl⟩ := hs
  rw [hm'] at hcl' hB
  exact ⟨pb, po, _, _, hp, by rw [hn, Nat.mul_comm]; exact hcl, by rw [Nat.mul_comm]; exact hcl', hB⟩

set_option maxHeartbeats 1000000 in
theorem same1_any (w : World) (n1 n2 : Nat) (v1 v2 : Value) (l m : List UInt8) (h1 : Bytes w v1 l) (h2 : Bytes w v2 m) :
    Calls Tryd.prog 40 #[.agg #[.int .u64 n1, v1], .agg #[.int .u64 n2, v2]] w fun e w' => e = .returned (.bool (decide (n1 = n2 ∧ l = m))) ∧ Ext w w' := by
  obtain ⟨a1, c1, rfl, -, -⟩ := h1.shape
  obtain ⟨a2, c2, rfl, -, -⟩ := h2.shape
  have hxa : Ext w ((w.alloc (.cells #[.int .u64 n1, .slice a1 l.length c1] 40)).alloc (.cells #[.int .u64 n2, .slice a2 m.length c2] 40)) := ((Ext.refl w).alloc _).alloc _
  have k1 := h1.ext hxa
  have k2 := h2.ext hxa
  by_cases hn : n1 = n2
  · subst hn
    have e : decide (n1 = n1 ∧ l = m) = decide (l = m) := by simp
    rw [e]
    clear e
    go_enter Tryd.func40, Tryd.ntmps40
    go_wp2_with fail
    refine (bequal_any _ _ _ l m k1 k2).mono ?_
    rintro e w1 ⟨rfl, hx1⟩
    go_wp2_with fail
    go_ret
    exact ⟨rfl, hxa.trans hx1⟩
  · have hd : ((n1 : Int) == (n2 : Int)) = false := beq_eq_false_iff_ne.2 (by omega)
    have hdn : (n1 == n2) = false := beq_eq_false_iff_ne.2 hn
    have e : decide (n1 = n2 ∧ l = m) = false := decide_eq_false fun h => hn h.1
    rw [e]
    clear e hn
    go_enter Tryd.func40, Tryd.ntmps40
    go_wp2_with fail
    go_ret
    exact ⟨rfl, hxa⟩

theorem take_next2 {α : Type} {l1 l2 : List α} {k : Nat} (h1 : k < l1.length) (h2 : k < l2.length) (ht : l1.take k = l2.take k) (e : l1[k] = l2[k]) : l1.take (k + 1) = l2.take (k + 1) := by
  rw [List.take_succ_eq_append_getElem h1, List.take_succ_eq_append_getElem h2, ht, e]
theorem take_differ2 {α : Type} {l1 l2 : List α} {k : Nat} (h1 : k < l1.length) (h2 : k < l2.length) (e : ¬ l1[k] = l2[k]) : l1 ≠ l2 := by
  intro h; subst h; exact e rfl

set_option maxRecDepth 100000 in
set_option maxHeartbeats 2000000 in
theorem eqfunc_any (w : World) (v1 v2 : Value) (xs ys : List (Nat × List UInt8)) (h1 : Lst w v1 xs) (h2 : Lst w v2 ys) :
    Calls Tryd.prog 39 #[v1, v2, .func (.func 40) #[] #[]] w fun e w' => e = .returned (.bool (decide (xs = ys))) ∧ Ext w w' := by
  obtain ⟨a1, c1, rfl, hc1, hm1⟩ := h1.shape
  obtain ⟨a2, c2, rfl, hc2, hm2⟩ := h2.shape
  unfold maxLen at hm1 hm2
  by_cases hlen : xs.length = ys.length
  · have HL := Lib.hid hlen
    have hd0 : ((xs.length : Int) != (ys.length : Int)) = false := by simp [hlen]
    have hd0n : (xs.length != ys.length) = false := by simp [hlen]
    generalize hR : decide (xs = ys) = R
    have HR := Lib.hid hR
    clear hR
    generalize hn2 : ys.length = n2 at *
    have HN2 := Lib.hid hn2
    generalize hn1 : xs.length = n1 at *
    have HN1 := Lib.hid hn1
    clear hn1 hn2 hlen
    go_enter Tryd.func39, Tryd.ntmps39
    go_wp2_with fail
    go_loopw [17] (fun i wr => ∃ k : Nat, k ≤ n1 ∧ i = .int .i64 k ∧ Hid (xs.take k = ys.take k) ∧ Ext w wr) (fun i _ => n1 - (intOf i).toNat)
    case atStart => exact ⟨0, Nat.zero_le _, rfl, rfl, Ext.refl w⟩
    case round =>
      obtain ⟨k, hk, rfl, htk, hx⟩ := hrel
      by_cases hlt : k < n1
      · have k1 : k < xs.length := by rw [HN1.out]; exact hlt
        have k2 : k < ys.length := by rw [HN2.out, ← HL.out]; exact hlt
        have hlt2 : k < n2 := by rw [← HL.out]; exact hlt
        obtain ⟨B1, o1, ad1, cc1, rfl, f1, f2, f3⟩ := h1.at k1
        obtain ⟨B2, o2, ad2, cc2, rfl, g1, g2, g3⟩ := h2.at k2
        have hnx := fun e => take_next2 k1 k2 htk.out e
        have hdf := fun e => take_differ2 k1 k2 e
        generalize xs[k] = x at *
        generalize ys[k] = y at *
        have F1 := hx.cell f1
        have F2 := hx.cell f2
        have G1 := (hx.alloc (.cells #[.int .u64 x.1, .slice ad1 x.2.length cc1] 40)).cell g1
        have G2 := (hx.alloc (.cells #[.int .u64 x.1, .slice ad1 x.2.length cc1] 40)).cell g2
        have hxa := (hx.alloc (.cells #[.int .u64 x.1, .slice ad1 x.2.length cc1] 40)).alloc (.cells #[.int .u64 y.1, .slice ad2 y.2.length cc2] 40)
        have B1' := f3.ext hxa
        have B2' := g3.ext hxa
        go_wp2_with fail
        refine (same1_any _ x.1 y.1 _ _ x.2 y.2 B1' B2').mono ?_
        rintro e w2 ⟨rfl, hx2⟩
        replace hx2 := hxa.trans hx2
        clear F1 F2 G1 G2 B1' B2' hxa
        by_cases he : x.1 = y.1 ∧ x.2 = y.2
        · rw [decide_eq_true he]
          have hnext := Lib.hid (hnx (Prod.ext he.1 he.2))
          clear hnx hdf he
          go_wp2_with fail
          go_roundw
          case rel => exact ⟨k + 1, hlt, by go_num, hnext, hx2⟩
          case measure => simp [intOf]; omega
        · rw [decide_eq_false he]
          have hres : Hid (R = false) := by
            show _ = _
            rw [← HR.out]
            exact decide_eq_false (hdf fun e => he (by rw [e]; exact ⟨rfl, rfl⟩))
          clear hnx hdf he
          go_wp2_with fail
          go_ret
          exact ⟨by rw [hres.out]; rfl, hx2⟩
      · obtain rfl : k = n1 := by omega
        have hres : Hid (R = true) := by
          show _ = _
          rw [← HR.out]
          have h := htk.out
          rw [List.take_of_length_le (by rw [HN1.out]; exact Nat.le_refl _), List.take_of_length_le (by rw [HN2.out, ← HL.out]; exact Nat.le_refl _)] at h
          exact decide_eq_true h
        go_wp2_with fail
        go_ret
        exact ⟨by rw [hres.out]; rfl, hx⟩
  · have hR : decide (xs = ys) = false := decide_eq_false fun e => hlen (by rw [e])
    rw [hR]
    clear hR
    have hd0 : ((xs.length : Int) != (ys.length : Int)) = true := by simp; omega
    have hd0n : (xs.length != ys.length) = true := by simp; omega
    generalize ys.length = n2 at *
    generalize xs.length = n1 at *
    go_enter Tryd.func39, Tryd.ntmps39
    go_wp2_with fail
    go_ret
    exact ⟨rfl, Ext.refl w⟩

theorem segsame_any (w : World) (v1 v2 : Value) (xs ys : List (Nat × List UInt8)) (h1 : Lst w v1 xs) (h2 : Lst w v2 ys) :
    Calls Tryd.prog 22 #[v1, v2] w fun e w' => e = .returned (.bool (decide (xs = ys))) ∧ Ext w w' := by
  go_enter Tryd.func22, Tryd.ntmps22
  go_wp2_with fail
  refine (eqfunc_any _ _ _ xs ys h1 h2).mono ?_
  rintro e w1 ⟨rfl, hx1⟩
  go_wp2_with fail
  go_ret
  exact ⟨rfl, hx1⟩

end Go.Proofs.YtkaepcjkpaplfaaDoor
