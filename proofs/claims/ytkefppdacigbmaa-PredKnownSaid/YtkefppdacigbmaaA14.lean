/- slices.CompareFunc at values; the order of constraints. -/
import Derived.Test.YtkefppdacigbmaaA13
namespace Go.Proofs.Ytkefppdacigbmaa
open Go.RowKit

theorem cmpL_step {α : Type} {cf : α → α → Int} {l m : List α} {k : Nat} (h1 : k < l.length) (h2 : k < m.length) (h : cf l[k] m[k] = 0) : cmpL cf (l.drop k) (m.drop k) = cmpL cf (l.drop (k + 1)) (m.drop (k + 1)) := by
  rw [List.drop_eq_getElem_cons h1, List.drop_eq_getElem_cons h2, cmpL, if_pos h]
theorem cmpL_stop {α : Type} {cf : α → α → Int} {l m : List α} {k : Nat} (h1 : k < l.length) (h2 : k < m.length) (h : cf l[k] m[k] ≠ 0) : cmpL cf (l.drop k) (m.drop k) = cf l[k] m[k] := by
  rw [List.drop_eq_getElem_cons h1, List.drop_eq_getElem_cons h2, cmpL, if_neg h]
theorem cmpL_more {α : Type} {cf : α → α → Int} {l m : List α} {k : Nat} (h1 : k < l.length) (h2 : m.length ≤ k) : cmpL cf (l.drop k) (m.drop k) = 1 := by
  rw [List.drop_eq_getElem_cons h1, List.drop_eq_nil_of_le h2, cmpL]
theorem cmpL_less {α : Type} {cf : α → α → Int} {l m : List α} {k : Nat} (h1 : l.length ≤ k) (h2 : k < m.length) : cmpL cf (l.drop k) (m.drop k) = -1 := by
  rw [List.drop_eq_getElem_cons h2, List.drop_eq_nil_of_le h1, cmpL]
theorem cmpL_same {α : Type} {cf : α → α → Int} {l m : List α} {k : Nat} (h1 : l.length ≤ k) (h2 : m.length ≤ k) : cmpL cf (l.drop k) (m.drop k) = 0 := by
  rw [List.drop_eq_nil_of_le h2, List.drop_eq_nil_of_le h1, cmpL]

set_option maxRecDepth 100000 in
set_option maxHeartbeats 4000000 in
theorem cmpf122_any (w : World) (v1 v2 : Value) (l m : List V) (h1 : SetR w v1 l) (h2 : SetR w v2 m) (g : Nat) (cb : Array Value) (cf : V → V → Int) (eg : ∀ args w, (callFunc g args).run Try.prog w = .ok (.enter g args) w)
    (hc : ∀ (W : World) (x y : V), Calls Try.prog g (#[.agg #[.int .i64 x.k, .int .i64 x.n, .string (strOf x.s), .bool x.b], .agg #[.int .i64 y.k, .int .i64 y.n, .string (strOf y.s), .bool y.b]] ++ cb) W fun e W' => e = .returned (.int .i64 (cf x y)) ∧ Grew W W') :
    Calls Try.prog 122 #[v1, v2, .func (.func g) #[] cb] w fun e w' => e = .returned (.int .i64 (cmpL cf l m)) ∧ Grew w w' := by
  obtain ⟨a1, cap1, rfl, hc1, hm1⟩ := Row.shape h1
  obtain ⟨a2, cap2, rfl, hc2, hm2⟩ := Row.shape h2
  unfold maxLen at hm1 hm2
  generalize hn1 : l.length = n1 at *
  generalize hn2 : m.length = n2 at *
  have HN1 := Lib.hid hn1
  have HN2 := Lib.hid hn2
  clear hn1 hn2
  have HC := Lib.hid hc
  clear hc
  go_enter Try.func122, Try.ntmps122
  go_wp2_with fail
  go_loopw [7, 8, 9, 10, 13] (fun _ _ _ _ i wr => ∃ k : Nat, k ≤ n1 ∧ k ≤ n2 ∧ i = .int .i64 k ∧ Hid (cmpL cf (l.drop k) (m.drop k) = cmpL cf l m) ∧ Grew w wr) (fun _ _ _ _ i _ => n1 - (intOf i).toNat)
  case atStart => exact ⟨0, Nat.zero_le _, Nat.zero_le _, rfl, rfl, Grew.refl w⟩
  case round =>
    obtain ⟨k, hk, hkm, rfl, hcm, hx⟩ := hrel
    by_cases hlt : k < n1
    · have k1 : k < l.length := by rw [HN1.out]; exact hlt
      have hI : decide ((k : Int) < (n1 : Int)) = true := decide_eq_true (by omega)
      obtain ⟨B1, o1, rfl, f0, f1, f2, f3⟩ := SetR.at (h1.ext hx.1) k1
      by_cases hlm : k < n2
      · have k2 : k < m.length := by rw [HN2.out]; exact hlm
        have hI2 : decide ((n2 : Int) ≤ (k : Int)) = false := decide_eq_false (by omega)
        obtain ⟨B2, o2, rfl, g0, g1, g2, g3⟩ := SetR.at (h2.ext hx.1) k2
        have hcall := fun W => HC.out W l[k] m[k]
        have hst : cf l[k] m[k] = 0 → cmpL cf (l.drop (k + 1)) (m.drop (k + 1)) = cmpL cf l m := fun h => by rw [← cmpL_step k1 k2 h, hcm.out]
        have hsp : cf l[k] m[k] ≠ 0 → cmpL cf l m = cf l[k] m[k] := fun h => by rw [← hcm.out, cmpL_stop k1 k2 h]
        generalize l[k] = x at *
        generalize m[k] = y at *
        have hxb : ∀ o : Obj, Grew w (wr.alloc o) := fun o => hx.alloc o
        have q0 := ((Ext.refl wr).alloc (.cells #[.int .i64 x.k, .int .i64 x.n, .string (strOf x.s), .bool x.b] 28)).cell g0
        have q1 := ((Ext.refl wr).alloc (.cells #[.int .i64 x.k, .int .i64 x.n, .string (strOf x.s), .bool x.b] 28)).cell g1
        have q2 := ((Ext.refl wr).alloc (.cells #[.int .i64 x.k, .int .i64 x.n, .string (strOf x.s), .bool x.b] 28)).cell g2
        have q3 := ((Ext.refl wr).alloc (.cells #[.int .i64 x.k, .int .i64 x.n, .string (strOf x.s), .bool x.b] 28)).cell g3
        by_cases hz : cf x y = 0
        · have hres := Lib.hid (hst hz)
          rw [hz] at hcall
          have HCALL := Lib.hid hcall
          clear hz hst hsp hcall
          go_wp2_with (go_at_fn g; refine (HCALL.out _).mono ?_; rintro e w3 ⟨rfl, hx3⟩)
          go_roundw
          case rel => exact ⟨k + 1, hlt, hlm, by go_num, hres, (((hx.alloc _).alloc _).trans hx3)⟩
          case measure => simp [intOf]; omega
        · have hres := Lib.hid (hsp hz)
          have hd : (cf x y != 0) = true := by simp [hz]
          have hd1 := beq_int_ne hz
          generalize cf x y = r at *
          have HCALL := Lib.hid hcall
          clear hz hst hsp hcall
          go_wp2_with (go_at_fn g; refine (HCALL.out _).mono ?_; rintro e w3 ⟨rfl, hx3⟩)
          go_ret
          exact ⟨by rw [hres.out]; rfl, (((hx.alloc _).alloc _).trans hx3)⟩
      · obtain rfl : k = n2 := by omega
        have hI2 : decide ((k : Int) ≤ (k : Int)) = true := decide_eq_true (by omega)
        have hres : Hid (cmpL cf l m = 1) := by show _ = _; rw [← hcm.out, cmpL_more k1 (by rw [HN2.out]; omega)]
        generalize l[k] = x at *
        go_wp2_with fail
        go_ret
        exact ⟨by rw [hres.out]; rfl, hx.alloc _⟩
    · obtain rfl : k = n1 := by omega
      have hI : decide ((k : Int) < (k : Int)) = false := decide_eq_false (by omega)
      by_cases hlm : k < n2
      · have hI2 : decide ((k : Int) < (n2 : Int)) = true := decide_eq_true (by omega)
        have hres : Hid (cmpL cf l m = -1) := by show _ = _; rw [← hcm.out, cmpL_less (by rw [HN1.out]; omega) (by rw [HN2.out]; exact hlm)]
        go_wp2_with fail
        go_ret
        exact ⟨by rw [hres.out]; rfl, hx⟩
      · have hI2 : decide ((k : Int) < (n2 : Int)) = false := decide_eq_false (by omega)
        have hres : Hid (cmpL cf l m = 0) := by show _ = _; rw [← hcm.out, cmpL_same (by rw [HN1.out]; omega) (by rw [HN2.out]; omega)]
        go_wp2_with fail
        go_ret
        exact ⟨by rw [hres.out]; rfl, hx⟩
end Go.Proofs.Ytkefppdacigbmaa
