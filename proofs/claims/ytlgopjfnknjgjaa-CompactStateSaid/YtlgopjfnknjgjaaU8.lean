/- choosePivotOrdered at uint64 (56): the pivot lies in the range, the hint is one of three. -/
import Derived.Test.YtlgopjfnknjgjaaU7
namespace Go.Proofs.Ytlgopjfnknjgjaa
open Go.RowKit

def Pivot (a b : Nat) (w : World) (e : Ending) (w' : World) : Prop := ∃ p h : Nat, e = .returned (.tuple #[.int .i64 p, .int .i64 h]) ∧ a ≤ p ∧ p < b ∧ h ≤ 2 ∧ Ext w w'
theorem ext_of_swap {w w0 w' : World} {s : Nat} (hx : Ext w w0) (hs : w.heap.size ≤ s) (hg : w0.grownBy w' (some s)) : Ext w w' :=
  hx.grown_none (v := .slice (some ⟨s, 0, none⟩) 0 0) hg (fun k hk => by simp only [Value.ownBlock, Option.some.injEq] at hk; omega)

set_option maxRecDepth 100000 in
set_option maxHeartbeats 16000000 in
theorem pivot_any (base g cap : Nat) (d : Array Nat) (a b : Nat) (w : World) (ho : UO base g cap w d) (hab : a < b) (hb : b ≤ d.size) (hsz : d.size ≤ 1000000) :
    Calls Try.prog 56 #[.slice (some ⟨g, 0, none⟩) d.size cap, .int .i64 a, .int .i64 b] w (Pivot a b w) := by
  have HO := Lib.hid ho
  have hx0 : Ext w (w.alloc (.cells #[.int .i64 0] 3)) := (Ext.refl w).alloc _
  have hs0 : SwB w.heap.size (w.alloc (.cells #[.int .i64 0] 3)) 0 := heap_alloc_new w _
  have HX0 := Lib.hid hx0
  have HS0 := Lib.hid hs0
  clear ho hx0 hs0
  generalize hN : d.size = N at *
  have HN := Lib.hid hN
  clear hN
  obtain ⟨l0, hl0⟩ : ∃ x, x = b - a := ⟨_, rfl⟩
  obtain ⟨q, hq⟩ : ∃ x, x = l0 / 4 := ⟨_, rfl⟩
  obtain ⟨q2, hq2⟩ : ∃ x, x = q * 2 := ⟨_, rfl⟩
  obtain ⟨q3, hq3⟩ : ∃ x, x = q * 3 := ⟨_, rfl⟩
  obtain ⟨i0, hi0⟩ : ∃ x, x = a + q := ⟨_, rfl⟩
  obtain ⟨j0, hj0⟩ : ∃ x, x = a + q2 := ⟨_, rfl⟩
  obtain ⟨k0, hk0⟩ : ∃ x, x = a + q3 := ⟨_, rfl⟩
  have e1 : (b : Int) - (a : Int) = (l0 : Int) := by omega
  have e2 : (l0 : Int) / 4 = (q : Int) := by omega
  have e3 : (q : Int) * 2 = (q2 : Int) := by omega
  have e4 : (q : Int) * 3 = (q3 : Int) := by omega
  have e5 : (a : Int) + (q : Int) = (i0 : Int) := by omega
  have e6 : (a : Int) + (q2 : Int) = (j0 : Int) := by omega
  have e7 : (a : Int) + (q3 : Int) = (k0 : Int) := by omega
  have b1 : l0 ≤ N := by omega
  have b2 : q ≤ l0 := by omega
  have b3 : q3 ≤ l0 := by omega
  have b4 : q2 ≤ l0 := by omega
  have c1 : a ≤ i0 ∧ i0 < b := by omega
  have c2 : a ≤ j0 ∧ j0 < b := by omega
  have c3 : a ≤ k0 ∧ k0 < b := by omega
  have d1 : 8 ≤ l0 → a < i0 ∧ i0 + 1 < b ∧ a < j0 ∧ j0 + 1 < b ∧ a < k0 ∧ k0 + 1 < b := by omega
  have C1 := Lib.hid c1
  have C2 := Lib.hid c2
  have C3 := Lib.hid c3
  have D1 := Lib.hid d1
  clear hl0 hq hq2 hq3 hi0 hj0 hk0 c1 c2 c3 d1
  have m2 := HS0.out.cell
  by_cases h8 : 8 ≤ l0
  · have hI : decide ((8 : Int) ≤ (l0 : Int)) = true := decide_eq_true (by omega)
    have hI' : 8 ≤ l0 := h8
    have hd := D1.out h8
    by_cases h50 : 50 ≤ l0
    · have hI2 : decide ((50 : Int) ≤ (l0 : Int)) = true := decide_eq_true (by omega)
      have A1 := Lib.hid (adj_any base g cap w.heap.size 0 d i0 _ (HO.out.ext HX0.out) HS0.out (by omega) (by rw [HN.out]; omega) (by rw [HN.out]; exact hsz) (by decide))
      rw [HN.out] at A1
      clear hd
      go_enter Try.func56, Try.ntmps56
      go_upto_region 9 with ((with_reducible refine A1.out.mono ?_); rintro e w1 ⟨x1, rfl, hx, ⟨n1, u1, u2, s1⟩, g1⟩; have X1 := Lib.hid hx; have S1 := Lib.hid s1; have G1 := Lib.hid g1; have U1 := Lib.hid (And.intro u1 u2); clear hx s1 g1 u1 u2)
      have o1 := (HO.out.ext HX0.out).kept HS0.out G1.out
      have A2 := Lib.hid (adj_any base g cap w.heap.size n1 d j0 w1 o1 S1.out (by have := D1.out h8; omega) (by rw [HN.out]; have := D1.out h8; omega) (by rw [HN.out]; exact hsz) (by have := U1.out; omega))
      rw [HN.out] at A2
      have O1 := Lib.hid o1
      clear o1 m2
      go_upto_region 10 with ((with_reducible refine A2.out.mono ?_); rintro e w2 ⟨x2, rfl, hx, ⟨n2, u1, u2, s1⟩, g1⟩; have X2 := Lib.hid hx; have S2 := Lib.hid s1; have G2 := Lib.hid g1; have U2 := Lib.hid (And.intro u1 u2); clear hx s1 g1 u1 u2)
      have o2 := O1.out.kept S1.out G2.out
      have A3 := Lib.hid (adj_any base g cap w.heap.size n2 d k0 w2 o2 S2.out (by have := D1.out h8; omega) (by rw [HN.out]; have := D1.out h8; omega) (by rw [HN.out]; exact hsz) (by have := U1.out; have := U2.out; omega))
      rw [HN.out] at A3
      have O2 := Lib.hid o2
      clear o2
      go_upto_region 11 with ((with_reducible refine A3.out.mono ?_); rintro e w3 ⟨x3, rfl, hx, ⟨n3, u1, u2, s1⟩, g1⟩; have X3 := Lib.hid hx; have S3 := Lib.hid s1; have G3 := Lib.hid g1; have U3 := Lib.hid (And.intro u1 u2); clear hx s1 g1 u1 u2)
      have o3 := O2.out.kept S2.out G3.out
      have hxr : (a ≤ x1 ∧ x1 < b) ∧ (a ≤ x2 ∧ x2 < b) ∧ (a ≤ x3 ∧ x3 < b) := by have h1 := D1.out h8; have h2 := X1.out; have h3 := X2.out; have h4 := X3.out; omega
      have A4 := Lib.hid (median_any base g cap w.heap.size n3 d x1 x2 x3 w3 o3 S3.out (by rw [HN.out]; omega) (by rw [HN.out]; omega) (by rw [HN.out]; omega) (by rw [HN.out]; exact hsz) (by have := U1.out; have := U2.out; have := U3.out; omega))
      rw [HN.out] at A4
      have XR := Lib.hid hxr
      clear o3 hxr
      go_upto_region 12 with ((with_reducible refine A4.out.mono ?_); rintro e w4 ⟨p, rfl, hx, ⟨n4, u1, u2, s1⟩, g1⟩; have X4 := Lib.hid hx; have S4 := Lib.hid s1; have G4 := Lib.hid g1; clear hx s1 g1 u1 u2)
      have JP : Hid (a ≤ p ∧ p < b) := by show a ≤ p ∧ p < b; have h1 := XR.out; have h2 := X4.out; omega
      have HXX := Lib.hid (ext_of_swap HX0.out (Nat.le_refl _) (grown_trans (grown_trans (grown_trans G1.out G2.out) G3.out) G4.out))
      have m9 := S4.out.cell
      by_cases hn0 : n4 = 0
      · subst hn0
        go_wp2_with fail
        go_ret2
        exact ⟨p, 1, rfl, JP.out.1, JP.out.2, by decide, HXX.out⟩
      · by_cases hn12 : n4 = 12
        · subst hn12
          go_wp2_with fail
          go_ret2
          exact ⟨p, 2, rfl, JP.out.1, JP.out.2, by decide, HXX.out⟩
        · have t1 : (((n4 : Nat) : Int) == 0) = false := beq_eq_false_iff_ne.2 (by omega)
          have t2 : (((n4 : Nat) : Int) == 12) = false := beq_eq_false_iff_ne.2 (by omega)
          have t3 : (n4 == 0) = false := beq_eq_false_iff_ne.2 hn0
          have t4 : (n4 == 12) = false := beq_eq_false_iff_ne.2 hn12
          go_wp2_with fail
          go_ret2
          exact ⟨p, 0, rfl, JP.out.1, JP.out.2, by decide, HXX.out⟩
    · have hI2 : decide ((50 : Int) ≤ (l0 : Int)) = false := decide_eq_false (by omega)
      have A4 := Lib.hid (median_any base g cap w.heap.size 0 d i0 j0 k0 _ (HO.out.ext HX0.out) HS0.out (by rw [HN.out]; omega) (by rw [HN.out]; omega) (by rw [HN.out]; omega) (by rw [HN.out]; exact hsz) (by decide))
      rw [HN.out] at A4
      clear hd
      go_enter Try.func56, Try.ntmps56
      go_upto_region 12 with ((with_reducible refine A4.out.mono ?_); rintro e w4 ⟨p, rfl, hx, ⟨n4, u1, u2, s1⟩, g1⟩; have X4 := Lib.hid hx; have S4 := Lib.hid s1; have G4 := Lib.hid g1; clear hx s1 g1 u1 u2)
      clear m2
      have JP : Hid (a ≤ p ∧ p < b) := by show a ≤ p ∧ p < b; have h1 := C1.out; have h2 := C2.out; have h3 := C3.out; have h4 := X4.out; omega
      have HXX := Lib.hid (ext_of_swap HX0.out (Nat.le_refl _) G4.out)
      have m9 := S4.out.cell
      by_cases hn0 : n4 = 0
      · subst hn0
        go_wp2_with fail
        go_ret2
        exact ⟨p, 1, rfl, JP.out.1, JP.out.2, by decide, HXX.out⟩
      · by_cases hn12 : n4 = 12
        · subst hn12
          go_wp2_with fail
          go_ret2
          exact ⟨p, 2, rfl, JP.out.1, JP.out.2, by decide, HXX.out⟩
        · have t1 : (((n4 : Nat) : Int) == 0) = false := beq_eq_false_iff_ne.2 (by omega)
          have t2 : (((n4 : Nat) : Int) == 12) = false := beq_eq_false_iff_ne.2 (by omega)
          have t3 : (n4 == 0) = false := beq_eq_false_iff_ne.2 hn0
          have t4 : (n4 == 12) = false := beq_eq_false_iff_ne.2 hn12
          go_wp2_with fail
          go_ret2
          exact ⟨p, 0, rfl, JP.out.1, JP.out.2, by decide, HXX.out⟩
  · have hI : decide ((8 : Int) ≤ (l0 : Int)) = false := decide_eq_false (by omega)
    go_enter Try.func56, Try.ntmps56
    go_wp2_with fail
    go_ret2
    exact ⟨j0, 1, rfl, C2.out.1, C2.out.2, by decide, HX0.out⟩
end Go.Proofs.Ytlgopjfnknjgjaa