/- The document's Send (29). -/
import Derived.Test.YtlgopjfnknjgjaaN19
namespace Go.Proofs.Ytlgopjfnknjgjaa
open Go.RowKit Go.MapKept

set_option maxRecDepth 100000 in
set_option maxHeartbeats 4000000 in
theorem rsend_arg (w : World) (base rb k last : Nat) (lv : Value) (L : List PK) (h : RefR w base rb k last lv L) (p q : Int) (vb : Value) (hbad : (decide (0 ≤ p) && decide (p < k) && (decide (0 ≤ q) && decide (q < k)) && !decide (p = q)) = false) :
    Calls Try.prog 29 #[.pointer (some ⟨rb, 0, none⟩), .int .i64 p, .int .i64 q, vb] w fun e w' => e = .returned (.tuple #[.int .u64 0, .int .i64 1]) ∧ Ext w w' := by
  obtain ⟨c0, c1, c2⟩ := h.cell
  have HBAD := Lib.hid hbad
  clear h c1 c2 hbad
  by_cases h1 : p < 0
  · have d1 : decide (p < 0) = true := decide_eq_true h1
    go_enter Try.func29, Try.ntmps29
    go_wp2_with fail
    go_ret2
    exact ⟨rfl, Ext.refl w⟩
  · have d1 : decide (p < 0) = false := decide_eq_false h1
    by_cases h2 : (k : Int) ≤ p
    · have d2 : decide ((k : Int) ≤ p) = true := decide_eq_true h2
      go_enter Try.func29, Try.ntmps29
      go_wp2_with fail
      go_ret2
      exact ⟨rfl, Ext.refl w⟩
    · have d2 : decide ((k : Int) ≤ p) = false := decide_eq_false h2
      by_cases h3 : q < 0
      · have d3 : decide (q < 0) = true := decide_eq_true h3
        go_enter Try.func29, Try.ntmps29
        go_wp2_with fail
        go_ret2
        exact ⟨rfl, Ext.refl w⟩
      · have d3 : decide (q < 0) = false := decide_eq_false h3
        by_cases h4 : (k : Int) ≤ q
        · have d4 : decide ((k : Int) ≤ q) = true := decide_eq_true h4
          go_enter Try.func29, Try.ntmps29
          go_wp2_with fail
          go_ret2
          exact ⟨rfl, Ext.refl w⟩
        · have d4 : decide ((k : Int) ≤ q) = false := decide_eq_false h4
          have hpq : p = q := by
            have hb := HBAD.out
            rw [decide_eq_true (by omega : 0 ≤ p), decide_eq_true (by omega : p < k), decide_eq_true (by omega : 0 ≤ q), decide_eq_true (by omega : q < k)] at hb
            simpa using hb
          subst hpq
          have d5 : decide (p = p) = true := decide_eq_true rfl
          go_enter Try.func29, Try.ntmps29
          go_wp2_with fail
          go_ret2
          exact ⟨rfl, Ext.refl w⟩
set_option maxRecDepth 100000 in
set_option maxHeartbeats 4000000 in
theorem rsend_long (w : World) (base rb k last : Nat) (lv : Value) (L : List PK) (h : RefR w base rb k last lv L) (p q : Nat) (ab : Option Addr) (nb cb : Nat) (hin : p < k ∧ q < k) (hne : p ≠ q) (hlb : 4096 < nb) :
    Calls Try.prog 29 #[.pointer (some ⟨rb, 0, none⟩), .int .i64 p, .int .i64 q, .slice ab nb cb] w fun e w' => e = .returned (.tuple #[.int .u64 0, .int .i64 3]) ∧ Ext w w' := by
  obtain ⟨c0, c1, c2⟩ := h.cell
  clear h c1 c2
  have d1 : decide ((p : Int) < 0) = false := decide_eq_false (by omega)
  have d2 : decide ((k : Int) ≤ (p : Int)) = false := decide_eq_false (by omega)
  have e2 : decide (k ≤ p) = false := decide_eq_false (by omega)
  have d3 : decide ((q : Int) < 0) = false := decide_eq_false (by omega)
  have d4 : decide ((k : Int) ≤ (q : Int)) = false := decide_eq_false (by omega)
  have e4 : decide (k ≤ q) = false := decide_eq_false (by omega)
  have d5 : decide ((p : Int) = (q : Int)) = false := decide_eq_false (by omega)
  have e5 : decide (p = q) = false := decide_eq_false hne
  have e7 : ((p : Int) == (q : Int)) = false := beq_eq_false_iff_ne.2 (by omega)
  have e8 : (p == q) = false := beq_eq_false_iff_ne.2 hne
  have d6 : decide ((4096 : Int) < (nb : Int)) = true := decide_eq_true (by omega)
  have e6 : decide (4096 < nb) = true := decide_eq_true hlb
  clear hin hne hlb
  go_enter Try.func29, Try.ntmps29
  go_wp2_with fail
  go_ret2
  exact ⟨rfl, Ext.refl w⟩
set_option maxRecDepth 100000 in
set_option maxHeartbeats 4000000 in
/-- Otherwise what 'out' says. -/
theorem rsend_out (w : World) (base rb k last : Nat) (lv : Value) (L : List PK) (h : RefR w base rb k last lv L) (p q : Nat) (ab : Option Addr) (nb cb : Nat) (hin : p < k ∧ q < k) (hne : p ≠ q) (hlb : nb ≤ 4096) (a : Nat) (b : Int) (R : World → Prop)
    (hout : Calls Try.prog 44 #[.pointer (some ⟨rb, 0, none⟩), .int .i64 p, .int .i64 q, .slice ab nb cb] w fun e w' => e = .returned (.tuple #[.int .u64 a, .int .i64 b]) ∧ R w') :
    Calls Try.prog 29 #[.pointer (some ⟨rb, 0, none⟩), .int .i64 p, .int .i64 q, .slice ab nb cb] w fun e w' => e = .returned (.tuple #[.int .u64 a, .int .i64 b]) ∧ R w' := by
  obtain ⟨c0, c1, c2⟩ := h.cell
  clear h c1 c2
  have d1 : decide ((p : Int) < 0) = false := decide_eq_false (by omega)
  have d2 : decide ((k : Int) ≤ (p : Int)) = false := decide_eq_false (by omega)
  have e2 : decide (k ≤ p) = false := decide_eq_false (by omega)
  have d3 : decide ((q : Int) < 0) = false := decide_eq_false (by omega)
  have d4 : decide ((k : Int) ≤ (q : Int)) = false := decide_eq_false (by omega)
  have e4 : decide (k ≤ q) = false := decide_eq_false (by omega)
  have d5 : decide ((p : Int) = (q : Int)) = false := decide_eq_false (by omega)
  have e5 : decide (p = q) = false := decide_eq_false hne
  have e7 : ((p : Int) == (q : Int)) = false := beq_eq_false_iff_ne.2 (by omega)
  have e8 : (p == q) = false := beq_eq_false_iff_ne.2 hne
  have d6 : decide ((4096 : Int) < (nb : Int)) = false := decide_eq_false (by omega)
  have e6 : decide (4096 < nb) = false := decide_eq_false (by omega)
  have HO := Lib.hid hout
  clear hin hne hlb hout
  go_enter Try.func29, Try.ntmps29
  go_wp2_with (go_at_call 44; (with_reducible refine (HO.out).mono ?_); rintro e w2 ⟨rfl, hr⟩; have HR := Lib.hid hr; clear hr)
  go_ret2
  exact ⟨rfl, HR.out⟩
end Go.Proofs.Ytlgopjfnknjgjaa
