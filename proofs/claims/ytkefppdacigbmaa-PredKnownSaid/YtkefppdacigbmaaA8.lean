/- The reference's Compare of values. -/
import Derived.Test.YtkefppdacigbmaaA1
import Derived.Test.YtkefppdacigbmaaV3
namespace Go.Proofs.Ytkefppdacigbmaa
open Go.RowKit

theorem bytes_vals : ∀ a b : List UInt8, Lib.compareBytes a b = -1 ∨ Lib.compareBytes a b = 0 ∨ Lib.compareBytes a b = 1
  | [], [] => .inr (.inl rfl)
  | [], _ :: _ => .inl rfl
  | _ :: _, [] => .inr (.inr rfl)
  | a :: x, b :: y => by
    simp only [Lib.compareBytes]
    split
    · exact .inl rfl
    · split
      · exact .inr (.inr rfl)
      · exact bytes_vals x y
theorem bytes_cases (a b : List UInt8) : (Lib.compareBytes a b = -1 ∧ Op.bytesLess a b = true ∧ (a == b) = false) ∨ (a = b ∧ Lib.compareBytes a b = 0 ∧ Op.bytesLess a b = false) ∨ (Lib.compareBytes a b = 1 ∧ Op.bytesLess a b = false ∧ (a == b) = false) := by
  have hne : Lib.compareBytes a b ≠ 0 → (a == b) = false := fun h => beq_eq_false_iff_ne.2 (fun e => h (by rw [e]; exact wo_bytes.refl b))
  have hlt : ¬ Lib.compareBytes a b < 0 → Op.bytesLess a b = false := fun h => by
    cases hb : Op.bytesLess a b with
    | false => rfl
    | true => exact absurd ((bl_lt a b).1 hb) h
  rcases bytes_vals a b with h | h | h
  · exact .inl ⟨h, (bl_lt a b).2 (by omega), hne (by omega)⟩
  · exact .inr (.inl ⟨bytes_zero h, h, hlt (by omega)⟩)
  · exact .inr (.inr ⟨h, hlt (by omega), hne (by omega)⟩)

set_option maxRecDepth 100000 in
set_option maxHeartbeats 4000000 in
theorem rcompare_any (w : World) (ak an bk bn : Int) (sa sb : List UInt8) (ab bb : Bool) :
    Calls Try.prog 54 #[.agg #[.int .i64 ak, .int .i64 an, .string (strOf sa), .bool ab], .agg #[.int .i64 bk, .int .i64 bn, .string (strOf sb), .bool bb]] w
      fun e w' => e = .returned (.int .i64 (cmpV ⟨ak, an, sa, ab⟩ ⟨bk, bn, sb, bb⟩)) ∧ Grew w w' := by
  by_cases hk : ak = bk
  · subst hk
    by_cases h1 : ak = 1
    · subst h1
      have e : cmpV ⟨1, an, sa, ab⟩ ⟨1, bn, sb, bb⟩ = Lib.compareInt an bn := rfl
      rw [e]
      clear e
      rcases Int.lt_trichotomy an bn with h | h | h
      · have e : Lib.compareInt an bn = -1 := by unfold Lib.compareInt; rw [if_pos h]
        rw [e]
        have d1 : decide (an < bn) = true := decide_eq_true h
        have d2 : decide (bn < an) = false := decide_eq_false (by omega)
        clear e h
        go_enter Try.func54, Try.ntmps54
        go_wp2
        go_ret
        exact ⟨rfl, ((Grew.refl w).alloc _).alloc _⟩
      · subst h
        have e : Lib.compareInt an an = 0 := wo_int.refl an
        rw [e]
        clear e
        go_enter Try.func54, Try.ntmps54
        go_wp2
        go_ret
        exact ⟨rfl, ((Grew.refl w).alloc _).alloc _⟩
      · have e : Lib.compareInt an bn = 1 := by unfold Lib.compareInt; rw [if_neg (by omega), if_pos h]
        rw [e]
        have d1 : decide (an < bn) = false := decide_eq_false (by omega)
        have d2 : decide (bn < an) = true := decide_eq_true h
        clear e h
        go_enter Try.func54, Try.ntmps54
        go_wp2
        go_ret
        exact ⟨rfl, ((Grew.refl w).alloc _).alloc _⟩
    · have d1 := beq_int_ne h1
      by_cases h2 : ak = 2
      · subst h2
        have e : cmpV ⟨2, an, sa, ab⟩ ⟨2, bn, sb, bb⟩ = Lib.compareBytes sa sb := rfl
        rw [e]
        clear e d1 h1
        rcases bytes_cases sa sb with ⟨e, d1, d2⟩ | ⟨h, e, d1⟩ | ⟨e, d1, d2⟩
        · rw [e]
          clear e
          go_enter Try.func54, Try.ntmps54
          go_wp2
          go_ret
          exact ⟨rfl, ((Grew.refl w).alloc _).alloc _⟩
        · subst h
          rw [e]
          have d2 : (sa == sa) = true := beq_self_eq_true sa
          clear e
          go_enter Try.func54, Try.ntmps54
          go_wp2
          go_ret
          exact ⟨rfl, ((Grew.refl w).alloc _).alloc _⟩
        · rw [e]
          clear e
          go_enter Try.func54, Try.ntmps54
          go_wp2
          go_ret
          exact ⟨rfl, ((Grew.refl w).alloc _).alloc _⟩
      · have d2 := beq_int_ne h2
        by_cases h3 : ak = 3
        · subst h3
          have e : cmpV ⟨3, an, sa, ab⟩ ⟨3, bn, sb, bb⟩ = cmpB ab bb := rfl
          rw [e]
          clear e d1 h1 d2 h2
          cases ab <;> cases bb
          all_goals
            go_enter Try.func54, Try.ntmps54
            go_wp2
            go_ret
            exact ⟨rfl, ((Grew.refl w).alloc _).alloc _⟩
        · have d3 := beq_int_ne h3
          have e : cmpV ⟨ak, an, sa, ab⟩ ⟨ak, bn, sb, bb⟩ = 0 := by unfold cmpV; rw [if_pos rfl, if_neg h1, if_neg h2, if_neg h3]
          rw [e]
          clear e h1 h2 h3
          go_enter Try.func54, Try.ntmps54
          go_wp2
          go_ret
          exact ⟨rfl, ((Grew.refl w).alloc _).alloc _⟩
  · have e : cmpV ⟨ak, an, sa, ab⟩ ⟨bk, bn, sb, bb⟩ = Lib.compareInt ak bk := by unfold cmpV; rw [if_neg hk]
    rw [e]
    have d1 : (ak != bk) = true := by simp [hk]
    clear e
    rcases Int.lt_or_gt_of_ne hk with h | h
    · have e : Lib.compareInt ak bk = -1 := by unfold Lib.compareInt; rw [if_pos h]
      rw [e]
      have d2 : decide (ak < bk) = true := decide_eq_true h
      clear e h hk
      go_enter Try.func54, Try.ntmps54
      go_wp2
      go_ret
      exact ⟨rfl, ((Grew.refl w).alloc _).alloc _⟩
    · have e : Lib.compareInt ak bk = 1 := by unfold Lib.compareInt; rw [if_neg (by omega), if_pos h]
      rw [e]
      have d2 : decide (ak < bk) = false := decide_eq_false (by omega)
      clear e h hk
      go_enter Try.func54, Try.ntmps54
      go_wp2
      go_ret
      exact ⟨rfl, ((Grew.refl w).alloc _).alloc _⟩

end Go.Proofs.Ytkefppdacigbmaa
