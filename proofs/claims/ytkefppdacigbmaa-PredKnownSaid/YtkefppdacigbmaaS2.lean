/- slices.Clone at values and at constraints. -/
import Derived.Test.YtkefppdacigbmaaA15
import Derived.Test.YtkefppdacigbmaaS1
import Derived.Test.YtkefppdacigbmaaI1
namespace Go.Proofs.Ytkefppdacigbmaa
open Go.RowKit

set_option maxRecDepth 100000 in
set_option maxHeartbeats 2000000 in
theorem cloneV_any (w : World) (v : Value) (l : List V) (h : SetR w v l) (hl : l.length ≤ 1000000) :
    Calls Try.prog 58 #[v] w fun e w' => ∃ v', e = .returned v' ∧ w'.ownsRow w.heap.size 28 4 v' l.length (l.flatMap vC) ∧ Ext w w' := by
  obtain ⟨a, cap, rfl, hc, hm⟩ := Row.shape h
  have hq : ∀ (w : World) (a : Option Addr) (n c n' c' : Nat), (binOp .eql 29 (.slice a n c) (.slice none n' c')).run Try.prog w = .ok (.bool a.isNone) w := fun w a n c n' c' => Lib.run_eql_slice_nil w _ _ a n c n' c' Try.underlying29
  cases a with
  | none =>
    have hz : l = [] := by
      obtain ⟨_, a', cap', e1, _, _, hnil, _⟩ := h
      simp only [Value.slice.injEq] at e1
      have := hnil e1.1.symm
      exact List.length_eq_zero_iff.1 (by omega)
    subst hz
    go_enter Try.func58, Try.ntmps58
    go_wp2
    go_ret
    exact ⟨_, rfl, ⟨rfl, .inl ⟨rfl, rfl⟩⟩, Ext.refl w⟩
  | some p =>
    have hr := h.ext ((Ext.refl w).alloc (.cells #[] 28))
    have hone := vC_one l
    unfold maxLen at hm
    go_enter Try.func58, Try.ntmps58
    go_wp2_with (at_builtin; refine wpList_append_row 29 28 (.tmp 5) (.tmp 6) rfl w.heap.size _ 4 40 Try.underlying29 info28t rfl (by decide) rfl _ 0 [] rfl (World.ownsRow_made w #[] 0 (Nat.le_refl _) (Nat.zero_le _) (by simp)) l.length (l.flatMap vC) hr hone (by omega) (by unfold maxLen; omega) (by simp) ?_; intro v' w1 hown hgrow)
    go_ret
    refine ⟨v', rfl, by simpa using hown, Ext.grown_none ((Ext.refl w).alloc _) hgrow (by intro k hk; cases hk; exact Nat.le_refl _)⟩
set_option maxRecDepth 100000 in
set_option maxHeartbeats 2000000 in
theorem cloneC_any (w : World) (v : Value) (l : List CS) (h : Row w 7 v l.length (l.flatMap csC)) (hsl : ∀ x ∈ l, x.h.oneCell' = true) (hl : l.length ≤ 1000000) :
    Calls Try.prog 116 #[v] w fun e w' => ∃ v', e = .returned v' ∧ w'.ownsRow w.heap.size 31 7 v' l.length (l.flatMap csC) ∧ Ext w w' ∧ (v = .slice none 0 0 → v' = .slice none 0 0) := by
  obtain ⟨a, cap, rfl, hc, hm⟩ := Row.shape h
  have hq : ∀ (w : World) (a : Option Addr) (n c n' c' : Nat), (binOp .eql 80 (.slice a n c) (.slice none n' c')).run Try.prog w = .ok (.bool a.isNone) w := fun w a n c n' c' => Lib.run_eql_slice_nil w _ _ a n c n' c' Try.underlying80
  cases a with
  | none =>
    have hz : l = [] := by
      obtain ⟨_, a', cap', e1, _, _, hnil, _⟩ := h
      simp only [Value.slice.injEq] at e1
      have := hnil e1.1.symm
      exact List.length_eq_zero_iff.1 (by omega)
    subst hz
    go_enter Try.func116, Try.ntmps116
    go_wp2
    go_ret
    exact ⟨_, rfl, ⟨rfl, .inl ⟨rfl, rfl⟩⟩, Ext.refl w, fun _ => rfl⟩
  | some p =>
    have hr := h.ext ((Ext.refl w).alloc (.cells #[] 31))
    have hone := csC_one l hsl
    unfold maxLen at hm
    go_enter Try.func116, Try.ntmps116
    go_wp2_with (at_builtin; refine wpList_append_row 80 31 (.tmp 5) (.tmp 6) rfl w.heap.size _ 7 88 Try.underlying80 info31t rfl (by decide) rfl _ 0 [] rfl (World.ownsRow_made w #[] 0 (Nat.le_refl _) (Nat.zero_le _) (by simp)) l.length (l.flatMap csC) hr hone (by omega) (by unfold maxLen; omega) (by simp) ?_; intro v' w1 hown hgrow)
    go_ret
    refine ⟨v', rfl, by simpa using hown, Ext.grown_none ((Ext.refl w).alloc _) hgrow (by intro k hk; cases hk; exact Nat.le_refl _), fun h => by cases h⟩
end Go.Proofs.Ytkefppdacigbmaa
