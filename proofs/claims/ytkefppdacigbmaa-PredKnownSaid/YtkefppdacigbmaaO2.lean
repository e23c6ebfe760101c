/- Compaction, element by element: what slices.Compact does in its loop. -/
import Derived.Test.YtkefppdacigbmaaV1
namespace Go.Proofs.Ytkefppdacigbmaa

section
variable {α : Type} [DecidableEq α]
/-- Equal neighbours, one kept. -/
def compE (l : List α) : List α := compL (fun a b => decide (a = b)) l
theorem compE_nil : compE ([] : List α) = [] := compL_nil _
theorem compE_one (x : α) : compE [x] = [x] := compL_one _ x
theorem compE_cons2 (x y : α) (r : List α) : compE (x :: y :: r) = if x = y then compE (x :: r) else x :: compE (y :: r) := by
  unfold compE
  rw [compL_cons2]
  by_cases h : x = y
  · rw [if_pos h, if_pos (decide_eq_true h)]
  · rw [if_neg h, if_neg (by simpa using h)]
theorem compE_snoc : ∀ (n : Nat) (m : List α), m.length = n → ∀ x y : α, compE (m ++ [x, y]) = if x = y then compE (m ++ [x]) else compE (m ++ [x]) ++ [y]
  | _, [], _, x, y => by
    rw [List.nil_append, List.nil_append, compE_cons2, compE_one, compE_one]
    by_cases h : x = y
    · rw [if_pos h, if_pos h]
    · rw [if_neg h, if_neg h]; rfl
  | _, [a], _, x, y => by
    show compE (a :: x :: [y]) = if x = y then compE (a :: x :: []) else compE (a :: x :: []) ++ [y]
    rw [compE_cons2, compE_cons2 a x []]
    by_cases hax : a = x
    · subst hax
      rw [if_pos rfl, if_pos rfl, compE_cons2, compE_one, compE_one]
      by_cases h : a = y
      · rw [if_pos h, if_pos h]
      · rw [if_neg h, if_neg h]; rfl
    · rw [if_neg hax, if_neg hax, compE_cons2, compE_one, compE_one]
      by_cases h : x = y
      · rw [if_pos h, if_pos h]
      · rw [if_neg h, if_neg h]; rfl
  | n + 1, a :: b :: m, h, x, y => by
    show compE (a :: b :: (m ++ [x, y])) = if x = y then compE (a :: b :: (m ++ [x])) else compE (a :: b :: (m ++ [x])) ++ [y]
    rw [compE_cons2, compE_cons2]
    have hlen : (a :: m).length = n := by simp at h ⊢; omega
    have hlen2 : (b :: m).length = n := by simp at h ⊢; omega
    by_cases hab : a = b
    · rw [if_pos hab, if_pos hab]
      exact compE_snoc n (a :: m) hlen x y
    · rw [if_neg hab, if_neg hab]
      have := compE_snoc n (b :: m) hlen2 x y
      rw [List.cons_append, List.cons_append] at this
      rw [this]
      by_cases h : x = y
      · rw [if_pos h, if_pos h]
      · rw [if_neg h, if_neg h]; rfl
/-- One more element read. -/
theorem compE_take {l : List α} {n : Nat} (h : n + 1 < l.length) : compE (l.take (n + 2)) = if l[n + 1] = l[n] then compE (l.take (n + 1)) else compE (l.take (n + 1)) ++ [l[n + 1]] := by
  have e1 : l.take (n + 1) = l.take n ++ [l[n]] := by rw [List.take_succ_eq_append_getElem (by omega)]
  have e2 : l.take (n + 2) = l.take n ++ [l[n], l[n + 1]] := by
    rw [List.take_succ_eq_append_getElem h, e1, List.append_assoc]; rfl
  rw [e2, e1, compE_snoc _ _ rfl]
  by_cases hh : l[n] = l[n + 1]
  · rw [if_pos hh, if_pos hh.symm]
  · rw [if_neg hh, if_neg (fun e => hh e.symm)]
theorem compE_len : ∀ (n : Nat) (l : List α), l.length ≤ n → (compE l).length ≤ l.length
  | _, [], _ => by rw [compE_nil]; exact Nat.le_refl _
  | _, [x], _ => by rw [compE_one]; exact Nat.le_refl _
  | n + 1, x :: y :: r, h => by
    rw [compE_cons2]
    split
    · have := compE_len n (x :: r) (by simp at h ⊢; omega)
      simp only [List.length_cons] at this ⊢; omega
    · have := compE_len n (y :: r) (by simp at h ⊢; omega)
      simp only [List.length_cons] at this ⊢; omega
end
end Go.Proofs.Ytkefppdacigbmaa
