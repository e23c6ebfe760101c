/- Compaction by what a function says of the elements: as slices.CompactFunc does it. No program is in sight. -/
import Derived.Test.YtkefppdacigbmaaV1
namespace Go.Proofs.Ytkefppdacigbmaa

section
variable {α β : Type} [DecidableEq β] (f : α → β)
/-- Equal neighbours, one kept. -/
def compF (l : List α) : List α := compL (fun a b => decide (f a = f b)) l
variable {f}
theorem compF_nil : compF f ([] : List α) = [] := compL_nil _
theorem compF_one (x : α) : compF f [x] = [x] := compL_one _ x
theorem compF_cons2 (x y : α) (r : List α) : compF f (x :: y :: r) = if f x = f y then compF f (x :: r) else x :: compF f (y :: r) := by
  unfold compF
  rw [compL_cons2]
  by_cases h : f x = f y
  · rw [if_pos h, if_pos (decide_eq_true h)]
  · rw [if_neg h, if_neg (by simpa using h)]
theorem compF_snoc : ∀ (n : Nat) (m : List α), m.length = n → ∀ x y : α, compF f (m ++ [x, y]) = if f x = f y then compF f (m ++ [x]) else compF f (m ++ [x]) ++ [y]
  | _, [], _, x, y => by
    rw [List.nil_append, List.nil_append, compF_cons2, compF_one, compF_one]
    by_cases h : f x = f y
    · rw [if_pos h, if_pos h]
    · rw [if_neg h, if_neg h]; rfl
  | _, [a], _, x, y => by
    show compF f (a :: x :: [y]) = if f x = f y then compF f (a :: x :: []) else compF f (a :: x :: []) ++ [y]
    rw [compF_cons2, compF_cons2 a x []]
    by_cases hax : f a = f x
    · rw [if_pos hax, if_pos hax, compF_cons2, compF_one, compF_one, hax]
      by_cases h : f x = f y
      · rw [if_pos h, if_pos h]
      · rw [if_neg h, if_neg h]; rfl
    · rw [if_neg hax, if_neg hax, compF_cons2, compF_one, compF_one]
      by_cases h : f x = f y
      · rw [if_pos h, if_pos h]
      · rw [if_neg h, if_neg h]; rfl
  | n + 1, a :: b :: m, h, x, y => by
    show compF f (a :: b :: (m ++ [x, y])) = if f x = f y then compF f (a :: b :: (m ++ [x])) else compF f (a :: b :: (m ++ [x])) ++ [y]
    rw [compF_cons2, compF_cons2]
    have hlen : (a :: m).length = n := by simp at h ⊢; omega
    have hlen2 : (b :: m).length = n := by simp at h ⊢; omega
    by_cases hab : f a = f b
    · rw [if_pos hab, if_pos hab]
      exact compF_snoc n (a :: m) hlen x y
    · rw [if_neg hab, if_neg hab]
      have := compF_snoc n (b :: m) hlen2 x y
      rw [List.cons_append, List.cons_append] at this
      rw [this]
      by_cases h : f x = f y
      · rw [if_pos h, if_pos h]
      · rw [if_neg h, if_neg h]; rfl
/-- One more element read. -/
theorem compF_take {l : List α} {n : Nat} (h : n + 1 < l.length) : compF f (l.take (n + 2)) = if f l[n + 1] = f l[n] then compF f (l.take (n + 1)) else compF f (l.take (n + 1)) ++ [l[n + 1]] := by
  have e1 : l.take (n + 1) = l.take n ++ [l[n]] := by rw [List.take_succ_eq_append_getElem (by omega)]
  have e2 : l.take (n + 2) = l.take n ++ [l[n], l[n + 1]] := by
    rw [List.take_succ_eq_append_getElem h, e1, List.append_assoc]; rfl
  rw [e2, e1, compF_snoc _ _ rfl]
  by_cases hh : f l[n] = f l[n + 1]
  · rw [if_pos hh, if_pos hh.symm]
  · rw [if_neg hh, if_neg (fun e => hh e.symm)]
theorem compF_len : ∀ (n : Nat) (l : List α), l.length ≤ n → (compF f l).length ≤ l.length
  | _, [], _ => by rw [compF_nil]; exact Nat.le_refl _
  | _, [x], _ => by rw [compF_one]; exact Nat.le_refl _
  | n + 1, x :: y :: r, h => by
    rw [compF_cons2]
    split
    · have := compF_len n (x :: r) (by simp at h ⊢; omega)
      simp only [List.length_cons] at this ⊢; omega
    · have := compF_len n (y :: r) (by simp at h ⊢; omega)
      simp only [List.length_cons] at this ⊢; omega
variable (f) in
/-- i elements have been read, k are kept at the row's head; what has not been read stands. -/
structure CompInvF (l r : List α) (k i : Nat) : Prop where
  len : r.length = l.length
  pos : 1 ≤ k
  le : k + 1 ≤ i
  hi : i ≤ l.length
  tk : r.take k = compF f (l.take i)
  dr : r.drop (i - 1) = l.drop (i - 1)
theorem CompInvF.start {l : List α} {m : Nat} (h : m + 1 < l.length) (hc : compF f (l.take (m + 1)) = l.take (m + 1)) (e : f l[m + 1] = f l[m]) : CompInvF f l l (m + 1) (m + 2) := by
  refine ⟨rfl, by omega, by omega, by omega, ?_, rfl⟩
  rw [compF_take h, if_pos e, hc]
theorem CompInvF.at {l r : List α} {k i : Nat} (h : CompInvF f l r k i) (hi : i < l.length) : ∃ (h1 : i < r.length) (h2 : i - 1 < r.length), r[i] = l[i] ∧ r[i - 1] = l[i - 1]'(by omega) := by
  have hp := h.pos
  have hl := h.le
  have hn := h.len
  refine ⟨by omega, by omega, ?_, ?_⟩
  · have := congrArg (fun x => x[1]?) h.dr
    simp only [List.getElem?_drop] at this
    have e : i - 1 + 1 = i := by omega
    rw [e, List.getElem?_eq_getElem (by omega), List.getElem?_eq_getElem hi] at this
    exact Option.some.inj this
  · have := congrArg (fun x => x[0]?) h.dr
    simp only [List.getElem?_drop, Nat.add_zero] at this
    rw [List.getElem?_eq_getElem (by omega), List.getElem?_eq_getElem (by omega)] at this
    exact Option.some.inj this
theorem CompInvF.drop {l r : List α} {k i : Nat} (h : CompInvF f l r k i) : r.drop i = l.drop i := by
  have := congrArg (fun x => x.drop 1) h.dr
  have hl := h.le
  have hp := h.pos
  simp only [List.drop_drop] at this
  have e : i - 1 + 1 = i := by omega
  rw [e] at this
  exact this
theorem compF_read {l : List α} {i : Nat} (h1 : 1 ≤ i) (hi : i < l.length) : compF f (l.take (i + 1)) = if f l[i] = f l[i - 1] then compF f (l.take i) else compF f (l.take i) ++ [l[i]] := by
  obtain ⟨m, rfl⟩ : ∃ m, i = m + 1 := ⟨i - 1, by omega⟩
  exact compF_take hi
theorem CompInvF.same {l r : List α} {k i : Nat} (h : CompInvF f l r k i) (hi : i < l.length) (e : f l[i] = f l[i - 1]) : CompInvF f l r k (i + 1) := by
  have hp := h.pos
  have hl := h.le
  refine ⟨h.len, hp, by omega, hi, ?_, ?_⟩
  · rw [compF_read (by omega) hi, if_pos e]; exact h.tk
  · exact h.drop
theorem CompInvF.next {l r : List α} {k i : Nat} (h : CompInvF f l r k i) (hi : i < l.length) (e : f l[i] ≠ f l[i - 1]) : CompInvF f l (r.set k l[i]) (k + 1) (i + 1) := by
  have hp := h.pos
  have hl := h.le
  have hn := h.len
  refine ⟨by rw [List.length_set]; exact hn, by omega, by omega, hi, ?_, ?_⟩
  · rw [compF_read (by omega) hi, if_neg e, ← h.tk]
    have hk : k < r.length := by omega
    rw [List.take_succ_eq_append_getElem (by rw [List.length_set]; exact hk), List.getElem_set_self, List.take_set_of_le (Nat.le_refl k)]
  · show (r.set k l[i]).drop i = l.drop i
    rw [List.drop_set_of_lt (by omega)]
    exact h.drop
theorem CompInvF.done {l r : List α} {k : Nat} (h : CompInvF f l r k l.length) : r.take k = compF f l ∧ (compF f l).length = k := by
  have := h.tk
  rw [List.take_length] at this
  refine ⟨this, ?_⟩
  rw [← this, List.length_take]
  have := h.le; have := h.len
  omega
end
end Go.Proofs.Ytkefppdacigbmaa
