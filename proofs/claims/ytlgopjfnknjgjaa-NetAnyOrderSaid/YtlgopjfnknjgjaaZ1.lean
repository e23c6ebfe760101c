/- Compacting, plainly: of each key the last place that counts; who goes. No program is in sight. -/
import Derived.WalkKit
namespace Go.Proofs.Ytlgopjfnknjgjaa

/-- An item, as compacting sees it: its number and its key. -/
abbrev NK := Nat × List UInt8
def lastS (s : Nat × (List UInt8 → Option (Nat × Nat))) (x : NK) : Nat × (List UInt8 → Option (Nat × Nat)) :=
  (s.1 + 1, fun k => if x.2 = k then (match s.2 k with | none => some (s.1, x.1) | some (m, n) => if n ≤ x.1 then some (s.1, x.1) else some (m, n)) else s.2 k)
def lastL (l : List NK) : Nat × (List UInt8 → Option (Nat × Nat)) := l.foldl lastS (0, fun _ => none)
theorem lastL_snoc (l : List NK) (x : NK) : lastL (l ++ [x]) = lastS (lastL l) x := by unfold lastL; rw [List.foldl_append]; rfl
/-- The place of a key, with its number. -/
def lastF (l : List NK) (k : List UInt8) : Option (Nat × Nat) := (lastL l).2 k
theorem rev_ind {α : Type} {p : List α → Prop} (h0 : p []) (h : ∀ l x, p l → p (l ++ [x])) (l : List α) : p l := by
  rw [← List.reverse_reverse l]
  induction l.reverse with
  | nil => exact h0
  | cons x r ih => rw [List.reverse_cons]; exact h _ _ ih
theorem lastL_len (l : List NK) : (lastL l).1 = l.length := by
  induction l using rev_ind with
  | h0 => rfl
  | h l x ih => rw [lastL_snoc, List.length_append]; show (lastL l).1 + 1 = _; rw [ih]; rfl
theorem lastF_snoc (l : List NK) (x : NK) (k : List UInt8) : lastF (l ++ [x]) k = if x.2 = k then (match lastF l k with | none => some (l.length, x.1) | some (m, n) => if n ≤ x.1 then some (l.length, x.1) else some (m, n)) else lastF l k := by
  unfold lastF; rw [lastL_snoc]
  show (if x.2 = k then (match (lastL l).2 k with | none => some ((lastL l).1, x.1) | some (m, n) => if n ≤ x.1 then some ((lastL l).1, x.1) else some (m, n)) else (lastL l).2 k) = _
  rw [lastL_len]
/-- Place m is the last that counts of its key: those of its key have smaller numbers, or the same and stand ahead. -/
structure Best (l : List NK) (k : List UInt8) (m n : Nat) : Prop where
  at_ : l[m]? = some (n, k)
  all : ∀ (j : Nat) (y : Nat), l[j]? = some (y, k) → j ≠ m → y < n ∨ (y = n ∧ j < m)
theorem lastF_law (l : List NK) (k : List UInt8) : (lastF l k = none ∧ ∀ (j : Nat) (y : Nat), l[j]? ≠ some (y, k)) ∨ ∃ m n, lastF l k = some (m, n) ∧ Best l k m n := by
  induction l using rev_ind with
  | h0 => exact .inl ⟨rfl, fun j y h => by simp at h⟩
  | h l x ih =>
    obtain ⟨xn, xk⟩ := x
    have old : ∀ (j : Nat) (y : Nat), (l ++ [(xn, xk)])[j]? = some (y, k) → (j < l.length ∧ l[j]? = some (y, k)) ∨ (j = l.length ∧ y = xn ∧ k = xk) := by
      intro j y h
      rcases Nat.lt_trichotomy j l.length with hj | hj | hj
      · rw [List.getElem?_append_left hj] at h; exact .inl ⟨hj, h⟩
      · subst hj
        rw [List.getElem?_append_right (Nat.le_refl _), Nat.sub_self, List.getElem?_cons_zero] at h
        simp only [Option.some.injEq, Prod.mk.injEq] at h
        exact .inr ⟨rfl, h.1.symm, h.2.symm⟩
      · rw [List.getElem?_eq_none (by simp; omega)] at h; cases h
    rw [lastF_snoc]
    by_cases hk : xk = k
    · subst hk
      rw [if_pos rfl]
      right
      have hat : (l ++ [(xn, xk)])[l.length]? = some (xn, xk) := by rw [List.getElem?_append_right (Nat.le_refl _), Nat.sub_self]; rfl
      rcases ih with ⟨e, hno⟩ | ⟨m, n, e, hb⟩
      · rw [e]
        refine ⟨_, _, rfl, hat, fun j y h hne => ?_⟩
        rcases old j y h with ⟨_, h⟩ | ⟨h, _⟩
        · exact absurd h (hno j y)
        · exact absurd h hne
      · rw [e]
        have hm : m < l.length := (List.getElem?_eq_some_iff.1 hb.at_).1
        show ∃ m' n', (if n ≤ xn then some (l.length, xn) else some (m, n)) = some (m', n') ∧ Best (l ++ [(xn, xk)]) xk m' n'
        by_cases hle : n ≤ xn
        · rw [if_pos hle]
          refine ⟨_, _, rfl, hat, fun j y h hne => ?_⟩
          rcases old j y h with ⟨hj, h⟩ | ⟨h, _⟩
          · by_cases hjm : j = m
            · subst hjm
              rw [hb.at_] at h
              simp only [Option.some.injEq, Prod.mk.injEq, and_true] at h
              omega
            · have := hb.all j y h hjm
              omega
          · exact absurd h hne
        · rw [if_neg hle]
          refine ⟨_, _, rfl, (List.getElem?_append_left hm).trans hb.at_, fun j y h hne => ?_⟩
          rcases old j y h with ⟨hj, h⟩ | ⟨h1, h2, _⟩
          · exact hb.all j y h hne
          · omega
    · rw [if_neg hk]
      rcases ih with ⟨e, hno⟩ | ⟨m, n, e, hb⟩
      · left
        refine ⟨e, fun j y h => ?_⟩
        rcases old j y h with ⟨_, h⟩ | ⟨_, _, h⟩
        · exact hno j y h
        · exact hk h.symm
      · right
        refine ⟨m, n, e, (List.getElem?_append_left (List.getElem?_eq_some_iff.1 hb.at_).1).trans hb.at_, fun j y h hne => ?_⟩
        rcases old j y h with ⟨_, h⟩ | ⟨_, _, h⟩
        · exact hb.all j y h hne
        · exact absurd h.symm hk
/-- Does the item of a place go? As the program tells it. -/
def goesF (l : List NK) (i : Nat) : Bool := match l[i]? with | some x => !x.2.isEmpty && decide ((lastF l x.2).map (·.1) ≠ some i) | none => false
/-- As the document tells it. -/
def goesR (l : List NK) (i : Nat) : Bool := match l[i]? with | some x => !x.2.isEmpty && (List.range l.length).any fun k => (match l[k]? with | some y => (decide (x.1 < y.1) || (decide (y.1 = x.1) && decide (i < k))) && decide (y.2 = x.2) | none => false) | none => false
theorem goes_same (l : List NK) (i : Nat) : goesF l i = goesR l i := by
  unfold goesF goesR
  cases hx : l[i]? with
  | none => rfl
  | some x =>
    obtain ⟨xn, xk⟩ := x
    show (_ && _) = (_ && _)
    congr 1
    rw [Bool.eq_iff_iff, decide_eq_true_iff, List.any_eq_true]
    rcases lastF_law l xk with ⟨_, hno⟩ | ⟨m, n, e, hb⟩
    · exact absurd hx (hno i xn)
    · rw [e]
      have hm : m < l.length := (List.getElem?_eq_some_iff.1 hb.at_).1
      constructor
      · intro hne
        have hmi : i ≠ m := fun h => hne (by rw [h]; rfl)
        have := hb.all i xn hx hmi
        refine ⟨m, List.mem_range.2 hm, ?_⟩
        rw [hb.at_]
        simp only [decide_true, Bool.and_true, Bool.or_eq_true, Bool.and_eq_true, decide_eq_true_eq]
        omega
      · rintro ⟨k, _, hk⟩ h
        have hmi : m = i := by simpa using h
        subst hmi
        rw [hb.at_] at hx
        simp only [Option.some.injEq, Prod.mk.injEq, and_true] at hx
        subst hx
        cases hy : l[k]? with
        | none => rw [hy] at hk; cases hk
        | some y =>
          rw [hy] at hk
          obtain ⟨yn, yk⟩ := y
          simp only [Bool.or_eq_true, Bool.and_eq_true, decide_eq_true_eq] at hk
          obtain ⟨h1, rfl⟩ := hk
          by_cases hkm : k = m
          · subst hkm
            rw [hb.at_] at hy
            simp only [Option.some.injEq, Prod.mk.injEq, and_true] at hy
            omega
          · have := hb.all k yn hy hkm
            omega
end Go.Proofs.Ytlgopjfnknjgjaa
