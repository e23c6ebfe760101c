/- Sparse places, plainly. -/
import Derived.Test.YtkaepcjkpaplfaaDoorT1
namespace Go.Proofs.YtkaepcjkpaplfaaDoor

/-- The places of records from index i on, which stand at place s. -/
def placesF : Nat → Nat → List (Nat × List UInt8) → List (Nat × Nat)
  | _, _, [] => []
  | i, s, x :: xs => (if i % 4 = 0 then [(x.1, s)] else []) ++ placesF (i + 1) (s + (formOf x).length) xs
/-- Where to begin to look. -/
def fromF : Nat → List (Nat × Nat) → Nat → Nat
  | cur, [], _ => cur
  | cur, p :: ps, n => if n < p.1 then cur else fromF p.2 ps n

theorem from_law (n : Nat) : ∀ (xs : List (Nat × List UInt8)) (i s cur : Nat),
    (fromF cur (placesF i s xs) n = cur ∧ ∀ h : (4 - i % 4) % 4 < xs.length, n < xs[(4 - i % 4) % 4].1) ∨
    ∃ j, ∃ hj : j < xs.length, fromF cur (placesF i s xs) n = s + (formsOf (xs.take j)).length ∧ xs[j].1 ≤ n ∧ ∀ h : j + 4 < xs.length, n < xs[j + 4].1
  | [], i, s, cur => .inl ⟨rfl, fun h => absurd h (by simp)⟩
  | x :: xs, i, s, cur => by
    by_cases hi : i % 4 = 0
    · have e0 : (4 - i % 4) % 4 = 0 := by omega
      have e3 : (4 - (i + 1) % 4) % 4 = 3 := by omega
      by_cases hn : n < x.1
      · refine .inl ⟨?_, fun h => ?_⟩
        · simp [placesF, hi, fromF, hn]
        · simp only [e0]; exact hn
      · have e : fromF cur (placesF i s (x :: xs)) n = fromF s (placesF (i + 1) (s + (formOf x).length) xs) n := by simp [placesF, hi, fromF, hn]
        rw [e]
        rcases from_law n xs (i + 1) (s + (formOf x).length) s with ⟨h1, h2⟩ | ⟨j, hj, h1, h2, h3⟩
        · refine .inr ⟨0, by simp, by rw [h1]; simp [formsOf], by simpa using hn, fun h => ?_⟩
          simp only [e3] at h2
          exact h2 (by simp at h; omega)
        · refine .inr ⟨j + 1, by simpa using hj, by rw [h1, List.take_succ_cons, forms_cons, List.length_append, Nat.add_assoc], by simpa using h2, fun h => ?_⟩
          have := h3 (by simp at h; omega)
          simpa using this
    · have ed : (4 - i % 4) % 4 = (4 - (i + 1) % 4) % 4 + 1 := by omega
      have e : placesF i s (x :: xs) = placesF (i + 1) (s + (formOf x).length) xs := by simp [placesF, hi]
      rw [e]
      rcases from_law n xs (i + 1) (s + (formOf x).length) cur with ⟨h1, h2⟩ | ⟨j, hj, h1, h2, h3⟩
      · refine .inl ⟨h1, fun h => ?_⟩
        simp only [ed] at h ⊢
        exact h2 (by simp at h; omega)
      · refine .inr ⟨j + 1, by simpa using hj, by rw [h1, List.take_succ_cons, forms_cons, List.length_append, Nat.add_assoc], by simpa using h2, fun h => ?_⟩
        have := h3 (by simp at h; omega)
        simpa using this

theorem rise_ge : ∀ {xs : List (Nat × List UInt8)} {a : Nat} (_ : Rise a xs) (i : Nat) (hi : i < xs.length), a ≤ xs[i].1
  | _ :: _, _, h, 0, _ => h.1
  | _ :: _, _, h, i + 1, hi => by
    have h1 := rise_ge h.2.2.2 i (by simp at hi; omega)
    have h2 := h.1
    show _ ≤ (_ : Nat × List UInt8).1
    simp only [List.getElem_cons_succ]
    omega
theorem rise_lt : ∀ {xs : List (Nat × List UInt8)} {a : Nat} (_ : Rise a xs) (i j : Nat) (_ : i < j) (hj : j < xs.length), (xs[i]'(by omega)).1 < xs[j].1
  | _ :: _, _, h, 0, j + 1, _, hj => by
    have h1 := rise_ge h.2.2.2 j (by simp at hj; omega)
    simp only [List.getElem_cons_succ, List.getElem_cons_zero]
    omega
  | _ :: _, _, h, i + 1, j + 1, hij, hj => by
    have := rise_lt h.2.2.2 i j (by omega) (by simp at hj; omega)
    simpa using this

/-- Where to begin: the place of a record k; all ahead of it are of lesser numbers, and so are at most four from it on. -/
theorem from_place {xs : List (Nat × List UInt8)} {a : Nat} (h : Rise a xs) (n : Nat) : ∃ k, k ≤ xs.length ∧ fromF 0 (placesF 0 0 xs) n = (formsOf (xs.take k)).length ∧
    (k = 0 ∨ ∃ hk : k < xs.length, xs[k].1 ≤ n) ∧ ∀ h : k + 4 < xs.length, n < xs[k + 4].1 := by
  rcases from_law n xs 0 0 0 with ⟨h1, h2⟩ | ⟨j, hj, h1, h2, h3⟩
  · refine ⟨0, Nat.zero_le _, by rw [h1]; simp [formsOf], .inl rfl, fun hl => ?_⟩
    have h4 := h2 (by omega)
    have h5 := rise_lt h 0 4 (by omega) (by omega)
    simp only [Nat.zero_add]
    simp only [Nat.zero_mod, Nat.sub_zero, Nat.mod_self] at h4
    omega
  · exact ⟨j, by omega, by rw [h1, Nat.zero_add], .inr ⟨hj, h2⟩, h3⟩

end Go.Proofs.YtkaepcjkpaplfaaDoor
