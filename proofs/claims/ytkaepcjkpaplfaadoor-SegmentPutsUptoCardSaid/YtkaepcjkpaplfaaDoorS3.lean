/- What is told of any bytes: its records rise, and their forms are what is whole. -/
import Derived.Test.YtkaepcjkpaplfaaDoorS2
namespace Go.Proofs.YtkaepcjkpaplfaaDoor

theorem vget_inv : ∀ (l : List UInt8) (i acc N : Nat) (r : List UInt8), i ≤ 9 → vgetN i acc l = (0, N, r) → ∃ m, l = vputN (9 - i) m ++ r ∧ N = acc + m * 128 ^ i ∧ (0 < i → 1 ≤ m)
  | [], i, acc, N, r, _, h => by simp [vgetN] at h
  | c :: l, i, acc, N, r, hi, h => by
    have hcb := byte_lt c
    unfold vgetN at h
    split at h
    · simp at h
    · rename_i h1
      split at h
      · rename_i h2
        simp only [Prod.mk.injEq, true_and] at h
        obtain ⟨h3, rfl⟩ := h
        refine ⟨c.toNat, ?_, h3.symm, fun h0 => ?_⟩
        · rw [vput_last h2, UInt8.ofNat_toNat]; rfl
        · exact Nat.one_le_iff_ne_zero.2 fun e => h1 (.inr ⟨h0, e⟩)
      · rename_i h2
        have hi8 : i ≠ 9 := fun e => h1 (.inl ⟨e, by omega⟩)
        obtain ⟨m, hm1, hm2, hm3⟩ := vget_inv l (i + 1) _ N r (by omega) h
        have hm := hm3 (by omega)
        refine ⟨c.toNat - 128 + 128 * m, ?_, ?_, fun _ => by omega⟩
        · have e1 : 9 - i = (9 - (i + 1)) + 1 := by omega
          rw [e1, vput_more (by omega)]
          have e2 : (c.toNat - 128 + 128 * m) % 128 + 128 = c.toNat := by omega
          have e3 : (c.toNat - 128 + 128 * m) / 128 = m := by omega
          rw [e2, e3, UInt8.ofNat_toNat, hm1]; rfl
        · rw [hm2, Nat.pow_succ, Nat.add_mul, Nat.add_assoc, Nat.mul_comm 128 m, Nat.mul_assoc m 128, Nat.mul_comm 128 (128 ^ i)]

theorem recF_some {f : List UInt8} {x : Nat × List UInt8} (h : recF f = some x) : f = vput x.1 ++ x.2 ∧ may x.1 ∧ x.2.length ≤ 1500 := by
  unfold recF at h
  split at h
  · cases h
  · rename_i hc
    simp only [Option.some.injEq] at h
    subst h
    have h0 : (vget 1099511627776 f).1 = 0 := Decidable.byContradiction fun e => hc (.inl e)
    have h1 : (vget 1099511627776 f).2.1 ≠ 0 := fun e => hc (.inr (.inl e))
    have h2 : ¬ 1500 < (vget 1099511627776 f).2.2.length := fun e => hc (.inr (.inr e))
    have hle := vget_lt 1099511627776 f
    unfold vget at h0 h1 h2 hle ⊢
    split at h0
    · rename_i e
      exact absurd h0 e
    · rename_i e0
      rw [if_neg e0] at h1 h2 hle ⊢
      split at h0
      · cases h0
      · rename_i e1
        rw [if_neg e1] at h1 h2 hle ⊢
        simp only [] at h1 h2 hle ⊢
        obtain ⟨m, hm1, hm2, -⟩ := vget_inv f 0 0 (vgetN 0 0 f).2.1 (vgetN 0 0 f).2.2 (by omega) (by
          have : (vgetN 0 0 f).1 = 0 := Decidable.byContradiction e0
          exact Prod.ext this rfl)
        have hm3 : (vgetN 0 0 f).2.1 = m := by rw [hm2]; omega
        refine ⟨?_, ⟨by omega, hle⟩, by omega⟩
        conv => lhs; rw [hm1]
        rw [hm3]; rfl

theorem splitL_told : ∀ (X : List (List UInt8)) (a : Nat), (∀ r ∈ X, Good r) → Rise a (splitL a X).1 ∧ (splitL a X).2 = (formsOf (splitL a X).1).length ∧ ∃ t, frs X = formsOf (splitL a X).1 ++ t
  | [], a, _ => ⟨trivial, rfl, [], rfl⟩
  | f :: X, a, hg => by
    cases hr : recF f with
    | none =>
      have e : splitL a (f :: X) = ([], 0) := splitL_stop fun x hx => by rw [hr] at hx; cases hx
      rw [e]
      exact ⟨trivial, rfl, _, rfl⟩
    | some x =>
      obtain ⟨hf, hm, hd⟩ := recF_some hr
      by_cases hl : x.1 < a
      · have e : splitL a (f :: X) = ([], 0) := splitL_stop fun y hy => by rw [hr] at hy; cases hy; exact hl
        rw [e]
        exact ⟨trivial, rfl, _, rfl⟩
      · rw [splitL_go hr (by omega)]
        obtain ⟨i1, i2, t, i3⟩ := splitL_told X (x.1 + 1) fun r hr => hg r (by simp [hr])
        refine ⟨⟨by omega, hm, hd, i1⟩, ?_, t, ?_⟩
        · simp only [formsOf, List.map_cons, List.flatten_cons, List.length_append, formOf] at i2 ⊢
          rw [i2, ← hf, fr_length]
        · simp only [formsOf, List.map_cons, List.flatten_cons, formOf] at i3 ⊢
          rw [frs_cons, i3, ← hf, List.append_assoc]

theorem splitS_told (c : List UInt8) (first : Nat) (hf : may first) : Rise first (splitS c first).1 ∧ (splitS c first).2 = (formsOf (splitS c first).1).length ∧ (splitS c first).2 ≤ c.length ∧ c.take (splitS c first).2 = formsOf (splitS c first).1 := by
  obtain ⟨hg, _, t, ht, -⟩ := split_shape c.length c (Nat.le_refl _)
  have e : splitS c first = splitL first (splitF c).1 := by unfold splitS; rw [if_pos hf]
  rw [e]
  obtain ⟨h1, h2, t2, h3⟩ := splitL_told (splitF c).1 first hg
  rw [h3] at ht
  have hl := congrArg List.length ht
  rw [List.append_assoc, List.length_append] at hl
  refine ⟨h1, h2, by rw [h2, hl]; exact Nat.le_add_right _ _, ?_⟩
  rw [h2]
  generalize formsOf (splitL first (splitF c).1).1 = F at *
  rw [ht, List.append_assoc]
  exact List.take_left' rfl

/-- Laid records with whatever behind: they are told first. -/
theorem splitS_behind {xs : List (Nat × List UInt8)} {first : Nat} (t : List UInt8) (hf : may first) (h : Rise first xs) : ∃ ys n, splitS (formsOf xs ++ t) first = (xs ++ ys, (formsOf xs).length + n) := by
  unfold splitS
  rw [if_pos hf, forms_frs, splitF_frs _ _ (recs_good h)]
  obtain ⟨b, hb, -⟩ := splitL_recs (splitF t).1 h
  rw [hb, ← forms_frs]
  exact ⟨_, _, rfl⟩

end Go.Proofs.YtkaepcjkpaplfaaDoor
