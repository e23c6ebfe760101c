/- A predicate turned round, and twice, has the same normal form. No program is in sight. -/
import Derived.Test.YtkefppdacigbmaaV5
namespace Go.Proofs.Ytkefppdacigbmaa

def revC (c : C) : C := { c with set := c.set.reverse }
theorem may_rev {c : C} (h : mayC c = true) : mayC (revC c) = true := by
  have e : mayC (revC c) = mayC c := by
    unfold mayC revC
    simp only [List.isEmpty_reverse, List.length_reverse, List.all_reverse]
  rw [e]; exact h
theorem norm_rev {c : C} (h : mayC c = true) : normC (revC c) = normC c := by
  have hi := set_inj h
  have e : sortU cmpV c.set.reverse = sortU cmpV c.set := (sortU_same wo_V hi fun z => List.mem_reverse.symm).symm
  unfold normC revC
  simp only [e]
def backP (p : List C) : List C := p.reverse.map revC ++ (if 2 * p.length ≤ 6 then p else [])
theorem back_mem {p : List C} {z : C} (h : z ∈ backP p) : ∃ c ∈ p, z = revC c ∨ z = c := by
  unfold backP at h
  rcases List.mem_append.1 h with h | h
  · obtain ⟨c, hc, rfl⟩ := List.mem_map.1 h
    exact ⟨c, List.mem_reverse.1 hc, .inl rfl⟩
  · split at h
    · exact ⟨z, h, .inr rfl⟩
    · cases h
theorem back_may {p : List C} (h : mayP p = true) : mayP (backP p) = true := by
  have hl := may_len h
  have ha := may_all h
  refine may_mk ?_ fun z hz => ?_
  · unfold backP
    rw [List.length_append, List.length_map, List.length_reverse]
    split
    · omega
    · simp; omega
  · obtain ⟨c, hc, rfl | rfl⟩ := back_mem hz
    · exact may_rev (ha c hc)
    · exact ha _ hc
theorem back_norm {p : List C} (h : mayP p = true) : normP (backP p) = normP p := by
  have ha := may_all h
  refine normP_same fun z => ⟨?_, ?_⟩
  · rintro ⟨y, hy, rfl⟩
    obtain ⟨c, hc, rfl | rfl⟩ := back_mem hy
    · exact ⟨c, hc, (norm_rev (ha c hc)).symm⟩
    · exact ⟨_, hc, rfl⟩
  · rintro ⟨c, hc, rfl⟩
    exact ⟨revC c, List.mem_append_left _ (List.mem_map.2 ⟨c, List.mem_reverse.2 hc, rfl⟩), norm_rev (ha c hc)⟩
theorem cmp_self (p : List C) : decide (cmpP p p = 0) = true := decide_eq_true (wo_P.refl p)
theorem cmp_step {p : List C} {k : Nat} (hu : Up orderC p) (hk : k + 1 < p.length) : cmpP ((p.take (k + 1)).drop k) ((p.take (k + 2)).drop (k + 1)) < 0 := by
  have h1 : (p.take (k + 1)).drop k = [p[k]] := by
    rw [List.take_succ_eq_append_getElem (by omega), List.drop_append, List.drop_of_length_le (by rw [List.length_take]; omega), List.length_take]
    simp [show k - min k p.length = 0 by omega]
  have h2 : (p.take (k + 2)).drop (k + 1) = [p[k + 1]] := by
    rw [List.take_succ_eq_append_getElem hk, List.drop_append, List.drop_of_length_le (by rw [List.length_take]; omega), List.length_take]
    simp [show k + 1 - min (k + 1) p.length = 0 by omega]
  rw [h1, h2]
  have h3 := List.pairwise_iff_getElem.1 hu k (k + 1) (by omega) hk (Nat.lt_succ_self k)
  unfold cmpP
  simp only [cmpL]
  rw [if_neg (by omega)]
  exact h3
end Go.Proofs.Ytkefppdacigbmaa
