/- clear at the end of a row of the call's own. -/
import Derived.Test.YtkefppdacigbmaaO3
import Derived.Lib.SliceRun
namespace Go.Proofs.Ytkefppdacigbmaa
open Go.RowKit Go.Sort

theorem own_cut_set {w : World} {base g n cap k i : Nat} {e : TypeId} {xs : List Value} (h : w.ownsRow base e k (.slice (some ⟨g, 0, none⟩) n cap) n xs) (hi : i ≤ n) (vs : List Value) (hv : i * k + vs.length ≤ n * k) :
    (w.setCells g (i * k) vs).ownsRow base e k (.slice (some ⟨g, 0, none⟩) i cap) i (xs.take (i * k)) ∧ w.grownBy (w.setCells g (i * k) vs) (some g) := by
  obtain ⟨cur, hg, hb, hn, hm, hs, hlt, hH⟩ := own_holds h
  have hl := h.1
  have h1 := setCells_putRow w g 0 vs (i * k) xs.toArray (by simpa [hl] using hv)
  rw [putRow_self id w g 0 _ hH, Nat.zero_add] at h1
  have hik : i * k ≤ n * k := Nat.mul_le_mul_right _ hi
  have hys : (setMany xs.toArray (i * k) vs).toList.length = xs.length := by rw [Array.length_toList, size_setMany, List.size_toArray]
  have e2 : putRow id w g 0 (setMany xs.toArray (i * k) vs) = grow (putRow id (Sort.ahead w 0) g 0 (setMany xs.toArray (i * k) vs).toList.toArray) #[] := by rw [grow_empty, Sort.ahead_zero, Array.toArray_toList]
  have hp := own_put (m := 0) (os := #[]) h hys
  rw [h1, e2]
  refine ⟨?_, grownBy_row _⟩
  obtain ⟨cur', hg', hb', hn', hm', hs', _, _⟩ := own_holds hp
  refine ⟨by rw [List.length_take]; omega, .inr ⟨g, cap, cur', rfl, hb', hg', by omega, hm', hs', ?_⟩⟩
  rcases hp.2 with ⟨h0, _⟩ | ⟨g2, cap2, cur2, e0, _, hg2, _, _, _, ht2⟩
  · cases h0
  · injection e0 with e1 _ e3
    injection e1 with e1
    injection e1 with e1
    subst e1; subst e3
    have ec : cur' = cur2 := by rw [hg'] at hg2; cases hg2; rfl
    subst ec
    have e5 : cur'.toList.take (i * k) = (cur'.toList.take (n * k)).take (i * k) := by rw [List.take_take, Nat.min_eq_left hik]
    rw [e5, ht2]
    apply List.ext_getElem?
    intro t
    by_cases ht : t < i * k
    · rw [List.getElem?_take_of_lt ht, List.getElem?_take_of_lt ht, Array.getElem?_toList]
      have htx : t < xs.length := by omega
      have hg3 := get_setMany vs (i * k) xs.toArray t (by simpa using htx)
      rw [if_neg (by omega)] at hg3
      rw [getElem!_pos _ t (by simpa using htx), getElem!_pos _ t (by simpa using htx)] at hg3
      rw [Array.getElem?_eq_getElem (by simpa using htx), List.getElem?_eq_getElem htx, hg3]
      simp
    · rw [List.getElem?_take_eq_none (by omega), List.getElem?_take_eq_none (by omega)]

variable {P : Program}
theorem run_clear_many (w : World) (t e ty : TypeId) (z : Value) (vs : List Value) (ht : P.underlying t = some (.slice e)) (hv : ∀ w, (zeroValue e).run P w = .ok z w) (b o n c : Nat) (hn : 0 < n)
    (hz : (Builtin.zeroCells z.cells n).toList = vs) (h1 : ∀ v ∈ vs, v.oneCell' = true)
    (hc : ∀ j, j < vs.length → (w.cell? ⟨b, o + j, none⟩).isSome = true) (hf : ∀ j, j < vs.length → w.frozen? ⟨b, o + j, none⟩ = false) :
    (Builtin.clear_ #[t] ty #[.slice (some ⟨b, o, none⟩) n c]).run P w = .ok (.tuple #[]) (w.setCells b o vs) := by
  have hst := run_storeCells_cells (P := P) b o vs 0 w (by simpa using hc) (by simpa using hf) h1
  simp only [Nat.add_zero] at hst
  obtain ⟨m, rfl⟩ : ∃ m, n = m + 1 := ⟨n - 1, by omega⟩
  simp [Builtin.clear_, run_underlying ht, hv, hz, hst]
end Go.Proofs.Ytkefppdacigbmaa
