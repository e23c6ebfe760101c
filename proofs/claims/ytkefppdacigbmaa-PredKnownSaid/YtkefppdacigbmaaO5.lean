/- What slices.Compact's inner loop keeps; cells of a row of the call's own that may be written; cells of zero. (Of any program.) -/
import Derived.Test.YtkefppdacigbmaaO2
import Derived.Test.YtkefppdacigbmaaO4
import Derived.Deep.MidRow
namespace Go.Proofs.Ytkefppdacigbmaa
open Go.RowKit Go.Sort

section
variable {α : Type} [DecidableEq α]
/-- i elements have been read, k are kept at the row's head; what has not been read stands. -/
structure CompInv (l r : List α) (k i : Nat) : Prop where
  len : r.length = l.length
  pos : 1 ≤ k
  le : k + 1 ≤ i
  hi : i ≤ l.length
  tk : r.take k = compE (l.take i)
  dr : r.drop (i - 1) = l.drop (i - 1)
theorem CompInv.start {l : List α} {m : Nat} (h : m + 1 < l.length) (hc : compE (l.take (m + 1)) = l.take (m + 1)) (e : l[m + 1] = l[m]) : CompInv l l (m + 1) (m + 2) := by
  refine ⟨rfl, by omega, by omega, by omega, ?_, rfl⟩
  rw [compE_take h, if_pos e, hc]
theorem CompInv.at {l r : List α} {k i : Nat} (h : CompInv l r k i) (hi : i < l.length) : ∃ (h1 : i < r.length) (h2 : i - 1 < r.length), r[i] = l[i] ∧ r[i - 1] = l[i - 1]'(by omega) := by
  have hp := h.pos
  have hl := h.le
  have hn := h.len
  refine ⟨by omega, by omega, ?_, ?_⟩
  · have := congrArg (fun x => x[1]?) h.dr
    simp only [List.getElem?_drop] at this
    have e : i - 1 + 1 = i := by omega
    rw [e, List.getElem?_eq_getElem (by omega), List.getElem?_eq_getElem hi] at this
    exact Option.some.inj this
  · have := congrArg (fun x => x[0]?) h.dr
    simp only [List.getElem?_drop, Nat.add_zero] at this
    rw [List.getElem?_eq_getElem (by omega), List.getElem?_eq_getElem (by omega)] at this
    exact Option.some.inj this
theorem CompInv.drop {l r : List α} {k i : Nat} (h : CompInv l r k i) : r.drop i = l.drop i := by
  have := congrArg (fun x => x.drop 1) h.dr
  have hl := h.le
  have hp := h.pos
  simp only [List.drop_drop] at this
  have e : i - 1 + 1 = i := by omega
  rw [e] at this
  exact this
theorem comp_read {l : List α} {i : Nat} (h1 : 1 ≤ i) (hi : i < l.length) : compE (l.take (i + 1)) = if l[i] = l[i - 1] then compE (l.take i) else compE (l.take i) ++ [l[i]] := by
  obtain ⟨m, rfl⟩ : ∃ m, i = m + 1 := ⟨i - 1, by omega⟩
  exact compE_take hi
theorem CompInv.same {l r : List α} {k i : Nat} (h : CompInv l r k i) (hi : i < l.length) (e : l[i] = l[i - 1]) : CompInv l r k (i + 1) := by
  have hp := h.pos
  have hl := h.le
  refine ⟨h.len, hp, by omega, hi, ?_, ?_⟩
  · rw [comp_read (by omega) hi, if_pos e]; exact h.tk
  · exact h.drop
theorem CompInv.next {l r : List α} {k i : Nat} (h : CompInv l r k i) (hi : i < l.length) (e : l[i] ≠ l[i - 1]) : CompInv l (r.set k l[i]) (k + 1) (i + 1) := by
  have hp := h.pos
  have hl := h.le
  have hn := h.len
  refine ⟨by rw [List.length_set]; exact hn, by omega, by omega, hi, ?_, ?_⟩
  · rw [comp_read (by omega) hi, if_neg e, ← h.tk]
    have hk : k < r.length := by omega
    rw [List.take_succ_eq_append_getElem (by rw [List.length_set]; exact hk), List.getElem_set_self, List.take_set_of_le (Nat.le_refl k)]
  · show (r.set k l[i]).drop i = l.drop i
    rw [List.drop_set_of_lt (by omega)]
    exact h.drop
theorem CompInv.done {l r : List α} {k : Nat} (h : CompInv l r k l.length) : r.take k = compE l ∧ (compE l).length = k := by
  have := h.tk
  rw [List.take_length] at this
  refine ⟨this, ?_⟩
  rw [← this, List.length_take]
  have := h.le; have := h.len
  omega
end
theorem own_there {w : World} {base g n cap k : Nat} {e : TypeId} {xs : List Value} (h : w.ownsRow base e k (.slice (some ⟨g, 0, none⟩) n cap) n xs) (i m : Nat) (hi : i * k + m ≤ n * k) : w.there g (i * k) m := by
  obtain ⟨cur, hg, hb, hn, hm, hs, hlt, hH⟩ := own_holds h
  have hl := h.1
  intro j hj
  have := hH (i * k + j) (by simp [hl]; omega)
  rw [Nat.zero_add] at this
  exact ⟨by rw [this.1]; rfl, this.2⟩
theorem zero_one {z : Array Value} {n : Nat} (h : ∀ v ∈ z.toList, v.oneCell' = true) : ∀ v ∈ (Builtin.zeroCells z n).toList, v.oneCell' = true := by
  intro v hv
  unfold Builtin.zeroCells at hv
  rw [Array.toList_map, List.mem_map] at hv
  obtain ⟨i, hi, rfl⟩ := hv
  rcases Nat.eq_zero_or_pos z.size with h0 | h0
  · simp [h0] at hi
  · have hm : i % z.size < z.size := Nat.mod_lt _ h0
    rw [getElem!_pos z _ hm]
    exact h _ (by simp)
theorem zero_len (z : Array Value) (n : Nat) : (Builtin.zeroCells z n).toList.length = n * z.size := by rw [Array.length_toList, size_zeroCells]
variable {P : Program}
/-- 'clear(s[i:])' over a row of the call's own. -/
theorem run_clear_tail {w : World} {base g n cap k : Nat} {e : TypeId} {xs : List Value} (h : w.ownsRow base e k (.slice (some ⟨g, 0, none⟩) n cap) n xs) (t : TypeId) (z : Value) (hz : z.cells.size = k) (hz1 : ∀ v ∈ z.cells.toList, v.oneCell' = true)
    (ht : P.underlying t = some (.slice e)) (hv : ∀ w, (zeroValue e).run P w = .ok z w) (i c : Nat) (hi : i < n) (ty : TypeId) :
    (Builtin.clear_ #[t] ty #[.slice (some ⟨g, i * k, none⟩) (n - i) c]).run P w = .ok (.tuple #[]) (w.setCells g (i * k) (Builtin.zeroCells z.cells (n - i)).toList) := by
  have hlen : (Builtin.zeroCells z.cells (n - i)).toList.length = (n - i) * k := by rw [zero_len, hz]
  have hth := own_there h i ((n - i) * k) (by rw [← Nat.add_mul]; exact Nat.mul_le_mul_right _ (by omega))
  exact run_clear_many w t e ty z _ ht hv g (i * k) (n - i) c (by omega) rfl (zero_one hz1) (fun j hj => (hth j (by rw [← hlen]; exact hj)).1) (fun j hj => (hth j (by rw [← hlen]; exact hj)).2)
theorem own_clear_tail {w : World} {base g n cap k i : Nat} {e : TypeId} {xs : List Value} (h : w.ownsRow base e k (.slice (some ⟨g, 0, none⟩) n cap) n xs) (hi : i ≤ n) (z : Value) (hz : z.cells.size = k) :
    (w.setCells g (i * k) (Builtin.zeroCells z.cells (n - i)).toList).ownsRow base e k (.slice (some ⟨g, 0, none⟩) i cap) i (xs.take (i * k)) ∧ w.grownBy (w.setCells g (i * k) (Builtin.zeroCells z.cells (n - i)).toList) (some g) := by
  refine own_cut_set h hi _ ?_
  rw [zero_len, hz, ← Nat.add_mul]
  exact Nat.mul_le_mul_right _ (by omega)
end Go.Proofs.Ytkefppdacigbmaa
