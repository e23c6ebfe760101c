/- The reference's way to the next record. -/
import Derived.Test.YtkaepcjkpaplfaaDoorF1
namespace Go.Proofs.YtkaepcjkpaplfaaDoor

theorem byte_ne0 {c : UInt8} (h : c ≠ 0) : 1 ≤ c.toNat := by
  rcases Nat.eq_zero_or_pos c.toNat with h0 | h0
  · exact absurd (UInt8.toNat_inj.1 h0) h
  · exact h0

theorem nextR_short {d : List UInt8} (h : d.length < 9) : nextR d = none := by
  unfold nextR
  by_cases h4 : d.length < 4
  · rw [if_pos h4]
  · rw [if_neg h4]
    by_cases h1 : numF d < 1
    · rw [if_pos (.inl h1)]
    · rw [if_pos (by omega)]
theorem nextR_high {d : List UInt8} (h : 9 ≤ d.length) (hh : d[2] ≠ 0 ∨ d[3] ≠ 0) : nextR d = none := by
  have hn : 2048 < numF d := by
    match d, h with
    | a :: b :: c :: e :: r, _ =>
      show 2048 < a.toNat + 256 * b.toNat + 65536 * c.toNat + 16777216 * e.toNat
      rcases hh with hh | hh
      · have := byte_ne0 hh; simp only [List.getElem_cons_succ, List.getElem_cons_zero] at this; omega
      · have := byte_ne0 hh; simp only [List.getElem_cons_succ, List.getElem_cons_zero] at this; omega
  unfold nextR
  rw [if_neg (by omega), if_pos (.inr (.inl hn))]
theorem numF_low {d : List UInt8} (h : 9 ≤ d.length) (h2 : d[2] = 0) (h3 : d[3] = 0) : numF d = d[0].toNat + 256 * d[1].toNat := by
  match d, h, h2, h3 with
  | a :: b :: c :: e :: r, _, h2, h3 =>
    simp only [List.getElem_cons_succ, List.getElem_cons_zero] at h2 h3
    subst h2; subst h3
    show a.toNat + 256 * b.toNat + 65536 * (0 : UInt8).toNat + 16777216 * (0 : UInt8).toNat = _
    simp
theorem nextR_bad {d : List UInt8} (h : numF d < 1 ∨ 2048 < numF d ∨ d.length < numF d + 8) : nextR d = none := by
  unfold nextR
  by_cases h4 : d.length < 4
  · rw [if_pos h4]
  · rw [if_neg h4, if_pos h]
theorem nextR_test {d : List UInt8} (h1 : 1 ≤ numF d) (h2 : numF d ≤ 2048) (h3 : numF d + 8 ≤ d.length) :
    nextR d = if fr ((d.drop 4).take (numF d)) = d.take (numF d + 8) then some ((d.drop 4).take (numF d)) else none := by
  have hr : ((d.drop 4).take (numF d)).length = numF d := by simp; omega
  have hg : Good ((d.drop 4).take (numF d)) := ⟨by omega, by omega⟩
  by_cases ht : fr ((d.drop 4).take (numF d)) = d.take (numF d + 8)
  · rw [if_pos ht]
    have := nextR_fr ((d.drop 4).take (numF d)) (d.drop (numF d + 8)) hg
    rw [ht, List.take_append_drop] at this
    exact this
  · rw [if_neg ht]
    cases hn : nextR d with
    | none => rfl
    | some r =>
      exfalso
      obtain ⟨hgr, t, hd⟩ := nextR_some hn
      have hnum : numF d = r.length := by rw [hd]; exact numF_fr r t (by have := hgr.2; omega)
      have hrr : (d.drop 4).take (numF d) = r := by
        rw [hnum, hd, fr, putF, List.append_assoc, List.append_assoc, List.drop_left' (fourF_length _), List.take_left' rfl]
      apply ht
      rw [hrr, hnum, hd, List.take_left' (fr_length r)]

end Go.Proofs.YtkaepcjkpaplfaaDoor
