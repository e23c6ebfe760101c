/- A number's form read as the reference reads it, plainly: the bytes that go on, then from the last back to the first. -/
import Derived.Test.YtkaepcjkpaplfaaDoorS1
namespace Go.Proofs.YtkaepcjkpaplfaaDoor

/-- Groups of seven bits, the least first. -/
def lowS : List UInt8 → Nat
  | [] => 0
  | c :: r => c.toNat % 128 + 128 * lowS r

theorem lowS_lt : ∀ l : List UInt8, lowS l < 128 ^ l.length
  | [] => by simp [lowS]
  | c :: r => by
    have h := lowS_lt r
    have hc : c.toNat % 128 < 128 := Nat.mod_lt _ (by decide)
    simp only [lowS, List.length_cons, Nat.pow_succ]
    omega
theorem lowS_snoc : ∀ (p : List UInt8) (c : UInt8), lowS (p ++ [c]) = lowS p + c.toNat % 128 * 128 ^ p.length
  | [], c => by simp [lowS]
  | d :: p, c => by
    have h := lowS_snoc p c
    simp only [List.cons_append, lowS, h, List.length_cons, Nat.pow_succ, Nat.mul_add]
    rw [show 128 * (c.toNat % 128 * 128 ^ p.length) = c.toNat % 128 * (128 ^ p.length * 128) by rw [Nat.mul_comm (128 ^ p.length), ← Nat.mul_assoc, ← Nat.mul_assoc, Nat.mul_comm 128]]
    omega

theorem vgetN_high : ∀ (p r : List UInt8) (i acc : Nat), (∀ c ∈ p, 128 ≤ c.toNat) → i + p.length ≤ 9 → vgetN i acc (p ++ r) = vgetN (i + p.length) (acc + lowS p * 128 ^ i) r
  | [], r, i, acc, _, _ => by simp [lowS]
  | c :: p, r, i, acc, hp, hi => by
    have hc := hp c (List.mem_cons_self)
    have hlt : c.toNat < 256 := c.toNat_lt
    simp only [List.length_cons] at hi
    have ih := vgetN_high p r (i + 1) (acc + (c.toNat - 128) * 128 ^ i) (fun d hd => hp d (List.mem_cons_of_mem _ hd)) (by omega)
    rw [List.cons_append]
    conv => lhs; unfold vgetN
    rw [if_neg (by omega), if_neg (by omega), ih]
    have e : acc + (c.toNat - 128) * 128 ^ i + lowS p * 128 ^ (i + 1) = acc + lowS (c :: p) * 128 ^ i := by
      have e1 : c.toNat % 128 = c.toNat - 128 := by omega
      have e2 : lowS p * 128 ^ (i + 1) = 128 * lowS p * 128 ^ i := by
        rw [Nat.pow_succ, Nat.mul_comm (128 ^ i), ← Nat.mul_assoc, Nat.mul_comm (lowS p)]
      simp only [lowS, e1, Nat.add_mul, e2]; omega
    rw [e, List.length_cons]
    congr 1
    omega
theorem vgetN_ten (p r : List UInt8) (hp : ∀ c ∈ p, 128 ≤ c.toNat) (hl : p.length = 10) : vgetN 0 0 (p ++ r) = (5, 0, []) := by
  obtain ⟨c, hc⟩ : ∃ c, p.drop 9 = [c] := List.length_eq_one_iff.1 (by rw [List.length_drop]; omega)
  have e : p ++ r = p.take 9 ++ (c :: r) := by
    conv => lhs; rw [← List.take_append_drop 9 p, hc]
    simp
  have hcm : c ∈ p := List.mem_of_mem_drop (i := 9) (by rw [hc]; exact List.mem_singleton.2 rfl)
  have h9 : (p.take 9).length = 9 := by rw [List.length_take]; omega
  have hc128 := hp c hcm
  rw [e, vgetN_high _ _ _ _ (fun d hd => hp d (List.mem_of_mem_take hd)) (by omega), h9]
  unfold vgetN
  rw [if_pos (.inl ⟨rfl, by omega⟩)]

/-- The three ways of a number's form, by how many bytes go on. -/
theorem vget_ten (most : Nat) (l : List UInt8) (n : Nat) (hn : n ≤ l.length) (h : ∀ c ∈ l.take n, 128 ≤ c.toNat) (h10 : 10 ≤ n) : vget most l = (5, 0, l) := by
  have h2 : vgetN 0 0 l = (5, 0, []) := by
    conv => lhs; rw [← List.take_append_drop 10 l]
    refine vgetN_ten _ _ (fun c hc => h c ?_) (by rw [List.length_take]; omega)
    have : l.take 10 = (l.take n).take 10 := by rw [List.take_take, Nat.min_eq_left h10]
    rw [this] at hc
    exact List.mem_of_mem_take hc
  unfold vget; rw [h2]; rfl
theorem vget_all (most : Nat) (l : List UInt8) (h : ∀ c ∈ l, 128 ≤ c.toNat) (h9 : l.length < 10) : vget most l = (4, 0, l) := by
  have h2 : vgetN 0 0 l = (4, 0, []) := by
    have := vgetN_high l [] 0 0 h (by omega)
    rw [List.append_nil] at this
    rw [this]; rfl
  unfold vget; rw [h2]; rfl
theorem vget_at (most : Nat) (l : List UInt8) (n : Nat) (hn : n < l.length) (h : ∀ c ∈ l.take n, 128 ≤ c.toNat) (h9 : n < 10) (hc : (l[n]).toNat < 128) :
    vget most l = if n = 9 ∧ 1 < (l[n]).toNat then (5, 0, l) else if 0 < n ∧ (l[n]).toNat = 0 then (5, 0, l) else if most < lowS (l.take (n + 1)) then (3, 0, l) else (0, lowS (l.take (n + 1)), l.drop (n + 1)) := by
  have hl : (l.take n).length = n := by rw [List.length_take]; omega
  have e0 : l = l.take n ++ (l[n] :: l.drop (n + 1)) := by
    conv => lhs; rw [← List.take_append_drop n l, List.drop_eq_getElem_cons hn]
  have h2 : vgetN 0 0 l = vgetN n (lowS (l.take n)) (l[n] :: l.drop (n + 1)) := by
    conv => lhs; rw [e0]
    rw [vgetN_high _ _ _ _ h (by omega), hl]; simp
  have hs : lowS (l.take (n + 1)) = lowS (l.take n) + (l[n]).toNat * 128 ^ n := by
    rw [List.take_succ_eq_append_getElem hn, lowS_snoc, hl, Nat.mod_eq_of_lt hc]
  generalize l[n] = c at *
  rw [hs]
  have e5 : ∀ (A : Nat) (r : List UInt8), vgetN n A (c :: r) = if (n = 9 ∧ 1 < c.toNat) ∨ (0 < n ∧ c.toNat = 0) then (5, 0, []) else if c.toNat < 128 then (0, A + c.toNat * 128 ^ n, r) else vgetN (n + 1) (A + (c.toNat - 128) * 128 ^ n) r := fun A r => by conv => lhs; unfold vgetN
  rw [e5] at h2
  by_cases a1 : (n = 9 ∧ 1 < c.toNat)
  · rw [if_pos (.inl a1)] at h2
    rw [if_pos a1]; unfold vget; rw [h2]; rfl
  · by_cases a2 : (0 < n ∧ c.toNat = 0)
    · rw [if_pos (.inr a2)] at h2
      rw [if_neg a1, if_pos a2]; unfold vget; rw [h2]; rfl
    · rw [if_neg (fun h => h.elim a1 a2), if_pos hc] at h2
      rw [if_neg a1, if_neg a2]; unfold vget; rw [h2]
      simp
theorem lowS_64 (q : List UInt8) (i : Nat) (hl : q.length ≤ 10) (h9 : ∀ h : 9 < q.length, (q[9]).toNat ≤ 1) : lowS (q.drop i) < 18446744073709551616 := by
  rcases Nat.lt_or_ge (q.drop i).length 10 with h | h
  · have h1 := lowS_lt (q.drop i)
    have h2 : 128 ^ (q.drop i).length ≤ 128 ^ 9 := Nat.pow_le_pow_right (by decide) (by omega)
    have h3 : (128 : Nat) ^ 9 < 18446744073709551616 := by decide
    omega
  · rw [List.length_drop] at h
    have hi : i = 0 := by omega
    subst hi
    have hq : q.length = 10 := by omega
    have h1 := h9 (by omega)
    have e : q.drop 0 = q.take 9 ++ [q[9]] := by
      rw [List.drop_zero]
      conv => lhs; rw [← List.take_append_drop 9 q, List.drop_eq_getElem_cons (by omega), List.drop_of_length_le (by omega)]
    rw [e, lowS_snoc]
    have hl9 : (q.take 9).length = 9 := by rw [List.length_take]; omega
    have h2 := lowS_lt (q.take 9)
    rw [hl9] at h2 ⊢
    have h3 : (q[9]).toNat % 128 ≤ 1 := by omega
    have h4 : (q[9]).toNat % 128 * 128 ^ 9 ≤ 1 * 128 ^ 9 := Nat.mul_le_mul_right _ h3
    have h5 : (128 : Nat) ^ 9 = 9223372036854775808 := by decide
    omega
theorem lowS_step (q : List UInt8) (i : Nat) (h : i < q.length) : lowS (q.drop i) = 128 * lowS (q.drop (i + 1)) + (q[i]).toNat % 128 := by
  rw [List.drop_eq_getElem_cons h]
  simp only [lowS]; omega

/-- The records of frames as the reference tells them. -/
theorem splitL_last (last : Nat) (f : List UInt8) (fs : List (List UInt8)) : splitL (last + 1) (f :: fs) = if (vget 1099511627776 f).1 ≠ 0 ∨ (vget 1099511627776 f).2.1 ≤ last ∨ 1500 < (vget 1099511627776 f).2.2.length then ([], 0)
    else (((vget 1099511627776 f).2.1, (vget 1099511627776 f).2.2) :: (splitL ((vget 1099511627776 f).2.1 + 1) fs).1, f.length + 8 + (splitL ((vget 1099511627776 f).2.1 + 1) fs).2) := by
  conv => lhs; unfold splitL
  unfold recF
  by_cases h1 : (vget 1099511627776 f).1 ≠ 0
  · rw [if_pos (.inl h1), if_pos (.inl h1)]
  · by_cases h3 : 1500 < (vget 1099511627776 f).2.2.length
    · rw [if_pos (.inr (.inr h3)), if_pos (.inr (.inr h3))]
    · by_cases h0 : (vget 1099511627776 f).2.1 = 0
      · rw [if_pos (.inr (.inl h0)), if_pos (.inr (.inl (by omega)))]
      · rw [if_neg (by rintro (h | h | h); exact h1 h; exact h0 h; exact h3 h)]
        show (if (vget 1099511627776 f).2.1 < last + 1 then _ else _) = _
        by_cases h2 : (vget 1099511627776 f).2.1 ≤ last
        · rw [if_pos (by omega), if_pos (.inr (.inl h2))]
        · rw [if_neg (by omega), if_neg (by rintro (h | h | h); exact h1 h; exact h2 h; exact h3 h)]

end Go.Proofs.YtkaepcjkpaplfaaDoor
