/- A number's form read again; the records that were laid are told. -/
import Derived.Test.YtkaepcjkpaplfaaDoorP2
namespace Go.Proofs.YtkaepcjkpaplfaaDoor

theorem vget_put : ∀ (f i acc m : Nat) (d : List UInt8), m < 128 ^ (f + 1) → i + f ≤ 9 → (0 < i → 1 ≤ m) → m * 128 ^ i < 18446744073709551616 → vgetN i acc (vputN f m ++ d) = (0, acc + m * 128 ^ i, d) := by
  have small : ∀ (i acc m : Nat) (d : List UInt8), m < 128 → (0 < i → 1 ≤ m) → (i = 9 → m ≤ 1) → vgetN i acc ([UInt8.ofNat m] ++ d) = (0, acc + m * 128 ^ i, d) := by
    intro i acc m d hm h0 h9
    have e : (UInt8.ofNat m).toNat = m := by rw [UInt8.toNat_ofNat']; omega
    show vgetN i acc (UInt8.ofNat m :: d) = _
    unfold vgetN
    rw [e, if_neg (by rintro (⟨h1, h2⟩ | ⟨h1, h2⟩); have := h9 h1; omega; have := h0 h1; omega), if_pos hm]
  intro f
  induction f with
  | zero =>
    intro i acc m d hm _ h0 hb
    exact small i acc m d (by omega) h0 (fun h => by subst h; omega)
  | succ f ih =>
    intro i acc m d hm hi h0 hb
    by_cases h : m < 128
    · rw [vput_last h]; exact small i acc m d h h0 (fun h => by subst h; omega)
    · rw [vput_more h]
      have e : (UInt8.ofNat (m % 128 + 128)).toNat = m % 128 + 128 := by rw [UInt8.toNat_ofNat']; omega
      show vgetN i acc (UInt8.ofNat (m % 128 + 128) :: (vputN f (m / 128) ++ d)) = _
      unfold vgetN
      rw [e, if_neg (by rintro (⟨h1, h2⟩ | ⟨h1, h2⟩) <;> omega), if_neg (by omega)]
      have hm2 : m / 128 < 128 ^ (f + 1) := by rw [Nat.pow_succ] at hm; omega
      have hb2 : m / 128 * 128 ^ (i + 1) < 18446744073709551616 := by
        have : m / 128 * 128 ^ (i + 1) = (m / 128 * 128) * 128 ^ i := by rw [Nat.pow_succ, Nat.mul_comm (128 ^ i) 128, Nat.mul_assoc]
        rw [this]
        exact Nat.lt_of_le_of_lt (Nat.mul_le_mul_right _ (Nat.div_mul_le_self m 128)) hb
      rw [ih (i + 1) _ (m / 128) d hm2 (by omega) (fun _ => by omega) hb2]
      have e2 : m = m % 128 + 128 * (m / 128) := (Nat.mod_add_div m 128).symm
      have e3 : (m % 128 + 128 - 128) * 128 ^ i + m / 128 * 128 ^ (i + 1) = m * 128 ^ i := by
        conv => rhs; rw [e2]
        rw [Nat.pow_succ, Nat.add_mul, Nat.add_sub_cancel, Nat.mul_comm 128 (m / 128), Nat.mul_assoc (m / 128) 128, Nat.mul_comm 128 (128 ^ i)]
      rw [Nat.add_assoc, e3]

theorem recF_form {n : Nat} {d : List UInt8} (hn : may n) (hd : d.length ≤ 1500) : recF (vput n ++ d) = some (n, d) := by
  have h : vgetN 0 0 (vput n ++ d) = (0, n, d) := by
    have := vget_put 9 0 0 n d (by have := hn.2; omega) (by omega) (fun h => by omega) (by have := hn.2; omega)
    simpa [vput] using this
  have hv : vget 1099511627776 (vput n ++ d) = (0, n, d) := by
    unfold vget
    rw [h, if_neg (by simp), if_neg (by have := hn.2; show ¬ (1099511627776 < n); omega)]
  unfold recF
  rw [hv, if_neg]
  rintro (h1 | h1 | h1)
  · exact h1 rfl
  · have := hn.1
    simp only [] at h1
    omega
  · simp only [] at h1
    omega

/-- Records whose numbers rise from least on, each of which may be. -/
def Rise : Nat → List (Nat × List UInt8) → Prop
  | _, [] => True
  | least, x :: xs => least ≤ x.1 ∧ may x.1 ∧ x.2.length ≤ 1500 ∧ Rise (x.1 + 1) xs
theorem Rise.mono : ∀ {xs : List (Nat × List UInt8)} {a b : Nat}, Rise b xs → a ≤ b → Rise a xs
  | [], _, _, _, _ => trivial
  | _ :: _, _, _, h, hab => ⟨Nat.le_trans hab h.1, h.2⟩
theorem Rise.drop : ∀ {xs : List (Nat × List UInt8)} {a : Nat} (k : Nat), Rise a xs → Rise a (xs.drop k)
  | _, _, 0, h => h
  | [], _, _ + 1, _ => trivial
  | _ :: _, _, k + 1, h => Rise.drop k (h.2.2.2.mono (Nat.le_trans h.1 (Nat.le_succ _)))
theorem laid_rise : ∀ (k n : Nat) (ss : List UInt8) (ds : List (List UInt8)), Rise n (laidL k n ss ds)
  | 0, _, _, _ => trivial
  | _ + 1, _, [], _ => trivial
  | k + 1, n, s :: ss, ds => by
    unfold laidL
    split
    · rename_i h
      exact ⟨Nat.le_add_right _ _, h, by rw [List.length_take]; omega, laid_rise k _ ss ds.tail⟩
    · trivial
theorem laid_len : ∀ (k n : Nat) (ss : List UInt8) (ds : List (List UInt8)), (laidL k n ss ds).length ≤ k
  | 0, _, _, _ => Nat.zero_le _
  | _ + 1, _, [], _ => Nat.zero_le _
  | k + 1, n, s :: ss, ds => by
    unfold laidL
    split
    · have := laid_len k (n + s.toNat + 1) ss ds.tail
      simp only [List.length_cons]; omega
    · exact Nat.zero_le _

def recsOf (xs : List (Nat × List UInt8)) : List (List UInt8) := xs.map fun x => vput x.1 ++ x.2
theorem forms_frs (xs : List (Nat × List UInt8)) : formsOf xs = frs (recsOf xs) := by
  show (xs.map formOf).flatten = ((xs.map fun x => vput x.1 ++ x.2).map fr).flatten
  rw [List.map_map]; rfl
theorem recs_good : ∀ {xs : List (Nat × List UInt8)} {a : Nat}, Rise a xs → ∀ r ∈ recsOf xs, Good r
  | [], _, _, r, hr => by simp [recsOf] at hr
  | x :: xs, a, h, r, hr => by
    simp only [recsOf, List.map_cons, List.mem_cons] at hr
    rcases hr with rfl | hr
    · exact good_form x.1 x.2 h.2.2.1
    · exact recs_good h.2.2.2 r hr
theorem splitL_recs : ∀ {xs : List (Nat × List UInt8)} {a : Nat} (more : List (List UInt8)), Rise a xs →
    ∃ b, splitL a (recsOf xs ++ more) = (xs ++ (splitL b more).1, (formsOf xs).length + (splitL b more).2) ∧ a ≤ b
  | [], a, more, _ => ⟨a, by simp [recsOf, formsOf], Nat.le_refl _⟩
  | x :: xs, a, more, h => by
    obtain ⟨b, hb, hab⟩ := splitL_recs more h.2.2.2
    refine ⟨b, ?_, Nat.le_trans h.1 (Nat.le_trans (Nat.le_succ _) hab)⟩
    have e : recsOf (x :: xs) ++ more = (vput x.1 ++ x.2) :: (recsOf xs ++ more) := rfl
    rw [e, splitL_go (recF_form h.2.1 h.2.2.1) h.1, hb]
    have e2 : (formsOf (x :: xs)).length = (vput x.1 ++ x.2).length + 8 + (formsOf xs).length := by
      simp only [formsOf, List.map_cons, List.flatten_cons, List.length_append, formOf, fr_length]
    rw [e2]
    simp [Nat.add_assoc]
/-- Laid records are told whole, whatever no record stands behind. -/
theorem splitS_forms {xs : List (Nat × List UInt8)} {first : Nat} (t : List UInt8) (hf : may first) (h : Rise first xs) (ht : nextR t = none) : splitS (formsOf xs ++ t) first = (xs, (formsOf xs).length) := by
  unfold splitS
  rw [if_pos hf, forms_frs, splitF_frs _ _ (recs_good h), splitF_none ht]
  obtain ⟨b, hb, -⟩ := splitL_recs [] h
  rw [hb]
  simp [splitL, forms_frs]

end Go.Proofs.YtkaepcjkpaplfaaDoor
