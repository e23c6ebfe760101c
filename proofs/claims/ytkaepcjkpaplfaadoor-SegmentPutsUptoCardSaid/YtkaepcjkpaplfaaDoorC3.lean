/- Frames, there and back; what is linear. -/
import Derived.Test.YtkaepcjkpaplfaaDoorC2
namespace Go.Proofs.YtkaepcjkpaplfaaDoor

theorem take_put (l : List UInt8) : takeF (putF l) = (l, 0) := by
  have h1 : (putF l).take ((putF l).length - 4) = l := by
    rw [putF_length, Nat.add_sub_cancel, putF, List.take_left']; rfl
  rw [takeF, if_neg (by rw [putF_length]; omega), h1, if_pos rfl]

theorem take_cases (f : List UInt8) : (f.length < 4 ∧ takeF f = ([], 4)) ∨ (4 ≤ f.length ∧ takeF f = ([], 5)) ∨ (takeF f = (f.take (f.length - 4), 0) ∧ putF (f.take (f.length - 4)) = f) := by
  unfold takeF
  by_cases h : f.length < 4
  · exact .inl ⟨h, by rw [if_pos h]⟩
  · by_cases h2 : putF (f.take (f.length - 4)) = f
    · exact .inr (.inr ⟨by rw [if_neg h, if_pos h2], h2⟩)
    · exact .inr (.inl ⟨by omega, by rw [if_neg h, if_neg h2]⟩)

/-! Three texts, added -/
def add3 (a b c : List UInt8) : List UInt8 := List.zipWith (fun x y => x ^^^ y) (List.zipWith (fun x y => x ^^^ y) a b) c

theorem add3_len {n : Nat} (a b c : List UInt8) (ha : a.length = n) (hb : b.length = n) (hc : c.length = n) : (add3 a b c).length = n := by
  simp [add3, ha, hb, hc]
theorem add3_get (a b c : List UInt8) (k : Nat) (x y z : UInt8) (hx : a[k]? = some x) (hy : b[k]? = some y) (hz : c[k]? = some z) : (add3 a b c)[k]? = some (x ^^^ y ^^^ z) := by
  simp [add3, List.getElem?_zipWith, hx, hy, hz]
/-- One place more is filled. -/
theorem fill_step (M : List UInt8) (n k : Nat) (c : UInt8) (hk : k < n) (hc : M[k]? = some c) : (M.take k ++ List.replicate (n - k) (0 : UInt8)).set k c = M.take (k + 1) ++ List.replicate (n - (k + 1)) 0 := by
  obtain ⟨hl, rfl⟩ := List.getElem?_eq_some_iff.1 hc
  have e : n - k = (n - (k + 1)) + 1 := by omega
  rw [List.set_append_right _ _ (by simp; omega), List.take_succ_eq_append_getElem hl, List.append_assoc, e, List.replicate_succ]
  congr 1
  have : k - (List.take k M).length = 0 := by simp; omega
  rw [this]; rfl
theorem fill_len (M : List UInt8) (n k : Nat) (hM : M.length = n) (hk : k ≤ n) : (M.take k ++ List.replicate (n - k) (0 : UInt8)).length = n := by
  simp; omega

theorem byt_xor3 (s t u : Nat) (x y z : UInt8) : byt (s ^^^ t ^^^ u) (x ^^^ y ^^^ z) = byt s x ^^^ byt t y ^^^ byt u z := by
  unfold byt
  rw [UInt8.toNat_xor, UInt8.toNat_xor, ← it_stp_xor, ← it_stp_xor]
  congr 1
  ac_rfl

theorem reg_xor3 : ∀ (a b c : List UInt8) (s t u : Nat), a.length = b.length → b.length = c.length → reg (s ^^^ t ^^^ u) (add3 a b c) = reg s a ^^^ reg t b ^^^ reg u c
  | [], [], [], _, _, _, _, _ => rfl
  | x :: a, y :: b, z :: c, s, t, u, h1, h2 => by
    have := reg_xor3 a b c (byt s x) (byt t y) (byt u z) (by simpa using h1) (by simpa using h2)
    simp only [add3, List.zipWith_cons_cons, reg, List.foldl_cons] at this ⊢
    rw [byt_xor3]; exact this

theorem not_xor3 {a b c : Nat} (ha : a < 4294967296) (hb : b < 4294967296) (hc : c < 4294967296) :
    4294967295 - (a ^^^ b ^^^ c) = (4294967295 - a) ^^^ (4294967295 - b) ^^^ (4294967295 - c) := by
  have h3 : ∀ i, Nat.testBit 4294967295 i = decide (i < 32) := fun i => by
    have := Nat.testBit_two_pow_sub_one 32 i
    simpa using this
  have hn : ∀ x, x < 4294967296 → 4294967295 - x = 4294967295 ^^^ x := fun x hx => by
    apply Nat.eq_of_testBit_eq
    intro i
    have h2 : (4294967295 - x).testBit i = (decide (i < 32) && !x.testBit i) := by
      have := Nat.testBit_two_pow_sub_succ (x := x) (n := 32) (by omega) i
      rw [show 2 ^ 32 - (x + 1) = 4294967295 - x by omega] at this
      exact this
    rw [Nat.testBit_xor, h2, h3]
    by_cases hi : i < 32
    · simp [hi]
    · have : x.testBit i = false := Nat.testBit_lt_two_pow (Nat.lt_of_lt_of_le hx (show 2 ^ 32 ≤ 2 ^ i from Nat.pow_le_pow_right (by omega) (by omega)))
      simp [hi, this]
  rw [hn _ (xor_lt (xor_lt ha hb) hc), hn a ha, hn b hb, hn c hc]
  have : (4294967295 ^^^ a) ^^^ (4294967295 ^^^ b) ^^^ (4294967295 ^^^ c) = (4294967295 ^^^ (a ^^^ b ^^^ c)) ^^^ (4294967295 ^^^ 4294967295) := by ac_rfl
  rw [this, Nat.xor_self, Nat.xor_zero]

theorem sum_add3 (a b c : List UInt8) (h1 : a.length = b.length) (h2 : b.length = c.length) : sumF (add3 a b c) = sumF a ^^^ sumF b ^^^ sumF c := by
  unfold sumF extF
  have h : (4294967295 - 0 : Nat) = (4294967295 - 0) ^^^ (4294967295 - 0) ^^^ (4294967295 - 0) := by decide
  have e := reg_xor3 a b c (4294967295 - 0) (4294967295 - 0) (4294967295 - 0) h1 h2
  rw [← h] at e
  rw [e, not_xor3 (reg_lt _ (by decide)) (reg_lt _ (by decide)) (reg_lt _ (by decide))]

end Go.Proofs.YtkaepcjkpaplfaaDoor
