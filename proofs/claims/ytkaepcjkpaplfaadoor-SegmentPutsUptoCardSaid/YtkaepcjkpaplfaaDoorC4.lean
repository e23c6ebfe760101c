/- A tear is told. -/
import Derived.Test.YtkaepcjkpaplfaaDoorC3
namespace Go.Proofs.YtkaepcjkpaplfaaDoor

/-- The bytes as one number, the lowest first. -/
def num : List UInt8 → Nat
  | [] => 0
  | c :: l => c.toNat + 256 * num l

theorem shift8 (s y : Nat) : it stp 8 (s ^^^ y * 2 ^ 8) = it stp 8 s ^^^ y := by rw [it_stp_xor, it_stp_shift]

theorem byte_or (c : UInt8) (y : Nat) : c.toNat + 256 * y = c.toNat ^^^ y * 2 ^ 8 := by
  have h := split256 c y
  exact h
where
  split256 (c : UInt8) (y : Nat) : c.toNat + 256 * y = c.toNat ^^^ y * 2 ^ 8 := by
    have hc := byte_lt c
    have h2 : c.toNat + 256 * y = (y * 2 ^ 8) ||| c.toNat := by
      have := Nat.two_pow_add_eq_or_of_lt (i := 8) hc y
      rw [Nat.mul_comm y, ← this]; omega
    rw [h2]
    apply Nat.eq_of_testBit_eq
    intro i
    rw [Nat.testBit_or, Nat.testBit_xor]
    by_cases hi : i < 8
    · have : (y * 2 ^ 8).testBit i = false := by
        rw [Nat.testBit_mul_two_pow]; simp [Nat.not_le.2 hi]
      simp [this]
    · have : c.toNat.testBit i = false := Nat.testBit_lt_two_pow (Nat.lt_of_lt_of_le hc (show 2 ^ 8 ≤ 2 ^ i from Nat.pow_le_pow_right (by omega) (by omega)))
      simp [this]

theorem reg_num : ∀ (l : List UInt8) (s : Nat), reg s l = it stp (8 * l.length) (s ^^^ num l)
  | [], s => by simp [reg, num, it]
  | c :: l, s => by
    show reg (byt s c) l = _
    rw [reg_num l, num, byte_or, ← Nat.xor_assoc, List.length_cons, show 8 * (l.length + 1) = 8 * l.length + 8 by omega, it_add, shift8]
    rfl

theorem stp_ne {x : Nat} (h : x < 4294967296) (h0 : x ≠ 0) : stp x ≠ 0 := by
  unfold stp
  split
  · intro he
    have : x / 2 = 2197175160 := by
      have := congrArg (fun y => y ^^^ 2197175160) he
      simpa [Nat.xor_assoc] using this
    omega
  · omega
theorem it_ne : ∀ (k : Nat) {x : Nat}, x < 4294967296 → x ≠ 0 → it stp k x ≠ 0
  | 0, _, _, h0 => h0
  | k + 1, _, h, h0 => stp_ne (it_lt (fun _ h => stp_lt h) k h) (it_ne k h h0)

/-- Bytes of one length whose numbers differ by a word at some bit have other sums. -/
theorem sum_tells {l m : List UInt8} {x k : Nat} (hl : m.length = l.length) (hx : x < 4294967296) (h0 : x ≠ 0) (hk : k ≤ 8 * l.length) (hn : num m = num l ^^^ x * 2 ^ k) : sumF m ≠ sumF l := by
  intro he
  unfold sumF extF at he
  simp only [Nat.sub_zero] at he
  have h1 : reg 4294967295 m < 4294967296 := reg_lt m (by decide)
  have h2 : reg 4294967295 l < 4294967296 := reg_lt l (by decide)
  have h3 : reg 4294967295 m = reg 4294967295 l := by omega
  rw [reg_num, reg_num, hl, hn, ← Nat.xor_assoc, it_stp_xor _ (4294967295 ^^^ num l)] at h3
  have h4 : it stp (8 * l.length) (x * 2 ^ k) = 0 := by
    have := congrArg (fun y => it stp (8 * l.length) (4294967295 ^^^ num l) ^^^ y) h3
    simpa [← Nat.xor_assoc] using this
  rw [show 8 * l.length = (8 * l.length - k) + k by omega, it_add, it_stp_shift] at h4
  exact it_ne _ hx h0 h4

theorem num_set : ∀ (l : List UInt8) (p : Nat) (c d : UInt8), l[p]? = some c → num (l.set p (c ^^^ d)) = num l ^^^ d.toNat * 2 ^ (8 * p)
  | [], p, c, d, h => by simp at h
  | a :: l, 0, c, d, h => by
    simp at h; subst h
    rw [List.set_cons_zero, num, num, byte_or, byte_or, UInt8.toNat_xor, Nat.mul_zero, Nat.pow_zero, Nat.mul_one]
    ac_rfl
  | a :: l, p + 1, c, d, h => by
    have ih := num_set l p c d (by simpa using h)
    simp only [List.set_cons_succ, num, byte_or, ih]
    rw [show 8 * (p + 1) = 8 * p + 8 by omega, Nat.pow_add, ← Nat.mul_assoc]
    have hm : (num l ^^^ d.toNat * 2 ^ (8 * p)) * 2 ^ 8 = num l * 2 ^ 8 ^^^ d.toNat * 2 ^ (8 * p) * 2 ^ 8 := by
      simp only [← Nat.shiftLeft_eq, Nat.shiftLeft_xor_distrib]
    rw [hm, Nat.xor_assoc]

/-- One bit more of the word is turned. -/
theorem bit_more {x i : Nat} (h : x / 2 ^ i % 2 = 1) : x % 2 ^ (i + 1) = x % 2 ^ i ^^^ 2 ^ i := by
  apply Nat.eq_of_testBit_eq
  intro j
  have hb : x.testBit i = true := by rw [Nat.testBit_eq_decide_div_mod_eq]; simpa using h
  rw [Nat.testBit_xor, Nat.testBit_mod_two_pow, Nat.testBit_mod_two_pow, Nat.testBit_two_pow]
  by_cases e : i = j
  · subst e; simp [hb]
  · by_cases h2 : j < i
    · simp [e, h2, show j < i + 1 by omega]
    · simp [e, h2, show ¬ j < i + 1 by omega]
theorem bit_same {x i : Nat} (h : x / 2 ^ i % 2 = 0) : x % 2 ^ (i + 1) = x % 2 ^ i := by
  apply Nat.eq_of_testBit_eq
  intro j
  have hb : x.testBit i = false := by rw [Nat.testBit_eq_decide_div_mod_eq]; simp [h]
  rw [Nat.testBit_mod_two_pow, Nat.testBit_mod_two_pow]
  by_cases e : i = j
  · subst e; simp [hb]
  · by_cases h2 : j < i
    · simp [h2, show j < i + 1 by omega]
    · simp [h2, show ¬ j < i + 1 by omega]

/-- A frame of which one byte was turned is none. -/
theorem take_torn (l : List UInt8) (p : Nat) (c d : UInt8) (hp : (putF l)[p]? = some c) (hd : d ≠ 0) : takeF ((putF l).set p (c ^^^ d)) = ([], 5) := by
  have hlen : ((putF l).set p (c ^^^ d)).length = l.length + 4 := by rw [List.length_set, putF_length]
  have hne : c ^^^ d ≠ c := by
    intro h
    apply hd
    have := congrArg (fun x => c ^^^ x) h
    simpa [← UInt8.xor_assoc] using this
  rw [takeF, if_neg (by omega), if_neg]
  rw [hlen, Nat.add_sub_cancel]
  intro he
  by_cases hpl : p < l.length
  · -- a byte of the text
    have hc : l[p]? = some c := by
      rw [putF, List.getElem?_append_left hpl] at hp; exact hp
    have hset : (putF l).set p (c ^^^ d) = l.set p (c ^^^ d) ++ fourF (sumF l) := by rw [putF, List.set_append_left _ _ hpl]
    have htake : ((putF l).set p (c ^^^ d)).take l.length = l.set p (c ^^^ d) := by rw [hset, List.take_left' (by simp)]
    rw [htake, hset, putF] at he
    have h4 := List.append_cancel_left he
    have h5 := congrArg numF h4
    rw [numF_four (sumF_lt _), numF_four (sumF_lt _)] at h5
    refine sum_tells (l := l) (m := l.set p (c ^^^ d)) (x := d.toNat) (k := 8 * p) (by simp) (Nat.lt_trans (byte_lt d) (by decide)) ?_ (by omega) (num_set l p c d hc) h5
    intro h0
    exact hd (UInt8.toNat_inj.1 h0)
  · -- a byte of the sum
    have htake : ((putF l).set p (c ^^^ d)).take l.length = l := by
      rw [putF, List.set_append_right _ _ (by omega), List.take_left' rfl]
    rw [htake] at he
    have h1 := congrArg (fun x => x[p]?) he
    simp only [List.getElem?_set, if_true] at h1
    have hpb : p < (putF l).length := by
      rcases Nat.lt_or_ge p (putF l).length with h | h
      · exact h
      · rw [List.getElem?_eq_none h] at hp; cases hp
    rw [hp, if_pos hpb] at h1
    exact hne (Option.some.inj h1).symm

end Go.Proofs.YtkaepcjkpaplfaaDoor
