/- The sum's plain functions, and what they answer. -/
namespace Go.Proofs.YtkaepcjkpaplfaaDoor

def it {α : Type} (f : α → α) : Nat → α → α
  | 0, x => x
  | n + 1, x => f (it f n x)

theorem it_add {α : Type} (f : α → α) (m n : Nat) (x : α) : it f (m + n) x = it f m (it f n x) := by
  induction m with
  | zero => simp [it]
  | succ m ih => rw [Nat.add_right_comm]; simp [it, ih]

/-- One bit falls out. -/
def stp (n : Nat) : Nat := if n % 2 = 1 then n / 2 ^^^ 2197175160 else n / 2

theorem stp_lt {n : Nat} (h : n < 4294967296) : stp n < 4294967296 := by
  unfold stp
  split
  · exact Nat.xor_lt_two_pow (n := 32) (by omega) (by omega)
  · omega

theorem it_lt {f : Nat → Nat} (hf : ∀ n, n < 4294967296 → f n < 4294967296) : ∀ (k : Nat) {n : Nat}, n < 4294967296 → it f k n < 4294967296
  | 0, _, h => h
  | k + 1, _, h => hf _ (it_lt hf k h)

/-- A byte goes in. -/
def byt (s : Nat) (c : UInt8) : Nat := it stp 8 (s ^^^ c.toNat)

theorem xor_lt {a b : Nat} (ha : a < 4294967296) (hb : b < 4294967296) : a ^^^ b < 4294967296 := Nat.xor_lt_two_pow (n := 32) ha hb
theorem byte_lt (c : UInt8) : c.toNat < 256 := UInt8.toNat_lt c

theorem byt_lt {s : Nat} (c : UInt8) (h : s < 4294967296) : byt s c < 4294967296 :=
  it_lt (fun _ h => stp_lt h) 8 (xor_lt h (Nat.lt_trans (byte_lt c) (by decide)))

/-- The register behind bytes. -/
def reg (s : Nat) (l : List UInt8) : Nat := l.foldl byt s

theorem reg_lt {s : Nat} : ∀ (l : List UInt8), s < 4294967296 → reg s l < 4294967296 := by
  intro l
  induction l generalizing s with
  | nil => exact fun h => h
  | cons c l ih => exact fun h => ih (byt_lt c h)

theorem reg_append (s : Nat) (l m : List UInt8) : reg s (l ++ m) = reg (reg s l) m := by simp [reg]
theorem reg_snoc (s : Nat) (l : List UInt8) (k : Nat) (h : k < l.length) : reg s (l.take (k + 1)) = byt (reg s (l.take k)) l[k] := by
  rw [List.take_succ_eq_append_getElem h, reg_append]; rfl

def extF (s : Nat) (l : List UInt8) : Nat := 4294967295 - reg (4294967295 - s) l
def sumF (l : List UInt8) : Nat := extF 0 l

theorem extF_lt (s : Nat) (l : List UInt8) : extF s l < 4294967296 := by unfold extF; omega
theorem sumF_lt (l : List UInt8) : sumF l < 4294967296 := extF_lt _ _

theorem extF_append {s : Nat} (_h : s < 4294967296) (l m : List UInt8) : extF (extF s l) m = extF s (l ++ m) := by
  unfold extF
  have : reg (4294967295 - s) l < 4294967296 := reg_lt l (by omega)
  rw [reg_append, show 4294967295 - (4294967295 - reg (4294967295 - s) l) = reg (4294967295 - s) l by omega]
theorem extF_nil {s : Nat} (h : s < 4294967296) : extF s [] = s := by unfold extF reg; simp only [List.foldl_nil]; omega

/-! Four bits at once -/
theorem xor_mod_two (a b : Nat) : (a ^^^ b) % 2 = (a % 2) ^^^ (b % 2) := by
  have := Nat.xor_mod_two_pow (a := a) (b := b) (n := 1)
  simpa using this

theorem stp_xor (a b : Nat) : stp (a ^^^ b) = stp a ^^^ stp b := by
  unfold stp
  have hd : (a ^^^ b) / 2 = a / 2 ^^^ b / 2 := by
    have := Nat.xor_div_two_pow (a := a) (b := b) (n := 1); simpa using this
  rw [xor_mod_two, hd]
  rcases Nat.mod_two_eq_zero_or_one a with ha | ha <;> rcases Nat.mod_two_eq_zero_or_one b with hb | hb <;> simp [ha, hb]
  · ac_rfl
  · ac_rfl
  · have : (a / 2 ^^^ 2197175160) ^^^ (b / 2 ^^^ 2197175160) = (a / 2 ^^^ b / 2) ^^^ (2197175160 ^^^ 2197175160) := by ac_rfl
    rw [this, Nat.xor_self, Nat.xor_zero]

theorem it_stp_xor (k a b : Nat) : it stp k (a ^^^ b) = it stp k a ^^^ it stp k b := by
  induction k with
  | zero => rfl
  | succ k ih => simp only [it, ih, stp_xor]

theorem it_stp_shift : ∀ (k y : Nat), it stp k (y * 2 ^ k) = y
  | 0, y => by simp [it]
  | k + 1, y => by
    have h1 : y * 2 ^ (k + 1) = (y * 2) * 2 ^ k := by rw [Nat.pow_succ]; rw [Nat.mul_assoc, Nat.mul_comm 2]
    rw [it, h1, it_stp_shift k (y * 2)]
    unfold stp
    rw [if_neg (by omega)]; omega

theorem split16 (s : Nat) : s = (s / 16 * 2 ^ 4) ^^^ (s % 16) := by
  have h : s / 16 * 2 ^ 4 + s % 16 = s := by omega
  have h2 : s / 16 * 2 ^ 4 + s % 16 = (s / 16 * 2 ^ 4) ||| (s % 16) := by
    rw [Nat.mul_comm]; exact Nat.two_pow_add_eq_or_of_lt (by omega) _
  have h3 : (s / 16 * 2 ^ 4) ||| (s % 16) = (s / 16 * 2 ^ 4) ^^^ (s % 16) := by
    apply Nat.eq_of_testBit_eq
    intro i
    rw [Nat.testBit_or, Nat.testBit_xor]
    by_cases hi : i < 4
    · have : (s / 16 * 2 ^ 4).testBit i = false := by
        rw [Nat.testBit_mul_two_pow]; simp [Nat.not_le.2 hi]
      simp [this]
    · have : (s % 16).testBit i = false := Nat.testBit_lt_two_pow (Nat.lt_of_lt_of_le (show s % 16 < 2 ^ 4 by omega) (Nat.pow_le_pow_right (by omega) (by omega)))
      simp [this]
  rw [← h3, ← h2, h]

theorem four_bits (s : Nat) : it stp 4 s = s / 16 ^^^ it stp 4 (s % 16) := by
  conv => lhs; rw [split16 s, it_stp_xor, it_stp_shift]

end Go.Proofs.YtkaepcjkpaplfaaDoor
