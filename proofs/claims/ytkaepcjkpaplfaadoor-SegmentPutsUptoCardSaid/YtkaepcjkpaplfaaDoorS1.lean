/- Records of a segment, plainly: a number's form, what a frame's bytes tell, the records of bytes, names. -/
import Derived.Test.YtkaepcjkpaplfaaDoorF2
namespace Go.Proofs.YtkaepcjkpaplfaaDoor

/-- A number's form: seven bits a byte, the least first. -/
def vputN : Nat → Nat → List UInt8
  | 0, n => [UInt8.ofNat n]
  | f + 1, n => if n < 128 then [UInt8.ofNat n] else UInt8.ofNat (n % 128 + 128) :: vputN f (n / 128)
def vput (n : Nat) : List UInt8 := vputN 9 n

theorem vputN_length : ∀ (f n : Nat), 1 ≤ (vputN f n).length ∧ (vputN f n).length ≤ f + 1
  | 0, _ => by simp [vputN]
  | f + 1, n => by
    unfold vputN
    split
    · simp
    · have := vputN_length f (n / 128)
      simp only [List.length_cons]; omega
theorem vput_length (n : Nat) : 1 ≤ (vput n).length ∧ (vput n).length ≤ 10 := vputN_length 9 n

/-- Reading a number: the error, the number, what is left. -/
def vgetN : Nat → Nat → List UInt8 → Nat × Nat × List UInt8
  | _, _, [] => (4, 0, [])
  | i, acc, c :: r =>
    if (i = 9 ∧ 1 < c.toNat) ∨ (0 < i ∧ c.toNat = 0) then (5, 0, [])
    else if c.toNat < 128 then (0, acc + c.toNat * 128 ^ i, r)
    else vgetN (i + 1) (acc + (c.toNat - 128) * 128 ^ i) r
def vget (most : Nat) (l : List UInt8) : Nat × Nat × List UInt8 :=
  if (vgetN 0 0 l).1 ≠ 0 then ((vgetN 0 0 l).1, 0, l) else if most < (vgetN 0 0 l).2.1 then (3, 0, l) else (0, (vgetN 0 0 l).2.1, (vgetN 0 0 l).2.2)

theorem vgetN_rest : ∀ (l : List UInt8) (i acc : Nat), (vgetN i acc l).1 = 0 → ∃ k, k ≤ l.length ∧ (vgetN i acc l).2.2 = l.drop k
  | [], i, acc, h => by simp [vgetN] at h
  | c :: r, i, acc, h => by
    unfold vgetN at h ⊢
    split at h
    · simp at h
    · rename_i h1
      rw [if_neg h1]
      split at h
      · rename_i h2
        rw [if_pos h2]
        exact ⟨1, by simp, rfl⟩
      · rename_i h2
        rw [if_neg h2]
        obtain ⟨k, hk, e⟩ := vgetN_rest r _ _ h
        exact ⟨k + 1, by simp only [List.length_cons]; omega, by rw [e]; rfl⟩
theorem vget_rest (most : Nat) (l : List UInt8) : ∃ k, k ≤ l.length ∧ (vget most l).2.2 = l.drop k := by
  unfold vget
  split
  · exact ⟨0, Nat.zero_le _, rfl⟩
  · rename_i h
    split
    · exact ⟨0, Nat.zero_le _, rfl⟩
    · exact vgetN_rest l 0 0 (by simpa using h)

/-- The record of a frame's bytes. -/
def recF (f : List UInt8) : Option (Nat × List UInt8) :=
  if (vget 1099511627776 f).1 ≠ 0 ∨ (vget 1099511627776 f).2.1 = 0 ∨ 1500 < (vget 1099511627776 f).2.2.length then none
  else some ((vget 1099511627776 f).2.1, (vget 1099511627776 f).2.2)

def may (n : Nat) : Prop := 1 ≤ n ∧ n ≤ 1099511627776
instance (n : Nat) : Decidable (may n) := by unfold may; infer_instance

/-- A record's form, and the error. -/
def putS (n : Nat) (d : List UInt8) : List UInt8 × Nat := if ¬ may n then ([], 1) else if 1500 < d.length then ([], 3) else (fr (vput n ++ d), 0)

theorem good_form (n : Nat) (d : List UInt8) (h : d.length ≤ 1500) : Good (vput n ++ d) := by
  have := vput_length n
  unfold Good
  rw [List.length_append]
  omega

/-- The records of frames, where numbers are at least 'least', and how many bytes they take. -/
def splitL : Nat → List (List UInt8) → List (Nat × List UInt8) × Nat
  | _, [] => ([], 0)
  | least, f :: fs =>
    match recF f with
    | none => ([], 0)
    | some x => if x.1 < least then ([], 0) else (x :: (splitL (x.1 + 1) fs).1, f.length + 8 + (splitL (x.1 + 1) fs).2)
def splitS (b : List UInt8) (first : Nat) : List (Nat × List UInt8) × Nat := if may first then splitL first (splitF b).1 else ([], 0)

/-- A number's last k digits. -/
def digs : Nat → Nat → List UInt8
  | 0, _ => []
  | k + 1, n => digs k (n / 10) ++ [UInt8.ofNat (48 + n % 10)]
theorem digs_length : ∀ (k n : Nat), (digs k n).length = k
  | 0, _ => rfl
  | k + 1, n => by unfold digs; rw [List.length_append, digs_length]; rfl

def nameL (p n : Nat) : List UInt8 := 115 :: UInt8.ofNat (48 + p) :: 45 :: digs 13 n
/-- A segment's name, and the error. -/
def nameF (p : Int) (n : Nat) : List UInt8 × Nat := if p < 0 ∨ 4 ≤ p ∨ ¬ may n then ([], 1) else (nameL p.toNat n, 0)

def isDig (c : UInt8) : Bool := decide (48 ≤ c.toNat) && decide (c.toNat ≤ 57)
def valD (l : List UInt8) : Nat := l.foldl (fun n c => 10 * n + (c.toNat - 48)) 0
/-- A name's place and number, and the error. -/
def parseF (s : List UInt8) : Nat × Nat × Nat :=
  if s.length = 16 ∧ s.getD 0 0 = 115 ∧ 48 ≤ (s.getD 1 0).toNat ∧ (s.getD 1 0).toNat ≤ 51 ∧ s.getD 2 0 = 45 ∧ (s.drop 3).all isDig = true ∧ may (valD (s.drop 3)) then ((s.getD 1 0).toNat - 48, valD (s.drop 3), 0)
  else (0, 0, 5)

theorem valD_append (l : List UInt8) (c : UInt8) : valD (l ++ [c]) = 10 * valD l + (c.toNat - 48) := by simp [valD]
theorem valD_lt : ∀ (k : Nat) (l : List UInt8), l.length = k → l.all isDig = true → valD l < 10 ^ k := by
  intro k
  induction k with
  | zero => intro l h _; rw [List.length_eq_zero_iff.1 h]; decide
  | succ k ih =>
    intro l h ha
    have hne : l ≠ [] := by intro e; rw [e] at h; simp at h
    have e := List.dropLast_concat_getLast hne
    rw [← e] at ha ⊢
    rw [List.all_append, Bool.and_eq_true] at ha
    have h1 := ih l.dropLast (by rw [List.length_dropLast]; omega) ha.1
    have h2 := ha.2
    simp only [List.all_cons, List.all_nil, Bool.and_true, isDig, Bool.and_eq_true, decide_eq_true_eq] at h2
    rw [valD_append, Nat.pow_succ]
    omega
theorem digs_val : ∀ (k : Nat) (l : List UInt8), l.length = k → l.all isDig = true → digs k (valD l) = l := by
  intro k
  induction k with
  | zero => intro l h _; rw [List.length_eq_zero_iff.1 h]; rfl
  | succ k ih =>
    intro l h ha
    have hne : l ≠ [] := by intro e; rw [e] at h; simp at h
    have e := List.dropLast_concat_getLast hne
    generalize l.getLast hne = c at *
    have hl : l.dropLast.length = k := by rw [List.length_dropLast]; omega
    generalize l.dropLast = m at *
    subst e
    rw [List.all_append, Bool.and_eq_true] at ha
    have h2 := ha.2
    simp only [List.all_cons, List.all_nil, Bool.and_true, isDig, Bool.and_eq_true, decide_eq_true_eq] at h2
    unfold digs
    rw [valD_append]
    have e1 : (10 * valD m + (c.toNat - 48)) / 10 = valD m := by omega
    have e2 : UInt8.ofNat (48 + (10 * valD m + (c.toNat - 48)) % 10) = c := by
      apply UInt8.toNat_inj.1
      rw [UInt8.toNat_ofNat']
      omega
    rw [e1, e2, ih m hl ha.1]

end Go.Proofs.YtkaepcjkpaplfaaDoor
