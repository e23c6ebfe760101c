/- The frame's plain functions. -/
import Derived.Test.YtkaepcjkpaplfaaDoorC1
namespace Go.Proofs.YtkaepcjkpaplfaaDoor
/-! The frame -/
def fourF (n : Nat) : List UInt8 := [UInt8.ofNat n, UInt8.ofNat (n / 256), UInt8.ofNat (n / 65536), UInt8.ofNat (n / 16777216)]
def putF (l : List UInt8) : List UInt8 := l ++ fourF (sumF l)
def numF (l : List UInt8) : Nat := (l.getD 0 0).toNat + 256 * (l.getD 1 0).toNat + 65536 * (l.getD 2 0).toNat + 16777216 * (l.getD 3 0).toNat
/-- What Take answers: the bytes and the error's number. -/
def takeF (l : List UInt8) : List UInt8 × Nat :=
  if l.length < 4 then ([], 4) else
  if putF (l.take (l.length - 4)) = l then (l.take (l.length - 4), 0) else ([], 5)

theorem fourF_length (n : Nat) : (fourF n).length = 4 := rfl
theorem putF_length (l : List UInt8) : (putF l).length = l.length + 4 := by simp [putF, fourF]

theorem numF_four {n : Nat} (h : n < 4294967296) : numF (fourF n) = n := by
  simp only [numF, fourF, List.getD_cons_zero, List.getD_cons_succ, UInt8.toNat_ofNat']
  omega

theorem fourF_num {l : List UInt8} (h : l.length = 4) : fourF (numF l) = l := by
  match l, h with
  | [a, b, c, d], _ =>
    simp only [numF, fourF, List.getD_cons_zero, List.getD_cons_succ]
    have ha := byte_lt a; have hb := byte_lt b; have hc := byte_lt c; have hd := byte_lt d
    have e : ∀ (x : UInt8) (n : Nat), n % 256 = x.toNat → UInt8.ofNat n = x := fun x n hn => by
      apply UInt8.toNat_inj.1; rw [UInt8.toNat_ofNat']; exact hn
    rw [e a _ (by omega), e b _ (by omega), e c _ (by omega), e d _ (by omega)]

/-- The tail is the sum, told by its number. -/
theorem take_test {l : List UInt8} (h : 4 ≤ l.length) : (numF (l.drop (l.length - 4)) = sumF (l.take (l.length - 4))) ↔ putF (l.take (l.length - 4)) = l := by
  have hd : (l.drop (l.length - 4)).length = 4 := by simp; omega
  constructor
  · intro he
    rw [putF, ← he, fourF_num hd, List.take_append_drop]
  · intro he
    have h2 : l.drop (l.length - 4) = fourF (sumF (l.take (l.length - 4))) := by
      have := congrArg (List.drop (l.length - 4)) he
      rw [putF, List.drop_append_of_le_length (by simp), List.drop_take] at this
      simpa using this.symm
    rw [h2, numF_four (sumF_lt _)]

end Go.Proofs.YtkaepcjkpaplfaaDoor
