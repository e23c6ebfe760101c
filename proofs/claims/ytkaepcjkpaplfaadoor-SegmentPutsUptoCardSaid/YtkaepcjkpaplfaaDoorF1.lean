/- The records' plain functions. -/
import Derived.Test.YtkaepcjkpaplfaaDoorC4
namespace Go.Proofs.YtkaepcjkpaplfaaDoor

def Good (r : List UInt8) : Prop := 1 ≤ r.length ∧ r.length ≤ 2048
instance (r : List UInt8) : Decidable (Good r) := by unfold Good; infer_instance

/-- A record's frame. -/
def fr (r : List UInt8) : List UInt8 := putF (fourF r.length ++ r)
def putR (r : List UInt8) : List UInt8 × Nat := if r.length = 0 then ([], 1) else if 2048 < r.length then ([], 3) else (fr r, 0)
def sizeR (r : List UInt8) : Nat := if 1 ≤ r.length ∧ r.length ≤ 2048 then r.length + 8 else 0

/-- The record that stands at the head of bytes. -/
def nextR (b : List UInt8) : Option (List UInt8) :=
  if b.length < 4 then none
  else if numF b < 1 ∨ 2048 < numF b ∨ b.length < numF b + 8 then none
  else if (takeF (b.take (numF b + 8))).2 = 0 then some ((takeF (b.take (numF b + 8))).1.drop 4) else none

theorem fr_length (r : List UInt8) : (fr r).length = r.length + 8 := by simp [fr, putF_length, fourF_length]; omega

theorem numF_append (a b : List UInt8) (h : 4 ≤ a.length) : numF (a ++ b) = numF a := by
  match a, h with
  | x :: y :: z :: u :: r, _ => rfl
theorem numF_fr (r b : List UInt8) (h : r.length < 4294967296) : numF (fr r ++ b) = r.length := by
  rw [fr, putF, List.append_assoc, List.append_assoc, numF_append _ _ (by rw [fourF_length]; exact Nat.le_refl 4), numF_four h]

/-- What is told is a frame's record; and each frame is told. -/
theorem nextR_fr (r b : List UInt8) (h : Good r) : nextR (fr r ++ b) = some r := by
  obtain ⟨h1, h2⟩ := h
  have hn := numF_fr r b (by omega)
  have hl := fr_length r
  unfold nextR
  rw [hn, if_neg (by rw [List.length_append]; omega), if_neg (by rw [List.length_append]; omega)]
  have ht : (fr r ++ b).take (r.length + 8) = fr r := by rw [List.take_left' hl]
  rw [ht, fr, take_put, if_pos rfl]
  simp [fourF]

theorem numF_lt (b : List UInt8) : numF b < 4294967296 := by
  unfold numF
  have h0 := byte_lt (b.getD 0 0); have h1 := byte_lt (b.getD 1 0); have h2 := byte_lt (b.getD 2 0); have h3 := byte_lt (b.getD 3 0)
  omega

theorem take4 {b : List UInt8} (h : 4 ≤ b.length) : b.take 4 = fourF (numF b) := by
  have := fourF_num (l := b.take 4) (by simp; omega)
  rw [← this]
  congr 1
  conv => rhs; rw [← List.take_append_drop 4 b]
  rw [numF_append _ _ (by simp; omega)]

theorem nextR_some {b r : List UInt8} (h : nextR b = some r) : Good r ∧ ∃ t, b = fr r ++ t := by
  unfold nextR at h
  by_cases h4 : b.length < 4
  · rw [if_pos h4] at h; cases h
  rw [if_neg h4] at h
  by_cases h5 : numF b < 1 ∨ 2048 < numF b ∨ b.length < numF b + 8
  · rw [if_pos h5] at h; cases h
  rw [if_neg h5] at h
  have hlen : (b.take (numF b + 8)).length = numF b + 8 := by simp; omega
  rcases take_cases (b.take (numF b + 8)) with ⟨h6, _⟩ | ⟨_, h7⟩ | ⟨h7, h8⟩
  · omega
  · rw [h7] at h; simp at h
  · rw [h7] at h
    simp only [if_true, Option.some.injEq] at h
    rw [hlen] at h8 h
    have e1 : (b.take (numF b + 8)).take (numF b + 8 - 4) = b.take (numF b + 4) := by rw [List.take_take, Nat.min_eq_left (by omega)]; congr 1
    rw [e1] at h h8
    have e2 : b.take (numF b + 4) = fourF (numF b) ++ r := by
      rw [← h, ← take4 (by omega)]
      have : b.take 4 = (b.take (numF b + 4)).take 4 := by rw [List.take_take, Nat.min_eq_left (by omega)]
      rw [this, List.take_append_drop]
    have hr : r.length = numF b := by
      rw [← h]; simp; omega
    refine ⟨⟨by omega, by omega⟩, b.drop (numF b + 8), ?_⟩
    rw [fr, hr, ← e2, h8, List.take_append_drop]

/-- The records of bytes, and how many bytes are whole. -/
def splitN : Nat → List UInt8 → List (List UInt8) × Nat
  | 0, _ => ([], 0)
  | f + 1, b => match nextR b with
    | none => ([], 0)
    | some r => (r :: (splitN f (b.drop (r.length + 8))).1, r.length + 8 + (splitN f (b.drop (r.length + 8))).2)
theorem splitN_some (f : Nat) {b r : List UInt8} (h : nextR b = some r) : splitN (f + 1) b = (r :: (splitN f (b.drop (r.length + 8))).1, r.length + 8 + (splitN f (b.drop (r.length + 8))).2) := by
  simp only [splitN, h]
def splitF (b : List UInt8) : List (List UInt8) × Nat := splitN b.length b

def frs (l : List (List UInt8)) : List UInt8 := (l.map fr).flatten

theorem splitN_more : ∀ (f g : Nat) (b : List UInt8), b.length ≤ f → b.length ≤ g → splitN f b = splitN g b
  | 0, 0, _, _, _ => rfl
  | 0, g + 1, b, h, _ => by
    have : b = [] := List.eq_nil_of_length_eq_zero (by omega)
    subst this; rfl
  | f + 1, 0, b, _, h => by
    have : b = [] := List.eq_nil_of_length_eq_zero (by omega)
    subst this; rfl
  | f + 1, g + 1, b, h1, h2 => by
    simp only [splitN]
    cases hn : nextR b with
    | none => rfl
    | some r =>
      have hd : (b.drop (r.length + 8)).length ≤ f ∧ (b.drop (r.length + 8)).length ≤ g := by simp; omega
      simp only [splitN_more f g _ hd.1 hd.2]

theorem splitF_none {b : List UInt8} (h : nextR b = none) : splitF b = ([], 0) := by
  unfold splitF
  cases hb : b.length with
  | zero => rfl
  | succ n => simp only [splitN, h]

theorem splitF_cons (r b : List UInt8) (h : Good r) : splitF (fr r ++ b) = (r :: (splitF b).1, r.length + 8 + (splitF b).2) := by
  have hl := fr_length r
  have hd : (fr r ++ b).drop (r.length + 8) = b := by rw [List.drop_left' hl]
  unfold splitF
  rw [splitN_more (fr r ++ b).length (b.length + 1 + (r.length + 7)) _ (Nat.le_refl _) (by rw [List.length_append]; omega)]
  rw [show b.length + 1 + (r.length + 7) = (b.length + r.length + 7) + 1 by omega]
  rw [splitN_some _ (nextR_fr r b h), hd]
  rw [splitN_more (b.length + r.length + 7) b.length b (by omega) (Nat.le_refl _)]

/-- Any bytes: frames, and a rest at whose head none stands. -/
theorem split_shape : ∀ (n : Nat) (b : List UInt8), b.length ≤ n → (∀ r ∈ (splitF b).1, Good r) ∧ (splitF b).2 = (frs (splitF b).1).length ∧ ∃ t, b = frs (splitF b).1 ++ t ∧ nextR t = none
  | 0, b, h => by
    have : b = [] := List.eq_nil_of_length_eq_zero (by omega)
    subst this
    exact ⟨by simp [splitF, splitN], rfl, [], rfl, rfl⟩
  | n + 1, b, h => by
    cases hn : nextR b with
    | none => rw [splitF_none hn]; exact ⟨by simp, rfl, b, rfl, hn⟩
    | some r =>
      obtain ⟨hg, t, rfl⟩ := nextR_some hn
      have hl := fr_length r
      obtain ⟨h1, h2, t', h3, h4⟩ := split_shape n t (by rw [List.length_append] at h; omega)
      rw [splitF_cons r t hg]
      refine ⟨fun x hx => ?_, ?_, t', ?_, h4⟩
      · rcases List.mem_cons.1 hx with rfl | hx
        · exact hg
        · exact h1 x hx
      · simp only [frs, List.map_cons, List.flatten_cons, List.length_append] at h2 ⊢
        rw [hl, h2]
      · simp only [frs, List.map_cons, List.flatten_cons, List.append_assoc] at h3 ⊢
        rw [← h3]

theorem splitF_frs : ∀ (l : List (List UInt8)) (t : List UInt8), (∀ r ∈ l, Good r) → splitF (frs l ++ t) = (l ++ (splitF t).1, (frs l).length + (splitF t).2)
  | [], t, _ => by simp [frs]
  | r :: l, t, h => by
    have h1 := splitF_frs l t (fun x hx => h x (List.mem_cons_of_mem _ hx))
    have hl := fr_length r
    simp only [frs, List.map_cons, List.flatten_cons, List.append_assoc, List.length_append] at h1 ⊢
    rw [splitF_cons r _ (h r List.mem_cons_self), h1]
    simp only [List.cons_append, hl, Nat.add_assoc]

end Go.Proofs.YtkaepcjkpaplfaaDoor
