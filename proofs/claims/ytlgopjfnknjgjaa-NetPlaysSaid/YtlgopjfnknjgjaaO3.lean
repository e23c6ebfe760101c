/- A row of the call's own with one element replaced. -/
import Derived.Test.YtlgopjfnknjgjaaO1
namespace Go.Proofs.Ytlgopjfnknjgjaa
open Go.RowKit Go.Sort

theorem flat_set {α : Type} (enc : α → List Value) (k : Nat) (hk : ∀ x, (enc x).length = k) (l : List α) (i : Nat) (hi : i < l.length) (x : α) :
    setMany (l.flatMap enc).toArray (i * k) (enc x) = ((l.set i x).flatMap enc).toArray := by
  have hl := flat_len enc k hk l
  have hl2 := flat_len enc k hk (l.set i x)
  rw [List.length_set] at hl2
  have hin : i * k + k ≤ l.length * k := by
    have : (i + 1) * k ≤ l.length * k := Nat.mul_le_mul_right _ hi
    rw [Nat.succ_mul] at this; exact this
  refine ext_get! (by simp only [size_setMany, List.size_toArray, hl, hl2]) fun t ht => ?_
  have ht' : t < l.length * k := by simpa [hl] using ht
  have hk0 : 0 < k := by
    rcases Nat.eq_zero_or_pos k with h | h
    · rw [h, Nat.mul_zero] at ht'; exact absurd ht' (Nat.not_lt_zero _)
    · exact h
  rw [get_setMany _ _ _ t (by simpa [hl] using ht'), hk]
  have hd : t / k < l.length := by rw [Nat.div_lt_iff_lt_mul hk0]; exact ht'
  have hm : t % k < k := Nat.mod_lt _ hk0
  have e : t / k * k + t % k = t := by rw [Nat.mul_comm]; exact Nat.div_add_mod t k
  have g1 := flat_get enc k hk l (t / k) hd (t % k) hm
  have g2 := flat_get enc k hk (l.set i x) (t / k) (by rw [List.length_set]; exact hd) (t % k) hm
  rw [e] at g1 g2
  have hds : t / k < (l.set i x).length := by rw [List.length_set]; exact hd
  have q2 : ((l.set i x).flatMap enc).toArray[t]! = (enc ((l.set i x)[t / k]'hds))[t % k]'(by rw [hk]; exact hm) := by
    rw [getElem!_pos _ t (by simp only [List.size_toArray, hl2]; exact ht')]
    rw [List.getElem?_eq_getElem (by rw [hl2]; exact ht'), List.getElem?_eq_getElem (by rw [hk]; exact hm)] at g2
    simpa using Option.some.inj g2
  have q1 : (l.flatMap enc).toArray[t]! = (enc l[t / k])[t % k]'(by rw [hk]; exact hm) := by
    rw [getElem!_pos _ t (by simp only [List.size_toArray, hl]; exact ht')]
    rw [List.getElem?_eq_getElem (by rw [hl]; exact ht'), List.getElem?_eq_getElem (by rw [hk]; exact hm)] at g1
    simpa using Option.some.inj g1
  rw [q2]
  by_cases hb : t / k = i
  · have hb2 := (blk_iff k i t hk0).2 hb
    rw [if_pos hb2]
    have em : t - i * k = t % k := by subst hb; omega
    rw [em, getElem!_pos _ _ (by rw [hk]; exact hm)]
    have hx : (l.set i x)[t / k]'(by rw [List.length_set]; exact hd) = x := by subst hb; simp
    simp only [hx]
  · rw [if_neg (fun h => hb ((blk_iff k i t hk0).1 h)), q1]
    have hx : (l.set i x)[t / k]'(by rw [List.length_set]; exact hd) = l[t / k] := by rw [List.getElem_set_ne (fun e => hb e.symm)]
    simp only [hx]

theorem own_set {α : Type} {w : World} {base g n cap k : Nat} {e : TypeId} (enc : α → List Value) (hk : ∀ x, (enc x).length = k) {l : List α}
    (h : w.ownsRow base e k (.slice (some ⟨g, 0, none⟩) n cap) n (l.flatMap enc)) (i : Nat) (hi : i < l.length) (x : α) :
    (w.setCells g (i * k) (enc x)).ownsRow base e k (.slice (some ⟨g, 0, none⟩) n cap) n ((l.set i x).flatMap enc) ∧ w.grownBy (w.setCells g (i * k) (enc x)) (some g) := by
  obtain ⟨cur, hg, hb, hn, hm, hs, hlt, hH⟩ := own_holds h
  have hl := flat_len enc k hk l
  have hin : i * k + k ≤ l.length * k := by
    have : (i + 1) * k ≤ l.length * k := Nat.mul_le_mul_right _ hi
    rw [Nat.succ_mul] at this; exact this
  have e1 : w.setCells g (i * k) (enc x) = putRow id w g 0 ((l.set i x).flatMap enc).toArray := by
    have h1 := setCells_putRow w g 0 (enc x) (i * k) (l.flatMap enc).toArray (by rw [hk]; simpa [hl] using hin)
    rw [putRow_self id w g 0 _ hH, Nat.zero_add] at h1
    rw [h1, flat_set enc k hk l i hi x]
  have e2 : putRow id w g 0 ((l.set i x).flatMap enc).toArray = grow (putRow id (Sort.ahead w 0) g 0 ((l.set i x).flatMap enc).toArray) #[] := by rw [grow_empty, Sort.ahead_zero]
  rw [e1, e2]
  exact ⟨own_put h (by rw [hl, flat_len enc k hk, List.length_set]), grownBy_row _⟩
end Go.Proofs.Ytlgopjfnknjgjaa
