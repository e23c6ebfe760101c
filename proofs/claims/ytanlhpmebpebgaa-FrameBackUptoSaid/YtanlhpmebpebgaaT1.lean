/- Torn frames: a frame whose last byte has been turned, or a beginning of one with its last byte turned, is no frame. -/
import Derived.Test.YtanlhpmebpebgaaF2
namespace Go.Proofs.Ytanlhpmebpebgaa

theorem cutT_none (r : List UInt8) (h : Good r) (k : Nat) (hk : k < r.length + 8) : nextR ((fr r).take k) = none := by
  by_cases h9 : k < 9
  · exact nextR_short (by rw [List.length_take, fr_length]; omega)
  apply nextR_bad
  obtain ⟨h1, h2⟩ := h
  have e : (fr r).take k = fourF r.length ++ (r ++ fourF (sumF (fourF r.length ++ r))).take (k - 4) := by
    rw [fr, putF, List.append_assoc, List.take_append, fourF_length, List.take_of_length_le (by rw [fourF_length]; omega)]
  have hn : numF ((fr r).take k) = r.length := by rw [e, numF_append _ _ (by rw [fourF_length]; exact Nat.le_refl 4), numF_four (by omega)]
  have hl : ((fr r).take k).length = k := by rw [List.length_take, fr_length]; omega
  omega

theorem xor_ne {x c : UInt8} (hc : c ≠ 0) : x ^^^ c ≠ x := by
  intro e
  have h : x ^^^ (x ^^^ c) = x ^^^ x := by rw [e]
  rw [← UInt8.xor_assoc, UInt8.xor_self, UInt8.zero_xor] at h
  exact hc h

theorem torn_none (r : List UInt8) (h : Good r) (k : Nat) (x : UInt8) (hk : k < (fr r).length) (hx : x ≠ (fr r)[k]) : nextR ((fr r).take k ++ [x]) = none := by
  have hlr := fr_length r
  have hlen : ((fr r).take k ++ [x]).length = k + 1 := by rw [List.length_append, List.length_take]; simp; omega
  by_cases h9 : k + 1 < 9
  · exact nextR_short (by rw [hlen]; exact h9)
  have h1 := h.1
  have h2 := h.2
  have e : (fr r).take k = fourF r.length ++ (r ++ fourF (sumF (fourF r.length ++ r))).take (k - 4) := by
    rw [fr, putF, List.append_assoc, List.take_append, fourF_length, List.take_of_length_le (by rw [fourF_length]; omega)]
  have hn : numF ((fr r).take k ++ [x]) = r.length := by rw [e, List.append_assoc, numF_append _ _ (by rw [fourF_length]; exact Nat.le_refl 4), numF_four (by omega)]
  by_cases hfull : k + 1 < r.length + 8
  · exact nextR_bad (by rw [hlen]; omega)
  cases hne : nextR ((fr r).take k ++ [x]) with
  | none => rfl
  | some s =>
    exfalso
    obtain ⟨hs, t, ht⟩ := nextR_some hne
    have hls := fr_length s
    have hnum := numF_fr s t (by have := hs.2; omega)
    rw [← ht, hn] at hnum
    have hl2 := congrArg List.length ht
    rw [hlen, List.length_append, hls] at hl2
    have ht0 : t = [] := List.length_eq_zero_iff.1 (by omega)
    subst ht0
    rw [List.append_nil] at ht
    have hkk : k = r.length + 7 := by omega
    -- the records agree
    have hrs : r = s := by
      have a := congrArg (fun l => (l.drop 4).take r.length) ht
      have fr' : ∀ q : List UInt8, ((fr q).drop 4).take q.length = q := fun q => by
        rw [fr, putF, List.append_assoc, List.drop_left' (fourF_length _), List.take_left' rfl]
      have l1 : (((fr r).take k ++ [x]).drop 4).take r.length = ((fr r).drop 4).take r.length := by
        have e1 : (((fr r).take k ++ [x]).drop 4).take r.length = ((((fr r).take k ++ [x]).take k).drop 4).take r.length := by
          rw [List.drop_take, List.take_take, Nat.min_eq_left (by omega)]
        rw [e1, List.take_left' (by rw [List.length_take]; omega), List.drop_take, List.take_take, Nat.min_eq_left (by omega)]
      rw [l1, fr'] at a
      rw [a, hnum, fr']
    subst hrs
    have b := congrArg (fun l => l[k]?) ht
    rw [List.getElem?_append_right (by rw [List.length_take]; omega), List.length_take, Nat.min_eq_left (by omega), Nat.sub_self, List.getElem?_eq_getElem hk] at b
    simp only [List.getElem?_cons_zero, Option.some.injEq] at b
    exact hx b

theorem splitF_torn (l : List (List UInt8)) (d : List UInt8) (hl : ∀ r ∈ l, Good r) (hd : nextR d = none) : splitF (frs l ++ d) = (l, (frs l).length) := by
  rw [splitF_frs l d hl, splitF_none hd]
  simp

end Go.Proofs.Ytanlhpmebpebgaa
