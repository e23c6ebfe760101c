/- Torn frames: a frame whose last byte has been turned, or a beginning of one with its last byte turned, is no frame. -/
import Derived.Test.YtkaepcjkpaplfaaDoorS3
namespace Go.Proofs.YtkaepcjkpaplfaaDoor

theorem cutT_none (r : List UInt8) (h : Good r) (k : Nat) (hk : k < r.length + 8) : nextR ((fr r).take k) = none := by
  by_cases h9 : k < 9
  · exact nextR_short (by rw [List.length_take, fr_length]; omega)
  apply nextR_bad
  obtain ⟨h1, h2⟩ := h
  have e : (fr r).take k = fourF r.length ++ (r ++ fourF (sumF (fourF r.length ++ r))).take (k - 4) := by
    rw [fr, putF, List.append_assoc, List.take_append, fourF_length, List.take_of_length_le (by rw [fourF_length]; omega)]
  have hn : numF ((fr r).take k) = r.length := by rw [e, numF_append _ _ (by rw [fourF_length]; exact Nat.le_refl 4), numF_four (by omega)]
  have hl : ((fr r).take k).length = k := by rw [List.length_take, fr_length]; omega
  omega

theorem xor_ne {x c : UInt8} (hc : c ≠ 0) : x ^^^ c ≠ x := by
  intro e
  have h : x ^^^ (x ^^^ c) = x ^^^ x := by rw [e]
  rw [← UInt8.xor_assoc, UInt8.xor_self, UInt8.zero_xor] at h
  exact hc h

theorem torn_none (r : List UInt8) (h : Good r) (k : Nat) (x : UInt8) (hk : k < (fr r).length) (hx : x ≠ (fr r)[k]) : nextR ((fr r).take k ++ [x]) = none := by
  have hlr := fr_length r
  have hlen : ((fr r).take k ++ [x]).length = k + 1 := by rw [List.length_append, List.length_take]; simp; omega
  by_cases h9 : k + 1 < 9
  · exact nextR_short (by rw [hlen]; exact h9)
  have h1 := h.1
  have h2 := h.2
  have e : (fr r).take k = fourF r.length ++ (r ++ fourF (sumF (fourF r.length ++ r))).take (k - 4) := by
    rw [fr, putF, List.append_assoc, List.take_append, fourF_length, List.take_of_length_le (by rw [fourF_length]; omega)]
  have hn : numF ((fr r).take k ++ [x]) = r.length := by rw [e, List.append_assoc, numF_append _ _ (by rw [fourF_length]; exact Nat.le_refl 4), numF_four (by omega)]
  by_cases hfull : k + 1 < r.length + 8
  · exact nextR_bad (by rw [hlen]; omega)
  cases hne : nextR ((fr r).take k ++ [x]) with
  | none => rfl
  | some s =>
    exfalso
    obtain ⟨hs, t, ht⟩ := nextR_some hne
    have hls := fr_length s
    have hnum := numF_fr s t (by have := hs.2; omega)
    rw [← ht, hn] at hnum
    have hl2 := congrArg List.length ht
    rw [hlen, List.length_append, hls] at hl2
    have ht0 : t = [] := List.length_eq_zero_iff.1 (by omega)
    subst ht0
    rw [List.append_nil] at ht
    have hkk : k = r.length + 7 := by omega
    -- the records agree
    have hrs : r = s := by
      have a := congrArg (fun l => (l.drop 4).take r.length) ht
      have fr' : ∀ q : List UInt8, ((fr q).drop 4).take q.length = q := fun q => by
        rw [fr, putF, List.append_assoc, List.drop_left' (fourF_length _), List.take_left' rfl]
      have l1 : (((fr r).take k ++ [x]).drop 4).take r.length = ((fr r).drop 4).take r.length := by
        have e1 : (((fr r).take k ++ [x]).drop 4).take r.length = ((((fr r).take k ++ [x]).take k).drop 4).take r.length := by
          rw [List.drop_take, List.take_take, Nat.min_eq_left (by omega)]
        rw [e1, List.take_left' (by rw [List.length_take]; omega), List.drop_take, List.take_take, Nat.min_eq_left (by omega)]
      rw [l1, fr'] at a
      rw [a, hnum, fr']
    subst hrs
    have b := congrArg (fun l => l[k]?) ht
    rw [List.getElem?_append_right (by rw [List.length_take]; omega), List.length_take, Nat.min_eq_left (by omega), Nat.sub_self, List.getElem?_eq_getElem hk] at b
    simp only [List.getElem?_cons_zero, Option.some.injEq] at b
    exact hx b

theorem turn3_val (c d : UInt8) : Value.int .u8 (bits .xor .u8 (c.toNat : Int) (d.toNat : Int)) = .int .u8 ((c ^^^ d).toNat : Int) := by
  rw [u8_xor_nat _ _ (byte_lt c) (byte_lt d), UInt8.toNat_xor]
theorem take_set (l : List UInt8) (j : Nat) (y : UInt8) (h : j < l.length) : (l.take (j + 1)).set j y = l.take j ++ [y] := by
  rw [List.take_succ_eq_append_getElem h, List.set_append_right _ _ (by rw [List.length_take]; omega), List.length_take, Nat.min_eq_left (by omega), Nat.sub_self]
  rfl

theorem forms_app (xs ys : List (Nat × List UInt8)) : formsOf (xs ++ ys) = formsOf xs ++ formsOf ys := by simp [formsOf]
theorem forms_cons (x : Nat × List UInt8) (xs : List (Nat × List UInt8)) : formsOf (x :: xs) = formOf x ++ formsOf xs := by simp [formsOf]
theorem forms_at {L : List (Nat × List UInt8)} {k : Nat} (hk : k < L.length) : formsOf L = formsOf (L.take k) ++ (formOf L[k] ++ formsOf (L.drop (k + 1))) := by
  have e : L = L.take k ++ (L[k] :: L.drop (k + 1)) := by rw [← List.drop_eq_getElem_cons hk, List.take_append_drop]
  conv => lhs; rw [e]
  rw [forms_app, forms_cons]
theorem Rise.take : ∀ {xs : List (Nat × List UInt8)} {a : Nat} (k : Nat), Rise a xs → Rise a (xs.take k)
  | _, _, 0, _ => trivial
  | [], _, _ + 1, _ => trivial
  | _ :: _, _, k + 1, h => ⟨h.1, h.2.1, h.2.2.1, Rise.take k h.2.2.2⟩
theorem Rise.good : ∀ {xs : List (Nat × List UInt8)} {a : Nat} (k : Nat) (hk : k < xs.length), Rise a xs → Good (vput xs[k].1 ++ xs[k].2)
  | _ :: _, _, 0, _, h => good_form _ _ h.2.2.1
  | _ :: _, _, k + 1, hk, h => Rise.good k (by simp at hk; omega) h.2.2.2

/-- A beginning of laid records: just those are told that are in it whole. -/
theorem splitS_cut {L : List (Nat × List UInt8)} {first k p : Nat} (hf : may first) (h : Rise first L) (hk : k ≤ L.length) (h1 : (formsOf (L.take k)).length ≤ p)
    (h2 : ∀ hk : k < L.length, p < (formsOf (L.take k)).length + (formOf L[k]).length) : splitS ((formsOf L).take p) first = (L.take k, (formsOf (L.take k)).length) := by
  by_cases hk2 : k < L.length
  · have e : (formsOf L).take p = formsOf (L.take k) ++ (formOf L[k]).take (p - (formsOf (L.take k)).length) := by
      have h3 := h2 hk2
      rw [forms_at hk2, List.take_append, List.take_of_length_le h1, List.take_append_of_le_length (by omega)]
    rw [e]
    refine splitS_forms _ hf (h.take k) (cutT_none _ (h.good k hk2) _ ?_)
    have h3 := h2 hk2
    unfold formOf at h3
    rw [fr_length] at h3
    omega
  · have e : L.take k = L := List.take_of_length_le (by omega)
    rw [e] at h1 ⊢
    rw [List.take_of_length_le h1]
    have := splitS_forms [] hf h (nextR_short (by simp))
    rw [List.append_nil] at this
    exact this

/-- A beginning of laid records with its last byte turned: the record of that byte, and what is behind, is gone. -/
theorem splitS_turned {L : List (Nat × List UInt8)} {first k p : Nat} (flip : UInt8) (hf : may first) (h : Rise first L) (hk : k < L.length) (h1 : (formsOf (L.take k)).length ≤ p)
    (h2 : p < (formsOf (L.take k)).length + (formOf L[k]).length) (h3 : flip ≠ 0) (hp : p < (formsOf L).length) :
    splitS ((formsOf L).take p ++ [(formsOf L)[p] ^^^ flip]) first = (L.take k, (formsOf (L.take k)).length) := by
  have hj : p - (formsOf (L.take k)).length < (formOf L[k]).length := by omega
  have e : (formsOf L).take p = formsOf (L.take k) ++ (formOf L[k]).take (p - (formsOf (L.take k)).length) := by
    rw [forms_at hk, List.take_append, List.take_of_length_le h1, List.take_append_of_le_length (by omega)]
  have e2 : (formsOf L)[p] = (formOf L[k])[p - (formsOf (L.take k)).length] := by
    have : (formsOf L)[p]? = (formOf L[k])[p - (formsOf (L.take k)).length]? := by
      rw [forms_at hk, List.getElem?_append_right h1, List.getElem?_append_left hj]
    rw [List.getElem?_eq_getElem hp, List.getElem?_eq_getElem hj] at this
    exact Option.some.inj this
  rw [e, e2, List.append_assoc]
  exact splitS_forms _ hf (h.take k) (torn_none _ (h.good k hk) _ _ hj (xor_ne h3))

theorem forms_len : ∀ {xs : List (Nat × List UInt8)} {a : Nat}, Rise a xs → (formsOf xs).length ≤ 2000 * xs.length
  | [], _, _ => by simp [formsOf]
  | x :: xs, a, h => by
    have h1 := forms_len h.2.2.2
    have h2 := vput_length x.1
    have h3 := h.2.2.1
    have e : formsOf (x :: xs) = formOf x ++ formsOf xs := by simp [formsOf]
    rw [e, List.length_append, List.length_cons]
    have : (formOf x).length ≤ 2000 := by unfold formOf; rw [fr_length, List.length_append]; omega
    omega
theorem lst_take {W : World} {a : Option Addr} {n c k : Nat} {xs : List (Nat × List UInt8)} (h : Lst W (.slice a n c) xs) (hk : k ≤ xs.length) : Lst W (.slice a k c) (xs.take k) := by
  obtain ⟨us, ⟨hl, a', c', e, hc, hm, hnil, hspot, hcell⟩, h2, h3⟩ := h
  simp only [Value.slice.injEq] at e
  obtain ⟨rfl, rfl, rfl⟩ := e
  have hlen : (us.take k).length = k := by rw [List.length_take]; omega
  have hrs : rsC (us.take k) = (rsC us).take (2 * k) := by
    have e1 : rsC us = rsC (us.take k) ++ rsC (us.drop k) := by
      have := congrArg rsC (List.take_append_drop k us)
      rw [← this, rsC, rsC, rsC, List.flatMap_append]
    rw [e1, List.take_left' (by rw [rsC_length, hlen, Nat.mul_comm])]
  refine ⟨us.take k, ⟨by rw [rsC_length], a, c, by rw [hlen], by rw [hlen]; omega, hm, hnil, hspot, fun j u hj => hcell j u ?_⟩, by rw [List.length_take, List.length_take, h2], fun i u x e1 e2 => ?_⟩
  · rw [hrs, List.getElem?_take] at hj
    split at hj
    · exact hj
    · cases hj
  · rw [List.getElem?_take] at e1 e2
    split at e1
    · rename_i hi
      rw [if_pos hi] at e2
      exact h3 i u x e1 e2
    · cases e1

end Go.Proofs.YtkaepcjkpaplfaaDoor
