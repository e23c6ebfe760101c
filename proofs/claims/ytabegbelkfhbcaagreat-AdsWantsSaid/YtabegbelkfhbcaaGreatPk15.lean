/- What a constraint's region holds is what the constraint asks of a value. (Plain.)
A constraint's region holds a value just if the constraint does; examples match; what matches both overlaps. (Plain.)
An example matches both; what matches both overlaps. (Plain.)
Example. -/
import Derived.Sort.CutIn
import Derived.Test.YtabegbelkfhbcaaGreatPk4
import Derived.Test.YtabegbelkfhbcaaGreatPk12
namespace Go.Proofs.YtabegbelkfhbcaaGreat

theorem fold256 (l : List UInt8) : ∀ n, l.foldl (fun n c => n * 256 + c.toNat) n = n * 256 ^ l.length + wholeF l := by
  induction l with
  | nil => intro n; simp [wholeF]
  | cons c r ih =>
    intro n
    unfold wholeF
    rw [List.foldl_cons, List.foldl_cons, ih, ih, List.length_cons, Nat.pow_succ]
    rw [Nat.add_mul, Nat.add_mul, Nat.mul_assoc, Nat.mul_comm 256]
    simp only [Nat.zero_mul, Nat.zero_add]
    omega
theorem wholeF_cons (c : UInt8) (r : List UInt8) : wholeF (c :: r) = c.toNat * 256 ^ r.length + wholeF r := by
  have := fold256 r c.toNat
  unfold wholeF at this ⊢
  rw [List.foldl_cons]
  simpa using this
theorem lex_whole : ∀ x y : List UInt8, x.length = y.length → (Lib.compareBytes x y < 0 ↔ wholeF x < wholeF y)
  | [], [], _ => by simp [Lib.compareBytes, wholeF]
  | c :: x, d :: y, h => by
    have hl : x.length = y.length := by simpa using h
    have ih := lex_whole x y hl
    have hx := wholeF_lt x.length x rfl
    have hy := wholeF_lt y.length y rfl
    rw [wholeF_cons, wholeF_cons, hl]
    rw [hl] at hx
    generalize 256 ^ y.length = P at *
    simp only [Lib.compareBytes]
    by_cases h1 : c < d
    · have h1' : c.toNat + 1 ≤ d.toNat := UInt8.lt_iff_toNat_lt.1 h1
      have h2 : (c.toNat + 1) * P ≤ d.toNat * P := Nat.mul_le_mul_right _ h1'
      rw [Nat.add_mul, Nat.one_mul] at h2
      rw [if_pos h1]
      exact ⟨fun _ => by omega, fun _ => by decide⟩
    · rw [if_neg h1]
      by_cases h2 : d < c
      · have h2' : d.toNat + 1 ≤ c.toNat := UInt8.lt_iff_toNat_lt.1 h2
        have h3 : (d.toNat + 1) * P ≤ c.toNat * P := Nat.mul_le_mul_right _ h2'
        rw [Nat.add_mul, Nat.one_mul] at h3
        rw [if_pos h2]
        exact ⟨fun h => absurd h (by decide), fun _ => by omega⟩
      · rw [if_neg h2]
        have he : c = d := UInt8.le_antisymm (UInt8.not_lt.1 h2) (UInt8.not_lt.1 h1)
        subst he
        rw [ih]; omega
theorem lt_live2 (a b : List UInt8) : Cut.lt ⟨a, false⟩ ⟨b, false⟩ = Op.bytesLess a b := by unfold Cut.lt; simp
theorem lt_end (a : List UInt8) : Cut.lt ⟨a, false⟩ endC = true := rfl
def inN (n : Int) : Prop := -9223372036854775808 ≤ n ∧ n ≤ 9223372036854775807
theorem num_lt {m n : Int} (hm : inN m) (hn : inN n) : Cut.lt (numC m) (numC n) = decide (m < n) := by
  unfold numC
  rw [lt_live2, Bool.eq_iff_iff, bl_lt, decide_eq_true_iff]
  obtain ⟨h1, h2⟩ := hm
  obtain ⟨h3, h4⟩ := hn
  rw [lex_whole _ _ (by unfold eightF; rw [eightN_len, eightN_len])]
  unfold eightF
  rw [wholeF_eight 8 _ (by omega), wholeF_eight 8 _ (by omega)]
  omega
theorem bytes_next : ∀ x y : List UInt8, Lib.compareBytes x (y ++ [0]) < 0 ↔ Lib.compareBytes x y ≤ 0
  | [], [] => by simp [Lib.compareBytes]
  | [], d :: y => by simp [Lib.compareBytes]
  | c :: x, [] => by
    simp only [List.nil_append, Lib.compareBytes]
    have h0 : ¬ c < 0 := UInt8.not_lt.2 (UInt8.le_iff_toNat_le.2 (by simp))
    rw [if_neg h0]
    by_cases h : (0 : UInt8) < c
    · rw [if_pos h]; decide
    · rw [if_neg h]
      cases x <;> simp [Lib.compareBytes]
  | c :: x, d :: y => by
    have ih := bytes_next x y
    simp only [List.cons_append, Lib.compareBytes]
    by_cases h1 : c < d
    · rw [if_pos h1, if_pos h1]; decide
    · rw [if_neg h1, if_neg h1]
      by_cases h2 : d < c
      · rw [if_pos h2, if_pos h2]; decide
      · rw [if_neg h2, if_neg h2]; exact ih

theorem around_k1 {v : V} (h : v.k = 1) : (aroundV v).1 = numC v.n ∧ (aroundV v).2 = if v.n = 9223372036854775807 then endC else numC (v.n + 1) := by
  unfold aroundV
  rw [if_pos h]
  split <;> exact ⟨rfl, rfl⟩
theorem around_k2 {v : V} (h : v.k = 2) : aroundV v = (⟨v.s, false⟩, ⟨v.s ++ [0], false⟩) := by
  unfold aroundV
  rw [if_neg (by rw [h]; decide), if_pos h]
theorem around_k3 {v : V} (h : v.k = 3) : aroundV v = if v.b then (⟨[0], false⟩, endC) else (⟨[], false⟩, ⟨[0], false⟩) := by
  unfold aroundV
  rw [if_neg (by rw [h]; decide), if_neg (by rw [h]; decide)]
theorem cmp_k {v w : V} (hk : v.k = w.k) : cmpV v w = if v.k = 1 then Lib.compareInt v.n w.n else if v.k = 2 then Lib.compareBytes v.s w.s else if v.k = 3 then cmpB v.b w.b else 0 := by
  unfold cmpV
  rw [if_pos hk]
theorem at_lt {v w : V} (hk : v.k = w.k) (h1 : 1 ≤ v.k) (h3 : v.k ≤ 3) (kv : inN v.n) (kw : inN w.n) : Cut.lt (atV v) (atV w) = decide (cmpV v w < 0) := by
  unfold atV
  rw [cmp_k hk]
  have hc : v.k = 1 ∨ v.k = 2 ∨ v.k = 3 := by omega
  rcases hc with h | h | h
  · rw [(around_k1 h).1, (around_k1 (hk.symm.trans h)).1, if_pos h, num_lt kv kw, Bool.eq_iff_iff, decide_eq_true_iff, decide_eq_true_iff, int_lt]
  · rw [around_k2 h, around_k2 (hk.symm.trans h), if_neg (by rw [h]; decide), if_pos h, lt_live2, Bool.eq_iff_iff, bl_lt, decide_eq_true_iff]
  · rw [around_k3 h, around_k3 (hk.symm.trans h)]
    rw [if_neg (show ¬ v.k = 1 by rw [h]; decide), if_neg (show ¬ v.k = 2 by rw [h]; decide), if_pos h]
    generalize v.b = x
    generalize w.b = y
    cases x <;> cases y <;> decide
theorem at_next {v w : V} (hk : v.k = w.k) (h1 : 1 ≤ v.k) (h3 : v.k ≤ 3) (kv : inN v.n) (kw : inN w.n) : Cut.lt (atV v) (aroundV w).2 = decide (cmpV v w ≤ 0) := by
  unfold atV
  rw [cmp_k hk]
  have hc : v.k = 1 ∨ v.k = 2 ∨ v.k = 3 := by omega
  rcases hc with h | h | h
  · rw [(around_k1 h).1, (around_k1 (hk.symm.trans h)).2, if_pos h]
    have hle : Lib.compareInt v.n w.n ≤ 0 ↔ v.n ≤ w.n := by unfold Lib.compareInt; split <;> (try split) <;> omega
    by_cases hw : w.n = 9223372036854775807
    · rw [if_pos hw, show Cut.lt (numC v.n) endC = true from rfl, Bool.eq_iff_iff, decide_eq_true_iff, hle]
      exact ⟨fun _ => by have := kv.2; omega, fun _ => rfl⟩
    · rw [if_neg hw, num_lt kv ⟨by have := kw.1; omega, by have := kw.2; omega⟩, Bool.eq_iff_iff, decide_eq_true_iff, decide_eq_true_iff, hle]
      omega
  · rw [around_k2 h, around_k2 (hk.symm.trans h), if_neg (by rw [h]; decide), if_pos h, lt_live2, Bool.eq_iff_iff, bl_lt, decide_eq_true_iff, bytes_next]
  · rw [around_k3 h, around_k3 (hk.symm.trans h)]
    rw [if_neg (show ¬ v.k = 1 by rw [h]; decide), if_neg (show ¬ v.k = 2 by rw [h]; decide), if_pos h]
    generalize v.b = x
    generalize w.b = y
    cases x <;> cases y <;> decide
theorem at_first {v : V} (kv : inN v.n) : Cut.lt (atV v) (firstC v.k) = false := by
  unfold firstC
  by_cases h : v.k = 1
  · rw [if_pos h]
    have e : atV v = numC v.n := by unfold atV aroundV; rw [if_pos h]; split <;> rfl
    rw [e, num_lt kv ⟨by decide, by decide⟩]
    exact decide_eq_false (by have := kv.1; omega)
  · rw [if_neg h]
    obtain ⟨l, hl⟩ : ∃ l, atV v = ⟨l, false⟩ := by
      unfold atV aroundV
      rw [if_neg h]
      repeat' split
      all_goals exact ⟨_, rfl⟩
    rw [hl, lt_live2]
    cases hb : Op.bytesLess l [] with
    | false => rfl
    | true => have := (bl_lt _ _).1 hb; cases l <;> simp [Lib.compareBytes] at this

theorem at_live (v : V) : ∃ l, atV v = ⟨l, false⟩ := by
  unfold atV aroundV numC
  repeat' split
  all_goals exact ⟨_, rfl⟩
theorem at_end (v : V) : Cut.lt (atV v) endC = true := by obtain ⟨l, h⟩ := at_live v; rw [h]; rfl

/-! Past a beginning. -/
theorem pastR_snoc (c : UInt8) : ∀ l : List UInt8, pastR (l ++ [c]) = if (pastR l).e = true then (if c = 255 then endC else ⟨[c + 1], false⟩) else ⟨c :: (pastR l).a, false⟩
  | [] => by simp [pastR, endC]
  | d :: l => by
    have ih := pastR_snoc c l
    show (if d = 255 then pastR (l ++ [c]) else ⟨((l ++ [c]).reverse) ++ [d + 1], false⟩) = _
    by_cases hd : d = 255
    · rw [if_pos hd, ih]
      have : pastR (d :: l) = pastR l := by show (if d = 255 then pastR l else _) = _; rw [if_pos hd]
      rw [this]
    · rw [if_neg hd]
      have : pastR (d :: l) = ⟨l.reverse ++ [d + 1], false⟩ := by show (if d = 255 then pastR l else _) = _; rw [if_neg hd]
      rw [this]
      simp
theorem pastF_cons (c : UInt8) (r : List UInt8) : pastF (c :: r) = if (pastF r).e = true then (if c = 255 then endC else ⟨[c + 1], false⟩) else ⟨c :: (pastF r).a, false⟩ := by
  unfold pastF
  rw [List.reverse_cons, pastR_snoc]
theorem past_law : ∀ s x : List UInt8, (!Op.bytesLess x s && Cut.lt ⟨x, false⟩ (pastF s)) = s.isPrefixOf x
  | [], x => by
    have h1 : Op.bytesLess x [] = false := by
      cases hb : Op.bytesLess x [] with
      | false => rfl
      | true => have := (bl_lt _ _).1 hb; cases x <;> simp [Lib.compareBytes] at this
    rw [h1]
    show Cut.lt ⟨x, false⟩ endC = _
    simp [Cut.lt, endC]
  | c :: r, [] => by
    have h1 : Op.bytesLess [] (c :: r) = true := (bl_lt _ _).2 (by simp [Lib.compareBytes])
    rw [h1]; rfl
  | c :: r, d :: y => by
    have ih := past_law r y
    have hcmp : ∀ a b : List UInt8, ∀ u v : UInt8, Op.bytesLess (u :: a) (v :: b) = if u < v then true else if v < u then false else Op.bytesLess a b := fun a b u v => by
      rw [Bool.eq_iff_iff, bl_lt]
      simp only [Lib.compareBytes]
      by_cases h1 : u < v
      · rw [if_pos h1, if_pos h1]; simp
      · rw [if_neg h1, if_neg h1]
        by_cases h2 : v < u
        · rw [if_pos h2, if_pos h2]; simp
        · rw [if_neg h2, if_neg h2, bl_lt]
    rw [hcmp, pastF_cons]
    by_cases h1 : d < c
    · rw [if_pos h1]
      have hne : (c == d) = false := by rw [beq_eq_false_iff_ne]; intro e; rw [e] at h1; exact absurd h1 (UInt8.lt_irrefl d)
      show (false && _) = ((c == d) && r.isPrefixOf y)
      rw [hne]; rfl
    · rw [if_neg h1]
      by_cases h2 : c < d
      · rw [if_pos h2]
        have hne : (c == d) = false := by rw [beq_eq_false_iff_ne]; intro e; rw [e] at h2; exact absurd h2 (UInt8.lt_irrefl d)
        have hlt : Cut.lt ⟨d :: y, false⟩ (if (pastF r).e = true then (if c = 255 then endC else ⟨[c + 1], false⟩) else ⟨c :: (pastF r).a, false⟩) = false := by
          by_cases h3 : (pastF r).e = true
          · rw [if_pos h3]
            by_cases h4 : c = 255
            · subst h4
              have hd := d.toNat_lt
              have h5 := UInt8.lt_iff_toNat_lt.1 h2
              have h6 : (255 : UInt8).toNat = 255 := rfl
              omega
            · rw [if_neg h4, lt_live2, hcmp]
              have hc1 : (c + 1).toNat = c.toNat + 1 := by
                have h6 : c.toNat ≠ 255 := fun e => h4 (UInt8.toNat_inj.1 e)
                have h7 := c.toNat_lt
                rw [UInt8.toNat_add]
                show (c.toNat + 1) % 256 = _
                omega
              have h5 := UInt8.lt_iff_toNat_lt.1 h2
              have h8 : ¬ d < c + 1 := fun h => by have := UInt8.lt_iff_toNat_lt.1 h; omega
              rw [if_neg h8]
              by_cases h9 : c + 1 < d
              · rw [if_pos h9]
              · rw [if_neg h9]
                cases hb : Op.bytesLess y [] with
                | false => rfl
                | true => have := (bl_lt _ _).1 hb; cases y <;> simp [Lib.compareBytes] at this
          · rw [if_neg h3, lt_live2, hcmp, if_neg h1, if_pos h2]
        rw [hlt, Bool.and_false]
        show _ = ((c == d) && r.isPrefixOf y)
        rw [hne]; rfl
      · rw [if_neg h2]
        have he : c = d := UInt8.le_antisymm (UInt8.not_lt.1 h1) (UInt8.not_lt.1 h2)
        subst he
        have e1 : (c :: r).isPrefixOf (c :: y) = r.isPrefixOf y := by
          show ((c == c) && r.isPrefixOf y) = _
          rw [beq_self_eq_true, Bool.true_and]
        rw [e1, ← ih]
        congr 1
        by_cases h3 : (pastF r).e = true
        · rw [if_pos h3]
          have hr : Cut.lt ⟨y, false⟩ (pastF r) = true := by unfold Cut.lt; rw [h3]; rfl
          rw [hr]
          by_cases h4 : c = 255
          · rw [if_pos h4]; rfl
          · rw [if_neg h4, lt_live2, hcmp]
            have hc1 : (c + 1).toNat = c.toNat + 1 := by
              have h6 : c.toNat ≠ 255 := fun e => h4 (UInt8.toNat_inj.1 e)
              have h7 := c.toNat_lt
              rw [UInt8.toNat_add]
              show (c.toNat + 1) % 256 = _
              omega
            rw [if_pos (UInt8.lt_iff_toNat_lt.2 (by omega))]
        · rw [if_neg h3, lt_live2, hcmp, if_neg (UInt8.lt_irrefl c), if_neg (UInt8.lt_irrefl c)]
          have hp : pastF r = ⟨(pastF r).a, false⟩ := by
            cases hq : pastF r with
            | mk a e => rw [hq] at h3; cases e with
              | false => rfl
              | true => exact absurd rfl h3
          rw [hp, lt_live2]
end Go.Proofs.YtabegbelkfhbcaaGreat

namespace Go.Proofs.YtabegbelkfhbcaaGreat

theorem inL_one (c : Cut) (x : Sp) : inL c [x] = inS c x := by simp [inL]
theorem one_has {x v : V} (hm : mayV x = true) (kv : inN v.n) (kx : inN x.n) : (oneV x).has v = decide (cmpV v x = 0) := by
  have hk3 : 1 ≤ x.k ∧ x.k ≤ 3 := by
    unfold mayV at hm
    by_cases h1 : x.k = 1
    · omega
    · rw [if_neg h1] at hm
      by_cases h2 : x.k = 2
      · omega
      · rw [if_neg h2] at hm
        by_cases h3 : x.k = 3
        · omega
        · rw [if_neg h3] at hm; cases hm
  have hl : ofL ⟨[], 2, x, []⟩ = fullS [⟨atV x, (aroundV x).2⟩] := by unfold ofL atV; rw [if_pos rfl]
  unfold oneV Rg.has
  by_cases hk : v.k = x.k
  · rw [if_neg (by omega), hl]
    have hs : (setR x.k (fullS [⟨atV x, (aroundV x).2⟩])).of v.k = fullS [⟨atV x, (aroundV x).2⟩] := by
      unfold setR Rg.of
      rw [hk]
      have hc : x.k = 1 ∨ x.k = 2 ∨ x.k = 3 := by omega
      rcases hc with h | h | h <;> rw [h] <;> rfl
    rw [hs, inL_full, inL_one]
    unfold inS
    simp only
    rw [at_lt hk (by omega) (by omega) kv kx, at_next hk (by omega) (by omega) kv kx]
    rw [Bool.eq_iff_iff, Bool.and_eq_true, Bool.not_eq_true', decide_eq_false_iff_not, decide_eq_true_iff, decide_eq_true_iff]
    omega
  · have hz : ¬ cmpV v x = 0 := fun e => hk (cmpV_kind e)
    rw [decide_eq_false hz]
    by_cases ho : v.k < 1 ∨ 3 < v.k
    · rw [if_pos ho]
      unfold setR
      repeat' split
      all_goals rfl
    · rw [if_neg ho]
      have hs : (setR x.k (ofL ⟨[], 2, x, []⟩)).of v.k = [] := by
        unfold setR Rg.of
        have hc : x.k = 1 ∨ x.k = 2 ∨ x.k = 3 := by omega
        have hd : v.k = 1 ∨ v.k = 2 ∨ v.k = 3 := by omega
        rcases hc with h | h | h <;> rcases hd with h2 | h2 | h2 <;> first | exact absurd (h2.trans h.symm) hk | (rw [h, h2]; rfl)
      rw [hs]; rfl
theorem may_kind {x : V} (hm : mayV x = true) : 1 ≤ x.k ∧ x.k ≤ 3 := by
  unfold mayV at hm
  by_cases h1 : x.k = 1
  · omega
  · rw [if_neg h1] at hm
    by_cases h2 : x.k = 2
    · omega
    · rw [if_neg h2] at hm
      by_cases h3 : x.k = 3
      · omega
      · rw [if_neg h3] at hm; cases hm
theorem has_set {k : Int} {l : List Sp} {v : V} (h1 : 1 ≤ k) (h3 : k ≤ 3) : (setR k l).has v = (decide (v.k = k) && inL (atV v) l) := by
  unfold Rg.has
  by_cases hk : v.k = k
  · rw [if_neg (by omega), decide_eq_true hk, Bool.true_and, hk]
    have hc : k = 1 ∨ k = 2 ∨ k = 3 := by omega
    rcases hc with h | h | h <;> subst h <;> rfl
  · rw [decide_eq_false hk, Bool.false_and]
    by_cases ho : v.k < 1 ∨ 3 < v.k
    · rw [if_pos ho]
      unfold setR
      repeat' split
      all_goals rfl
    · rw [if_neg ho]
      have hc : k = 1 ∨ k = 2 ∨ k = 3 := by omega
      have hd : v.k = 1 ∨ v.k = 2 ∨ v.k = 3 := by omega
      rcases hc with h | h | h <;> rcases hd with h2 | h2 | h2 <;> first | exact absurd (h2.trans h.symm) hk | (rw [h, h2]; rfl)
theorem all_same_has {c : C} (h1 : c.op = 1) (hm : mayC c = true) (v : V) : (ofR c).has v = true := by
  unfold ofR
  rw [hm, if_neg (by decide), if_pos h1]
  exact all_has v
theorem holds_has {c : C} (hm : mayC c = true) (kc : inN c.v.n) (ks : ∀ x ∈ c.set, inN x.n) {v : V} (kv : inN v.n) : (ofR c).has v = holdsC c v := by
  by_cases h1 : c.op = 1
  · rw [all_same_has h1 hm]
    unfold holdsC; rw [if_pos h1]
  by_cases h9 : c.op = 9
  · rw [has_in hm h9]
    unfold holdsC
    rw [if_neg h1, if_pos h9]
    have hall : ∀ x ∈ c.set, mayV x = true := by
      unfold mayC at hm
      by_cases hn : c.name.length < 1 ∨ 16 < c.name.length
      · rw [if_pos hn] at hm; cases hm
      · rw [if_neg hn, if_neg h1, if_neg (by omega), if_neg (by omega), if_pos h9] at hm
        simp only [Bool.and_eq_true] at hm
        exact fun x hx => List.all_eq_true.1 hm.2 x hx
    rw [Bool.eq_iff_iff, List.any_eq_true, List.any_eq_true]
    constructor
    · rintro ⟨x, hx, h⟩; exact ⟨x, hx, by rw [one_has (hall x hx) kv (ks x hx)] at h; exact h⟩
    · rintro ⟨x, hx, h⟩; exact ⟨x, hx, by rw [one_has (hall x hx) kv (ks x hx)]; exact h⟩
  · have hmv : mayV c.v = true ∧ (2 ≤ c.op ∧ c.op ≤ 8) ∧ (c.op = 8 → c.v.k = 2) := by
      unfold mayC at hm
      by_cases hn : c.name.length < 1 ∨ 16 < c.name.length
      · rw [if_pos hn] at hm; cases hm
      · rw [if_neg hn, if_neg h1] at hm
        by_cases h27 : 2 ≤ c.op ∧ c.op ≤ 7
        · rw [if_pos h27] at hm
          simp only [Bool.and_eq_true] at hm
          exact ⟨hm.1, by omega, fun h => by omega⟩
        · rw [if_neg h27] at hm
          by_cases h8 : c.op = 8
          · rw [if_pos h8] at hm
            simp only [Bool.and_eq_true, decide_eq_true_eq] at hm
            exact ⟨hm.1.1, by omega, fun _ => hm.1.2⟩
          · rw [if_neg h8, if_neg h9] at hm; cases hm
    obtain ⟨hmv, hop, hk2⟩ := hmv
    obtain ⟨k1, k3⟩ := may_kind hmv
    have e : (ofR c).has v = (decide (v.k = c.v.k) && inL (atV v) (ofL c)) := by
      unfold ofR
      rw [hm, if_neg (by decide), if_neg h1, if_neg h9]
      exact has_set k1 k3
    rw [e]
    unfold holdsC
    rw [if_neg h1, if_neg h9]
    by_cases hk : v.k = c.v.k
    · rw [decide_eq_true hk, Bool.true_and, if_pos hk]
      have a1 := at_lt hk (by omega) (by omega) kv kc
      have a2 := at_next hk (by omega) (by omega) kv kc
      have a3 := at_first kv
      have a4 := at_end v
      rw [hk] at a3
      unfold atV at a1
      have a1' : Cut.lt (atV v) (aroundV c.v).1 = decide (cmpV v c.v < 0) := a1
      unfold ofL
      rw [inL_full]
      by_cases h2 : c.op = 2
      · rw [if_pos h2, if_pos h2, inL_one]
        unfold inS
        simp only
        rw [a1', a2, Bool.eq_iff_iff, Bool.and_eq_true, Bool.not_eq_true', decide_eq_false_iff_not, decide_eq_true_iff, decide_eq_true_iff]
        omega
      rw [if_neg h2, if_neg h2]
      by_cases h3 : c.op = 3
      · rw [if_pos h3, if_pos h3]
        have : ∀ x y : Sp, inL (atV v) [x, y] = (inS (atV v) x || inS (atV v) y) := fun x y => by simp [inL]
        rw [this]
        unfold inS
        simp only
        rw [a1', a2, a3, a4, Bool.not_false, Bool.true_and, Bool.and_true, Bool.eq_iff_iff, Bool.or_eq_true, Bool.not_eq_true', Bool.not_eq_true', decide_eq_false_iff_not, decide_eq_false_iff_not, decide_eq_true_iff]
        omega
      rw [if_neg h3, if_neg h3]
      by_cases h4 : c.op = 4
      · rw [if_pos h4, if_pos h4, inL_one]
        unfold inS
        simp only
        rw [a1', a3]; rfl
      rw [if_neg h4, if_neg h4]
      by_cases h5 : c.op = 5
      · rw [if_pos h5, if_pos h5, inL_one]
        unfold inS
        simp only
        rw [a2, a3]; rfl
      rw [if_neg h5, if_neg h5]
      by_cases h6 : c.op = 6
      · rw [if_pos h6, if_pos h6, inL_one]
        unfold inS
        simp only
        rw [a2, a4, Bool.and_true, Bool.eq_iff_iff, Bool.not_eq_true', decide_eq_false_iff_not, decide_eq_true_iff]
        omega
      rw [if_neg h6, if_neg h6]
      by_cases h7 : c.op = 7
      · rw [if_pos h7, if_pos h7, inL_one]
        unfold inS
        simp only
        rw [a1', a4, Bool.and_true, Bool.eq_iff_iff, Bool.not_eq_true', decide_eq_false_iff_not, decide_eq_true_iff]
        omega
      rw [if_neg h7, if_neg h7]
      have h8 : c.op = 8 := by omega
      rw [if_pos h8, if_pos h8, inL_one]
      have hc2 := hk2 h8
      unfold inS atV
      simp only
      rw [around_k2 hc2, around_k2 (hk.trans hc2), decide_eq_true (hk.trans hc2), Bool.true_and]
      simp only
      rw [lt_live2]
      exact past_law c.v.s v.s
    · rw [decide_eq_false hk, Bool.false_and, if_neg hk]
end Go.Proofs.YtabegbelkfhbcaaGreat

namespace Go.Proofs.YtabegbelkfhbcaaGreat

def inC (c : C) : Prop := inN c.v.n ∧ ∀ x ∈ c.set, inN x.n
theorem in0 : inN 0 := ⟨by decide, by decide⟩
theorem some_in {r : Rg} (h : Good4 r) : inN (someR r).1.n := by
  unfold someR
  cases hi : r.i with
  | cons x l =>
    have hx := h.i x (by rw [hi]; exact List.mem_cons_self)
    have he := lt_live hx.2.2
    have hl : x.lo.a.length = 8 := by
      rcases hx.1 with h1 | h1
      · rw [he] at h1; cases h1
      · exact h1
    have := wholeF_lt 8 _ hl
    unfold inN
    show -9223372036854775808 ≤ (wholeF x.lo.a : Int) - 9223372036854775808 ∧ (wholeF x.lo.a : Int) - 9223372036854775808 ≤ 9223372036854775807
    have e : (256 : Nat) ^ 8 = 18446744073709551616 := by decide
    rw [e] at this
    omega
  | nil =>
    cases hs : r.s with
    | cons x l => exact in0
    | nil =>
      cases hb : r.b with
      | cons x l => exact in0
      | nil => exact in0
theorem match_of {p : List C} {l : List (List UInt8 × V)} (hp : mayP p = true) (kp : ∀ c ∈ p, inC c) (h : ∀ n ∈ namesF p, ∃ v, getE l n = some v ∧ inN v.n ∧ (askedF p n).has v = true) : matchP p l = true := by
  unfold matchP
  rw [List.all_eq_true]
  intro c hc
  obtain ⟨v, h1, h2, h3⟩ := h c.name ((names_mem p c.name).2 ⟨c, hc, rfl⟩)
  rw [asked_has hp, List.all_eq_true] at h3
  have h4 := h3 c hc
  rw [decide_eq_true rfl, Bool.not_true, Bool.false_or, holds_has (may_all hp c hc) (kp c hc).1 (kp c hc).2 h2] at h4
  unfold asksE
  rw [h1]; exact h4
theorem getE_map (f : List UInt8 → V) : ∀ (l : List (List UInt8)) (n : List UInt8), n ∈ l → getE (l.map fun n => (n, f n)) n = some (f n)
  | [], n, h => by cases h
  | x :: r, n, h => by
    unfold getE
    rw [List.map_cons, List.find?_cons]
    by_cases hx : x = n
    · subst hx; simp
    · simp only [hx, decide_false]
      exact getE_map f r n (by rcases List.mem_cons.1 h with h | h; exact absurd h.symm hx; exact h)
theorem ex_law {p q : List C} (h : overlapsF p q = true) (kp : ∀ c ∈ p, inC c) (kq : ∀ c ∈ q, inC c) :
    matchP p ((bothF p q).map fun n => (n, (someR ((askedF p n).and (askedF q n))).1)) = true ∧ matchP q ((bothF p q).map fun n => (n, (someR ((askedF p n).and (askedF q n))).1)) = true := by
  obtain ⟨hp, hq, hn⟩ := (overlaps_iff p q).1 h
  have key : ∀ n, n ∈ namesF p ∨ n ∈ namesF q → getE ((bothF p q).map fun n => (n, (someR ((askedF p n).and (askedF q n))).1)) n = some (someR ((askedF p n).and (askedF q n))).1 ∧ inN (someR ((askedF p n).and (askedF q n))).1.n ∧ (askedF p n).has (someR ((askedF p n).and (askedF q n))).1 = true ∧ (askedF q n).has (someR ((askedF p n).and (askedF q n))).1 = true := fun n hm => by
    have hg := apart_good p q n
    obtain ⟨v, v1, v2⟩ := hn n hm
    have hne : ((askedF p n).and (askedF q n)).empty = false := by
      cases he : ((askedF p n).and (askedF q n)).empty with
      | false => rfl
      | true =>
        have := (empty_iff hg).1 he v
        rw [has_and, v1, v2] at this; cases this
    have hs := some_law hg
    have h2 : (someR ((askedF p n).and (askedF q n))).2 = true := by rw [hs.1, hne]; rfl
    have h3 := hs.2 h2
    rw [has_and, Bool.and_eq_true] at h3
    exact ⟨getE_map _ _ n ((both_mem p q n).2 hm), some_in hg, h3.1, h3.2⟩
  exact ⟨match_of hp kp fun n hm => ⟨_, (key n (.inl hm)).1, (key n (.inl hm)).2.1, (key n (.inl hm)).2.2.1⟩, match_of hq kq fun n hm => ⟨_, (key n (.inr hm)).1, (key n (.inr hm)).2.1, (key n (.inr hm)).2.2.2⟩⟩
theorem asked_of {p : List C} {l : List (List UInt8 × V)} (hp : mayP p = true) (kp : ∀ c ∈ p, inC c) (h : matchP p l = true) {n : List UInt8} {v : V} (hg : getE l n = some v) (hv : inN v.n) : (askedF p n).has v = true := by
  rw [asked_has hp, List.all_eq_true]
  intro c hc
  by_cases hn : c.name = n
  · have h1 := List.all_eq_true.1 h c hc
    unfold asksE at h1
    rw [hn, hg] at h1
    rw [decide_eq_true hn, Bool.not_true, Bool.false_or, holds_has (may_all hp c hc) (kp c hc).1 (kp c hc).2 hv]
    exact h1
  · rw [decide_eq_false hn]; rfl
theorem asked_get {p : List C} {l : List (List UInt8 × V)} (h : matchP p l = true) {n : List UInt8} (hn : n ∈ namesF p) : ∃ v, getE l n = some v := by
  obtain ⟨c, hc, rfl⟩ := (names_mem p n).1 hn
  have h1 := List.all_eq_true.1 h c hc
  unfold asksE at h1
  cases hg : getE l c.name with
  | none => rw [hg] at h1; cases h1
  | some v => exact ⟨v, rfl⟩
theorem getE_in {l : List (List UInt8 × V)} (hl : ∀ a ∈ l, inN a.2.n) {n : List UInt8} {v : V} (h : getE l n = some v) : inN v.n := by
  unfold getE at h
  cases hf : l.find? fun a => decide (a.1 = n) with
  | none => rw [hf] at h; cases h
  | some a =>
    rw [hf] at h
    simp only [Option.map_some, Option.some.injEq] at h
    rw [← h]
    exact hl a (List.mem_of_find?_eq_some hf)
theorem overlaps_of {p q : List C} {l : List (List UInt8 × V)} (hp : mayP p = true) (hq : mayP q = true) (kp : ∀ c ∈ p, inC c) (kq : ∀ c ∈ q, inC c) (h1 : matchP p l = true) (h2 : matchP q l = true) (hl : ∀ a ∈ l, inN a.2.n) : overlapsF p q = true := by
  refine (overlaps_iff p q).2 ⟨hp, hq, fun n hn => ?_⟩
  obtain ⟨v, hv⟩ : ∃ v, getE l n = some v := by
    rcases hn with hn | hn
    · exact asked_get h1 hn
    · exact asked_get h2 hn
  have hin := getE_in hl hv
  exact ⟨v, asked_of hp kp h1 hv hin, asked_of hq kq h2 hv hin⟩
end Go.Proofs.YtabegbelkfhbcaaGreat

namespace Go.Proofs.YtabegbelkfhbcaaGreat
open Go.RowKit Go.Sort Go.Shelf
attribute [local go_sem] Oper.semAt_some

def exA (p q : List C) (n : List UInt8) : List UInt8 × V := (n, (someR ((askedF p n).and (askedF q n))).1)
def exampleF (p q : List C) : List (List UInt8 × V) := if overlapsF p q then (bothF p q).map (exA p q) else []
theorem attr_cells (w : World) (x : List UInt8 × V) : ∀ j u, (aC x)[j]? = some u → (w.alloc (.cells #[.string (strOf x.1), .int .i64 x.2.k, .int .i64 x.2.n, .string (strOf x.2.s), .bool x.2.b] 87)).cell? ((⟨w.heap.size, 0, none⟩ : Addr).add j) = some u := by
  intro j u hj
  obtain ⟨_, a, cap, e, _, _, _, _, h7⟩ := attr_row w x
  simp only [Value.slice.injEq] at e
  obtain ⟨rfl, _, _⟩ := e
  obtain ⟨p, e2, hcl⟩ := h7 j u hj
  cases e2
  have e3 : ((⟨w.heap.size, 0, none⟩ : Addr).add j) = ⟨w.heap.size, 0 + j, none⟩ := by cases j <;> simp [Addr.add]
  rw [e3]; exact hcl
theorem own_obj {w : World} {base size n b : Nat} {e : TypeId} {v : Value} {xs : List Value} {o : Obj} (h : w.ownsRow base e size v n xs) (hb : w.heap[b]? = some o) (ho : ∀ c t fr, o ≠ .cells c t fr) : v.ownBlock ≠ some b := by
  intro hk
  rcases h.2 with ⟨rfl, _⟩ | ⟨g, cap, cur, rfl, _, hg, _⟩
  · cases hk
  · have : g = b := by simpa [Value.ownBlock] using hk
    subst this
    rw [hb] at hg
    exact ho _ _ _ (Option.some.inj hg)
/-- What a round leaves. -/
structure ExU (w : World) (be hi : Nat) (rc : LoopState → Loop) (p q : List C) (pre : List (List UInt8)) (W : World) : Prop where
  ex : ∃ va, W.heap[w.heap.size]? = some (.cells #[.string ⟨#[]⟩, .slice none 0 0] 58 (0, 0)) ∧ W.heap[be]? = some (.cells #[.string ⟨#[]⟩, va] 58 (0, 0)) ∧ W.ownsRow hi 87 5 va pre.length ((pre.map (exA p q)).flatMap aC) ∧ W.heap[hi]? = some (.deferred (some [])) ∧ W.heap[hi + 1]? = some (.loop (rc .ready))

set_option maxRecDepth 100000 in
set_option maxHeartbeats 8000000 in
theorem example_no (w : World) (vp vq : Value) (p q : List C) (hp : PredR w vp p) (hq : PredR w vq q) (kp : ∀ c ∈ p, okC c) (kq : ∀ c ∈ q, okC c) (h : overlapsF p q = false) :
    Calls Tryz.prog 19 #[vp, vq] w fun e w' => e = .returned (.tuple #[.agg #[.string ⟨#[]⟩, .slice none 0 0], .bool false]) ∧ Ext w w' := by
  obtain ⟨ap, cp, rfl, _, _⟩ := hp.shape
  obtain ⟨aq, cq, rfl, _, _⟩ := hq.shape
  obtain ⟨hx0, hb4⟩ := boxes1 w (.cells #[.string ⟨#[]⟩, .slice none 0 0] 58)
  have hov := overlaps_lit (hp.ext hx0) (hq.ext hx0) kp kq h
  have HO := Lib.hid hov
  have H4 := Lib.hid hb4
  clear hov h hp hq hb4
  generalize p.length = pl at *
  generalize q.length = ql at *
  go_enter Tryz.func19, Tryz.ntmps19
  go_wp2_with fail
  refine HO.out.mono ?_
  rintro e w1 ⟨rfl, hx1⟩
  have H4 := Lib.hid (block_later H4.out hx1)
  go_wp2_with (refine wpList_store_whole 58 (.tmp 4) (.tmp 15) rfl rfl w.heap.size rfl #[.string ⟨#[]⟩, .slice none 0 0] rfl _ 58 H4.out rfl info58s (by simp [Value.oneCell']) ?_)
  have hq := setRow_heap _ _ _ #[.string ⟨#[]⟩, .slice none 0 0] _ _ H4.out
  have g0 := cell_of_row _ _ 0 _ _ _ hq
  have g1 := cell_of_row _ _ 1 _ _ _ hq
  exact bodyPost_ret (v := .tuple #[.agg #[.string ⟨#[]⟩, .slice none 0 0], .bool false]) (by simp [results, Tryz.results19, go_sem, g0, g1]) rfl ⟨rfl, (hx0.trans hx1).setRow (Nat.le_refl _) _⟩

set_option maxRecDepth 100000 in
set_option maxHeartbeats 16000000 in
theorem example_yes (w : World) (vp vq : Value) (p q : List C) (hp : PredR w vp p) (hq : PredR w vq q) (kp : ∀ c ∈ p, okC c) (kq : ∀ c ∈ q, okC c) (hm : overlapsF p q = true) :
    Calls Tryz.prog 19 #[vp, vq] w fun e w' => ∃ va, e = .returned (.tuple #[.agg #[.string ⟨#[]⟩, va], .bool true]) ∧ AttrR w' va ((bothF p q).map (exA p q)) ∧ Ext w w' := by
  obtain ⟨ap, cp, rfl, _, _⟩ := hp.shape
  obtain ⟨aq, cq, rfl, _, _⟩ := hq.shape
  obtain ⟨hx0, hb4⟩ := boxes1 w (.cells #[.string ⟨#[]⟩, .slice none 0 0] 58)
  have hsz : (w.alloc (.cells #[.string ⟨#[]⟩, .slice none 0 0] 58)).heap.size = w.heap.size + 1 := by simp
  have hov := overlaps_lit (hp.ext hx0) (hq.ext hx0) kp kq hm
  have hmm := (overlaps_iff _ _).1 hm
  have hlp := may_len hmm.1
  have hlq := may_len hmm.2.1
  have HOV := Lib.hid hov
  have HP := Lib.hid hp
  have HQ := Lib.hid hq
  have H4 := Lib.hid hb4
  have HLP := Lib.hid hlp
  have HLQ := Lib.hid hlq
  have HSZ := Lib.hid hsz
  clear hov hm hmm hp hq hb4 hlp hlq hsz
  generalize hpl : p.length = pl at *
  generalize hql : q.length = ql at *
  have HPL := Lib.hid hpl
  have HQL := Lib.hid hql
  clear hpl hql
  refine callsIn_wide (n := 9).1 ?_
  refine callsIn_of_wp_marks Tryz.func19 rfl trivial ?_ rfl
  simp only [Tryz.ntmps19, List.size_toArray, List.length_cons, List.length_nil, Nat.reduceAdd, Nat.reduceSub, Array.replicate_succ, Array.replicate_zero, List.push_toArray, List.append_toArray, List.nil_append, List.cons_append]
  gi_wp2_with fail
  refine ⟨trivial, ?_⟩
  refine CallsIn.mono (callsIn_wide.2 HOV.out) ?_
  rintro e W0 ⟨rfl, hx0b⟩
  obtain ⟨hx1, hbe⟩ := boxes1 W0 (.cells #[.string ⟨#[]⟩, .slice none 0 0] 58)
  have hx01 := (hx0.trans hx0b).trans hx1
  have k4 := block_later H4.out (hx0b.trans hx1)
  have h0s : w.heap.size + 1 ≤ W0.heap.size := by have := hx0b.size; rw [HSZ.out] at this; exact this
  have hs1 : (W0.alloc (.cells #[.string ⟨#[]⟩, .slice none 0 0] 58)).heap.size = W0.heap.size + 1 := by simp
  have hasked := asked96_any _ _ _ p q (HP.out.ext hx01) (HQ.out.ext hx01) (by rw [HPL.out]; exact HLP.out) (by rw [HQL.out]; exact HLQ.out)
  have HA := Lib.hid hasked
  have K4 := Lib.hid k4
  have KE := Lib.hid hbe
  have HS1 := Lib.hid hs1
  clear hasked HOV k4 hbe hs1
  gi_wp2_with fail
  refine ⟨trivial, ?_⟩
  refine CallsIn.mono (callsIn_wide.2 HA.out) ?_
  clear HA
  generalize W0.alloc (.cells #[.string ⟨#[]⟩, .slice none 0 0] 58) = W1 at *
  generalize hbee : W0.heap.size = be at *
  rintro e W2 ⟨b5, b6, vn, l0, rfl, hcomp, hl0, hx2, hI, hb5, hbx5⟩
  have h1s : W1.heap.size = be + 1 := HS1.out
  have hx02 := hx01.trans hx2
  have k4 := block_later K4.out hx2
  have ke := block_later KE.out hx2
  clear H4 K4 KE hx1 hx0b hbee HS1
  gi_wp2_with fail
  refine range_law (gf := 58) rfl (enters_of Tryz.func58 (by kernel_rfl) rfl) ?_
  intro fn rc hrc
  have HRC := Lib.hid hrc
  clear hrc
  obtain ⟨hx3, hdf, hlp⟩ := boxes2 W2 (.deferred (some [])) (.loop (rc .ready))
  have j4 := block_later k4 hx3
  have je := block_later ke hx3
  have hI3 := hI.keeps (Keeps.of_ext (S := fun _ => False) hx3) (fun _ h => h.elim)
  have hbx := block_later hbx5 hx3
  have hx03 := hx02.trans hx3
  have hhi := hI.lohi.2
  have hnl : (bothF p q).length ≤ 1000000 := by rw [← hcomp]; exact Nat.le_trans (compE_len _ l0 (Nat.le_refl _)) hl0
  generalize (W2.alloc (.deferred (some []))).alloc (.loop (rc .ready)) = W3 at *
  generalize hL : W2.heap.size = hi at *
  clear hx3 hI k4 ke hbx5 hx02
  refine CallsIn.mono (iter_any _ (hi + 1) w p q _ _ HP.out HQ.out kp kq (W1.heap.size + 2) hi b5 b6 (by omega) vn l0 (bothF p q) hcomp hl0
    (ExU w be hi rc p q)
    (fun _ => False)
    ?abide ?yield W3 hx03 hI3 hbx ⟨⟨.slice none 0 0, j4, je, World.ownsRow_nil _ _ _ _, hdf, hlp⟩⟩) ?done
  case abide =>
    rintro pre W W' ⟨va, h1, h2, h3, h4, h5⟩ hk
    exact ⟨va, hk.heap h1 (by omega), hk.heap h2 (by omega), own_keeps h3 hk fun k hs e => by have := own_base h3 k e; omega, hk.heap h4 (by omega), hk.heap h5 (by omega)⟩
  case done =>
    rintro e W ⟨⟨x, rfl⟩, ⟨hxw, va, h1, h2, h3, h4, h5⟩ | hf⟩
    · refine ⟨⟨_, rfl⟩, .inl ⟨h5, ?_⟩⟩
      have hK : Keeps (fun k => k = hi + 1) W (W.putObj (hi + 1) (.loop (rc .exhausted))) := Keeps.put _ W _ _ rfl
      have g1 := hK.heap h1 (by omega)
      have g2 := hK.heap h2 (by omega)
      have g3 : (W.putObj (hi + 1) (.loop (rc .exhausted))).ownsRow hi 87 5 va (bothF p q).length (((bothF p q).map (exA p q)).flatMap aC) := ownsRow_putObj h3 (.loop (rc .exhausted)) h5 rfl
      have g4 := hK.heap h4 (by omega)
      have hxk := hK.ext hxw (fun k hk => by have : k = hi + 1 := hk; omega)
      generalize W.putObj (hi + 1) (.loop (rc .exhausted)) = Wd at *
      obtain ⟨aa, ac, rfl, _, _⟩ := Row.shape (own_row g3)
      have m0 := cell_of_row _ _ 0 _ _ _ g2
      have m1 := cell_of_row _ _ 1 _ _ _ g2
      have HG := Lib.hid (And.intro g1 (And.intro g3 (And.intro g4 hxk)))
      have H1 := Lib.hid g1
      generalize hbl : (bothF p q).length = bl at *
      have HBL := Lib.hid hbl
      clear hK g1 g2 g3 g4 hxk h1 h2 h3 h4 h5 hbl
      gi_upto_region 9 with fail
      refine wpIn_wide.2 ?_
      go_wp2_with (refine wpList_store_whole 58 (.tmp 4) (.tmp 34) rfl rfl w.heap.size rfl #[.string ⟨#[]⟩, .slice aa bl ac] rfl _ 58 H1.out rfl info58s (by simp [Value.oneCell']) ?_)
      gi_wp2_with fail
      have hq := setRow_heap _ _ _ #[.string ⟨#[]⟩, .slice aa bl ac] _ _ H1.out
      have hK2 : Keeps (fun k => k = w.heap.size) Wd (Wd.setRow w.heap.size #[.string ⟨#[]⟩, .slice aa bl ac]) := Keeps.row _ Wd _ _ rfl
      have hK3 : Keeps (fun k => k = hi) (Wd.setRow w.heap.size #[.string ⟨#[]⟩, .slice aa bl ac]) ((Wd.setRow w.heap.size #[.string ⟨#[]⟩, .slice aa bl ac]).putObj hi (.deferred none)) := Keeps.put _ _ _ _ rfl
      have d := hK3.heap hq (by omega)
      have g0 := cell_of_row _ _ 0 _ _ _ d
      have g1 := cell_of_row _ _ 1 _ _ _ d
      have hxe := hK3.ext (hK2.ext HG.out.2.2.2 (fun k hk => by have : k = w.heap.size := hk; omega)) (fun k hk => by have : k = hi := hk; omega)
      have ho2 := own_keeps HG.out.2.1 hK2 fun k hs e => by have := own_base HG.out.2.1 k e; have : k = w.heap.size := hs; omega
      have hd2 := hK2.heap HG.out.2.2.1 (by omega)
      have ho3 := own_keeps ho2 hK3 fun k hs e => by
        have hs' : k = hi := hs
        subst hs'
        rcases ho2.2 with ⟨e0, _⟩ | ⟨g, cap, cur, e0, _, hg, _⟩
        · rw [e0] at e; cases e
        · rw [e0] at e
          have : g = k := by simpa [Value.ownBlock] using e
          subst this
          rw [hd2] at hg; cases hg
      refine ⟨by simp, .inl ⟨_, _, rfl, run_takeDeferred hd2, ?_⟩⟩
      refine ⟨.tuple #[.agg #[.string ⟨#[]⟩, .slice aa bl ac], .bool true], by simp [results, Tryz.results19, go_sem, g0, g1], .slice aa bl ac, rfl, ?_, hxe⟩
      have hr := own_row ho3
      rw [← HBL.out] at hr ⊢
      show Row _ 5 _ ((bothF p q).map (exA p q)).length _
      rw [List.length_map]; exact hr
    · exact hf.elim
  case yield =>
    rintro pre nm rest vc v W hsp hxw hit ⟨va, h1, h2, h3, h4, h5⟩ hv
    obtain ⟨a1, c1, a2, c2, a3, c3, rfl, _, _, _⟩ := hv.ex
    have hpl : pre.length < 1000000 := by
      have e := congrArg List.length hsp
      simp only [List.length_append, List.length_cons] at e
      omega
    have hgood := apart_good p q nm
    have hnx : ((pre ++ [nm]).map (exA p q)).flatMap aC = (pre.map (exA p q)).flatMap aC ++ aC (exA p q nm) := by simp
    have HSP := Lib.hid hsp
    have HNX := Lib.hid hnx
    clear hsp hnx
    have hexa : exA p q nm = (nm, (someR ((askedF p nm).and (askedF q nm))).1) := rfl
    rw [hexa] at HNX
    clear hexa
    generalize (askedF p nm).and (askedF q nm) = R at *
    refine round_law HRC.out h5 rfl ?_
    obtain ⟨hxa, hbr⟩ := boxes1 W (.cells #[.slice a1 R.i.length c1, .slice a2 R.s.length c2, .slice a3 R.b.length c3, .bool R.odd] 83)
    have hva := hv.ext hxa
    have l5 := block_later h5 hxa
    have hKa : Keeps (fun k => k = hi + 1) (W.alloc (.cells #[.slice a1 R.i.length c1, .slice a2 R.s.length c2, .slice a3 R.b.length c3, .bool R.odd] 83)) ((W.alloc (.cells #[.slice a1 R.i.length c1, .slice a2 R.s.length c2, .slice a3 R.b.length c3, .bool R.odd] 83)).putObj (hi + 1) (.loop (rc .busy))) := Keeps.put _ _ _ _ rfl
    have hvb := rgr_keeps hva hKa (fun k hk => by have : k = hi + 1 := hk; rw [this]; exact ⟨_, l5⟩)
    have hlt : hi + 1 < W.heap.size := (Array.getElem?_eq_some_iff.1 h5).1
    have b1 := hKa.heap (block_later h1 hxa) (by omega)
    have b2 := hKa.heap (block_later h2 hxa) (by omega)
    have b3 := ownsRow_putObj (own_ext h3 hxa) (.loop (rc .busy)) l5 rfl
    have b4 := hKa.heap (block_later h4 hxa) (by omega)
    have b5' := loop_put (o' := .loop (rc .busy)) l5
    have bR := hKa.heap hbr (by omega)
    have hitb := (hit.keeps (Keeps.of_ext (S := fun _ => False) hxa) (fun _ h => h.elim)).keeps hKa (fun k hk => by have : k = hi + 1 := hk; omega)
    have hxb := hKa.ext (hxw.trans hxa) (fun k hk => by have : k = hi + 1 := hk; omega)
    have HA2 := Lib.hid (And.intro b1 (And.intro b2 (And.intro b3 (And.intro b4 (And.intro b5' (And.intro hitb hxb))))))
    have HL5 := Lib.hid l5
    have HBR := Lib.hid bR
    have HVB := Lib.hid hvb
    have HGOOD := Lib.hid hgood
    clear h1 h2 h3 h4 h5 hxa hbr hva hKa b1 b2 b3 b4 b5' bR hitb hxb l5 hvb hit hxw hv hgood
    gi_wp2_with fail
    refine ⟨HL5.out, ?_⟩
    clear HL5
    generalize (W.alloc (.cells #[.slice a1 R.i.length c1, .slice a2 R.s.length c2, .slice a3 R.b.length c3, .bool R.odd] 83)).putObj (hi + 1) (.loop (rc .busy)) = W5 at *
    generalize W.heap.size = bR at *
    have r0 := cell_of_row _ _ 0 _ _ _ HBR.out
    have r1 := cell_of_row _ _ 1 _ _ _ HBR.out
    have r2 := cell_of_row _ _ 2 _ _ _ HBR.out
    have r3 := cell_of_row _ _ 3 _ _ _ HBR.out
    have hem := some_any W5 _ R HVB.out HGOOD.out
    generalize someR R = st at *
    have HEM := Lib.hid hem
    clear hem
    gi_wp2_with fail
    refine ⟨trivial, ?_⟩
    refine CallsIn.mono (CallsIn.inRound _ (callsIn_wide.2 HEM.out)) ?_
    rintro e W6 ⟨rfl, hx6⟩
    clear r0 r1 r2 r3 HEM
    obtain ⟨hx7, hb28⟩ := boxes1 W6 (.cells #[.int .i64 st.1.k, .int .i64 st.1.n, .string (strOf st.1.s), .bool st.1.b] 50)
    have hx57 := hx6.trans hx7
    have b1 := block_later HA2.out.1 hx57
    have b2 := block_later HA2.out.2.1 hx57
    have b3 := own_ext HA2.out.2.2.1 hx57
    have b4 := block_later HA2.out.2.2.2.1 hx57
    have b5' := block_later HA2.out.2.2.2.2.1 hx57
    have hit6 := HA2.out.2.2.2.2.2.1.keeps (Keeps.of_ext (S := fun _ => False) hx57) (fun _ h => h.elim)
    have hx8 := HA2.out.2.2.2.2.2.2.trans hx57
    have m1 := cell_of_row _ _ 1 _ _ _ b2
    have n0 := cell_of_row _ _ 0 _ _ _ hb28
    have n1 := cell_of_row _ _ 1 _ _ _ hb28
    have n2 := cell_of_row _ _ 2 _ _ _ hb28
    have n3 := cell_of_row _ _ 3 _ _ _ hb28
    gi_upto_region 8 with fail
    generalize W6.alloc (.cells #[.int .i64 st.1.k, .int .i64 st.1.n, .string (strOf st.1.s), .bool st.1.b] 50) = W7 at *
    generalize W6.heap.size = b28 at *
    obtain ⟨i0, hi0, hz0, hz1, hz2⟩ := info_parts info52t
    have hbase : hi ≤ W7.heap.size := by have := (Array.getElem?_eq_some_iff.1 b4).1; omega
    obtain ⟨hx9, _⟩ := boxes1 W7 (.cells #[.string (strOf nm), .int .i64 st.1.k, .int .i64 st.1.n, .string (strOf st.1.s), .bool st.1.b] 87)
    have c1 := block_later b1 hx9
    have c2 := block_later b2 hx9
    have c3 := own_ext b3 hx9
    have c4 := block_later b4 hx9
    have c5 := block_later b5' hx9
    have hit7 := hit6.keeps (Keeps.of_ext (S := fun _ => False) hx9) (fun _ h => h.elim)
    have hx10 := hx8.trans hx9
    have hbase2 := Nat.le_trans hbase hx9.size
    have hac := attr_cells W7 (nm, st.1)
    have HC1 := Lib.hid c1
    have HC2 := Lib.hid c2
    have HC3 := Lib.hid c3
    have HC4 := Lib.hid c4
    have HC5 := Lib.hid c5
    have HIT := Lib.hid hit7
    have HAC := Lib.hid hac
    have HI0 := Lib.hid hi0
    have HZ0 := Lib.hid hz0
    have HZ1 := Lib.hid hz1
    have HZ2 := Lib.hid hz2
    clear b1 b2 b3 b4 b5' hit6 hx8 hx9 hx57 hx6 hx7 hb28 c1 c2 c3 c4 c5 hit7 hac hi0 hz0 hz1 hz2
    gi_wp2_with (gi_at_builtin; go_loud (refine wpListIn_append_own _ rfl (.tmp 27) (.tmp 31) 56 rfl hi 87 i0 _ 5 56 Tryz.underlying56 HI0.out HZ0.out HZ1.out HZ2.out rfl (by decide) va pre.length ((pre.map (exA p q)).flatMap aC) rfl HC3.out ⟨W7.heap.size, 0, none⟩ 1 1 (aC (nm, st.1)) rfl rfl HAC.out (aC_one _) (by unfold maxLen; omega) (by omega) hbase2 ?_); intro v' w' hown2 hg _; obtain ⟨nb1, nb2, rfl, _, _⟩ := Row.shape (own_row hown2); have HO2 := Lib.hid hown2; have HG := Lib.hid hg; have d2 := (hg.block be (Array.getElem?_eq_some_iff.1 HC2.out).1 (fun e => own_ne HC3.out HC2.out (by decide) e.symm)).trans HC2.out; have dm := cell_of_row _ _ 1 _ _ _ d2; have df := frozen_row d2 1; have HD2 := Lib.hid d2; clear hown2 hg d2)
    have d1 := (HG.out.block w.heap.size (Array.getElem?_eq_some_iff.1 HC1.out).1 (fun e => own_ne HC3.out HC1.out (by decide) e.symm)).trans HC1.out
    have d4 := (HG.out.block hi (Array.getElem?_eq_some_iff.1 HC4.out).1 (fun e => own_obj HC3.out HC4.out (by intro c t fr e; cases e) e.symm)).trans HC4.out
    have d5 := (HG.out.block (hi + 1) (Array.getElem?_eq_some_iff.1 HC5.out).1 (fun e => own_obj HC3.out HC5.out (by intro c t fr e; cases e) e.symm)).trans HC5.out
    have hbs := own_base HC3.out
    have hit8 := HIT.out.keeps (Keeps.of_grown HG.out (S := fun k => hi ≤ k) fun k e => hbs k e) (fun k hk => .inr hk)
    have hx11 := (Keeps.of_grown HG.out (S := fun k => hi ≤ k) fun k e => hbs k e).ext hx10 (fun k hk => by omega)
    have hKs : Keeps (fun k => k = be) w' (w'.setCell ⟨be, 1, none⟩ (.slice nb1 (pre.length + 1) nb2)) := Keeps.of_grown (row := some be) ⟨rfl, rfl, rfl, by simp, fun k _ hk => setCell_block_other w' ⟨be, 1, none⟩ _ k (fun e => hk (by rw [e]))⟩ (fun k e => by cases e; rfl)
    have e1 := hKs.heap d1 (by omega)
    have e2 := setCell_block w' be 1 (.slice nb1 (pre.length + 1) nb2) _ _ _ HD2.out
    have e3 := own_cell HO2.out HD2.out (by decide) 1 (.slice nb1 (pre.length + 1) nb2)
    have e4 := hKs.heap d4 (by omega)
    have e5 := hKs.heap d5 (by omega)
    have hit9 := hit8.keeps hKs (fun k hk => by have : k = be := hk; omega)
    have hx12 := hKs.ext hx11 (fun k hk => by have : k = be := hk; omega)
    generalize w'.setCell ⟨be, 1, none⟩ (.slice nb1 (pre.length + 1) nb2) = We at *
    have hKp : Keeps (fun k => k = hi + 1) We (We.putObj (hi + 1) (.loop (rc .ready))) := Keeps.put _ _ _ _ rfl
    have g1 := hKp.heap e1 (by omega)
    have g2 := hKp.heap e2 (by omega)
    have g3 := ownsRow_putObj e3 (.loop (rc .ready)) e5 rfl
    have g4 := hKp.heap e4 (by omega)
    have g5 := loop_put (o' := .loop (rc .ready)) e5
    have hl : (pre ++ [nm]).length = pre.length + 1 := by simp
    refine ⟨e5, rfl, hKp.ext hx12 (fun k hk => by have : k = hi + 1 := hk; omega), by have hz := hit9.keeps hKp (fun k hk => by have : k = hi + 1 := hk; omega); rw [h1s] at hz; exact hz, ⟨_, g1, g2, ?_, g4, g5⟩⟩
    rw [HNX.out, hl]
    exact g3

theorem example_any (w : World) (vp vq : Value) (p q : List C) (hp : PredR w vp p) (hq : PredR w vq q) (kp : ∀ c ∈ p, okC c) (kq : ∀ c ∈ q, okC c) :
    Calls Tryz.prog 19 #[vp, vq] w fun e w' => ∃ va, e = .returned (.tuple #[.agg #[.string ⟨#[]⟩, va], .bool (overlapsF p q)]) ∧ AttrR w' va (exampleF p q) ∧ Ext w w' := by
  unfold exampleF
  cases h : overlapsF p q with
  | true => exact example_yes w vp vq p q hp hq kp kq h
  | false =>
    refine (example_no w vp vq p q hp hq kp kq h).mono ?_
    rintro e w' ⟨rfl, hx⟩
    exact ⟨_, rfl, Row.nil _ _, hx⟩
end Go.Proofs.YtabegbelkfhbcaaGreat
