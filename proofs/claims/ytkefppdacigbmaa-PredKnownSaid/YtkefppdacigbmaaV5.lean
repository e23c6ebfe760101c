/- Covering and overlapping, plainly: normal forms, fewer constraints, both together; what no event matches. No program is in sight. -/
import Derived.Test.YtkefppdacigbmaaV3
namespace Go.Proofs.Ytkefppdacigbmaa

theorem prefix_ge : ∀ (p s : List UInt8), p.isPrefixOf s = true → 0 ≤ Lib.compareBytes s p
  | [], s, _ => by cases s <;> simp [Lib.compareBytes]
  | a :: p, [], h => by simp at h
  | a :: p, b :: s, h => by
    simp only [List.isPrefixOf, Bool.and_eq_true, beq_iff_eq] at h
    obtain ⟨rfl, h⟩ := h
    have := prefix_ge p s h
    simp only [Lib.compareBytes]
    rw [if_neg (UInt8.lt_irrefl a), if_neg (UInt8.lt_irrefl a)]; exact this

theorem has_fold (l : List V) (r : Rg) (v : V) : (l.foldl (fun r x => r.minus (oneV x)) r).has v = (r.has v && l.all fun x => !(oneV x).has v) := by
  induction l generalizing r with
  | nil => simp
  | cons x l ih => rw [List.foldl_cons, ih, has_minus, List.all_cons, Bool.and_assoc]
theorem has_in {c : C} (hm : mayC c = true) (h9 : c.op = 9) (v : V) : (ofR c).has v = c.set.any fun x => (oneV x).has v := by
  unfold ofR
  rw [hm, if_neg (by decide), if_neg (by omega), if_pos h9, has_minus, has_fold, all_has, Bool.true_and, Bool.true_and]
  induction c.set with
  | nil => rfl
  | cons x l ih => rw [List.all_cons, List.any_cons, Bool.not_and, Bool.not_not, ih]
theorem has_norm {c : C} (hm : mayC c = true) (v : V) : (ofR (normC c)).has v = (ofR c).has v := by
  by_cases h9 : c.op = 9
  · rw [has_in hm h9, has_in (norm_may hm) h9]
    have hi := set_inj hm
    rw [Bool.eq_iff_iff, List.any_eq_true, List.any_eq_true]
    constructor
    · rintro ⟨x, hx, e⟩; exact ⟨x, (sortU_mem _ hi x).1 hx, e⟩
    · rintro ⟨x, hx, e⟩; exact ⟨x, (sortU_mem _ hi x).2 hx, e⟩
  · have e1 : mayC (normC c) = true := norm_may hm
    have hl : ofL (normC c) = ofL c := rfl
    unfold ofR
    rw [hm, e1]
    show (if _ then _ else if c.op = 1 then _ else if c.op = 9 then _ else setR c.v.k (ofL (normC c))).has v = _
    rw [hl, if_neg h9, if_neg (show ¬ (!true) = true by decide), if_neg (show ¬ (!true) = true by decide), if_neg h9]
theorem norm_names {p : List C} (n : List UInt8) : n ∈ namesF (normP p) ↔ n ∈ namesF p := by
  rw [names_mem, names_mem]
  constructor
  · rintro ⟨c, hc, e⟩
    obtain ⟨d, hd, rfl⟩ := (normP_mem p c).1 hc
    exact ⟨d, hd, e⟩
  · rintro ⟨d, hd, e⟩
    exact ⟨normC d, (normP_mem p _).2 ⟨d, hd, rfl⟩, e⟩
theorem may_all {p : List C} (h : mayP p = true) : ∀ c ∈ p, mayC c = true := by
  unfold mayP at h
  simp only [Bool.and_eq_true] at h
  exact List.all_eq_true.1 h.2
theorem may_len {p : List C} (h : mayP p = true) : p.length ≤ 6 := by
  unfold mayP at h
  simp only [Bool.and_eq_true, decide_eq_true_eq] at h
  exact h.1
theorem may_mk {p : List C} (h1 : p.length ≤ 6) (h2 : ∀ c ∈ p, mayC c = true) : mayP p = true := by
  unfold mayP
  simp only [Bool.and_eq_true, decide_eq_true_eq]
  exact ⟨h1, List.all_eq_true.2 h2⟩
theorem norm_asked {p : List C} (h : mayP p = true) (n : List UInt8) (v : V) : (askedF (normP p) n).has v = (askedF p n).has v := by
  rw [asked_has (normP_may h), asked_has h, Bool.eq_iff_iff, List.all_eq_true, List.all_eq_true]
  constructor
  · intro a c hc
    have := a (normC c) ((normP_mem p _).2 ⟨c, hc, rfl⟩)
    rw [has_norm (may_all h c hc)] at this
    exact this
  · intro a z hz
    obtain ⟨c, hc, rfl⟩ := (normP_mem p z).1 hz
    rw [has_norm (may_all h c hc)]
    exact a c hc
theorem covers_norm {p : List C} (h : mayP p = true) : coversF (normP p) p = true ∧ coversF p (normP p) = true :=
  ⟨(covers_iff _ _).2 ⟨normP_may h, h, .inr fun n hn => ⟨(norm_names n).1 hn, fun v hv => by rw [norm_asked h]; exact hv⟩⟩,
   (covers_iff _ _).2 ⟨h, normP_may h, .inr fun n hn => ⟨(norm_names n).2 hn, fun v hv => by rw [norm_asked h] at hv; exact hv⟩⟩⟩
theorem may_nil : mayP [] = true := rfl
theorem covers_nil {p : List C} (h : mayP p = true) : coversF [] p = true := covers_sub may_nil h fun _ hc => by cases hc
theorem covers_less {p : List C} (h : mayP p = true) (k : Nat) : coversF (p.take k ++ p.drop (k + 1)) p = true := by
  have hsub : ∀ c ∈ p.take k ++ p.drop (k + 1), c ∈ p := fun c hc => by
    rcases List.mem_append.1 hc with hc | hc
    · exact List.mem_of_mem_take hc
    · exact List.mem_of_mem_drop hc
  refine covers_sub (may_mk ?_ fun c hc => may_all h c (hsub c hc)) h hsub
  have := may_len h
  rw [List.length_append, List.length_take, List.length_drop]; omega
theorem may_app {p q : List C} (hp : mayP p = true) (hq : mayP q = true) (hl : p.length + q.length ≤ 6) : mayP (p ++ q) = true :=
  may_mk (by rw [List.length_append]; exact hl) fun c hc => by
    rcases List.mem_append.1 hc with hc | hc
    · exact may_all hp c hc
    · exact may_all hq c hc
theorem covers_both {p q r : List C} (hp : mayP p = true) (hq : mayP q = true) (hl : p.length + q.length ≤ 6) : coversF (p ++ q) r = (coversF p r && coversF q r) := by
  have hb := may_app hp hq hl
  rw [Bool.eq_iff_iff, Bool.and_eq_true]
  constructor
  · intro h
    exact ⟨covers_trans (covers_sub hp hb fun c hc => List.mem_append_left _ hc) h, covers_trans (covers_sub hq hb fun c hc => List.mem_append_right _ hc) h⟩
  · rintro ⟨h1, h2⟩
    obtain ⟨_, a2, a3⟩ := (covers_iff _ _).1 h1
    obtain ⟨_, _, b3⟩ := (covers_iff _ _).1 h2
    refine (covers_iff _ _).2 ⟨hb, a2, ?_⟩
    rcases a3 with a3 | a3
    · exact .inl a3
    · rcases b3 with b3 | b3
      · exact .inl b3
      · right
        intro n hn
        have key : ∀ {x : List C}, mayP x = true → (∀ n ∈ namesF x, n ∈ namesF r ∧ ∀ v, (askedF r n).has v = true → (askedF x n).has v = true) → ∀ v, (askedF r n).has v = true → (askedF x n).has v = true := fun {x} hx h v hv => by
          by_cases hnx : n ∈ namesF x
          · exact (h n hnx).2 v hv
          · exact asked_free hx hnx v
        refine ⟨?_, fun v hv => ?_⟩
        · obtain ⟨c, hc, e⟩ := (names_mem _ _).1 hn
          rcases List.mem_append.1 hc with hc | hc
          · exact (a3 n ((names_mem _ _).2 ⟨c, hc, e⟩)).1
          · exact (b3 n ((names_mem _ _).2 ⟨c, hc, e⟩)).1
        · have k1 := key hp a3 v hv
          have k2 := key hq b3 v hv
          rw [asked_has hp] at k1
          rw [asked_has hq] at k2
          rw [asked_has hb, List.all_append, k1, k2]; rfl

/-! Overlapping -/
def bothF (p q : List C) : List (List UInt8) := sortU Lib.compareBytes (namesF p ++ namesF q)
def apartF (p q : List C) : Option (List UInt8) := if mayP p && mayP q then (bothF p q).find? fun n => ((askedF p n).and (askedF q n)).empty else none
def overlapsF (p q : List C) : Bool := mayP p && mayP q && (apartF p q).isNone
theorem both_mem (p q : List C) (n : List UInt8) : n ∈ bothF p q ↔ n ∈ namesF p ∨ n ∈ namesF q := by
  unfold bothF
  rw [sortU_mem _ (fun _ _ _ _ => bytes_zero), List.mem_append]
theorem apart_good (p q : List C) (n : List UInt8) : Good4 ((askedF p n).and (askedF q n)) := (good_asked p n).and (good_asked q n)
theorem overlaps_iff (p q : List C) : overlapsF p q = true ↔ mayP p = true ∧ mayP q = true ∧ ∀ n, n ∈ namesF p ∨ n ∈ namesF q → ∃ v, (askedF p n).has v = true ∧ (askedF q n).has v = true := by
  unfold overlapsF apartF
  simp only [Bool.and_eq_true, and_assoc]
  refine and_congr_right fun h1 => and_congr_right fun h2 => ?_
  rw [if_pos ⟨h1, h2⟩, Option.isNone_iff_eq_none, List.find?_eq_none]
  constructor
  · intro h n hn
    have hne : ¬ ((askedF p n).and (askedF q n)).empty = true := h n ((both_mem p q n).2 hn)
    rw [empty_iff (apart_good p q n)] at hne
    obtain ⟨v, hv⟩ := Classical.not_forall.1 hne
    refine ⟨v, ?_⟩
    rw [has_and] at hv
    simpa using hv
  · intro h n hn
    obtain ⟨v, h3, h4⟩ := h n ((both_mem p q n).1 hn)
    intro he
    have := (empty_iff (apart_good p q n)).1 he v
    rw [has_and, h3, h4] at this; cases this
theorem overlaps_symm (p q : List C) : overlapsF p q = overlapsF q p := by
  rw [Bool.eq_iff_iff, overlaps_iff, overlaps_iff]
  constructor
  · rintro ⟨h1, h2, h3⟩
    exact ⟨h2, h1, fun n hn => let ⟨v, a, b⟩ := h3 n hn.symm; ⟨v, b, a⟩⟩
  · rintro ⟨h1, h2, h3⟩
    exact ⟨h2, h1, fun n hn => let ⟨v, a, b⟩ := h3 n hn.symm; ⟨v, b, a⟩⟩
theorem names_nil : namesF [] = [] := rfl
theorem any_iff (p : List C) : overlapsF p [] = true ↔ mayP p = true ∧ noneF p = false := by
  rw [overlaps_iff]
  constructor
  · rintro ⟨h1, _, h3⟩
    refine ⟨h1, ?_⟩
    cases hn : noneF p with
    | false => rfl
    | true =>
      obtain ⟨n, hm, hv⟩ := none_iff.1 hn
      obtain ⟨v, a, _⟩ := h3 n (.inl hm)
      rw [hv] at a; cases a
  · rintro ⟨h1, h2⟩
    refine ⟨h1, may_nil, fun n hn => ?_⟩
    have hm : n ∈ namesF p := hn.elim id fun h => by rw [names_nil] at h; cases h
    have hne : ¬ ∀ v, (askedF p n).has v = false := fun h => by
      have := none_iff.2 ⟨n, hm, h⟩
      rw [h2] at this; cases this
    obtain ⟨v, hv⟩ := Classical.not_forall.1 hne
    exact ⟨v, by simpa using hv, asked_free may_nil (by rw [names_nil]; intro h; cases h) v⟩
/-- Who overlaps one that a third one covers overlaps that third one. -/
theorem overlap_law1 {p q r : List C} (h1 : overlapsF p q = true) (h2 : coversF r q = true) : overlapsF p r = true := by
  obtain ⟨a1, a2, a3⟩ := (overlaps_iff p q).1 h1
  obtain ⟨b1, _, b3⟩ := (covers_iff r q).1 h2
  refine (overlaps_iff p r).2 ⟨a1, b1, fun n hn => ?_⟩
  rcases b3 with b3 | b3
  · exfalso
    obtain ⟨m, hm, hv⟩ := none_iff.1 b3
    obtain ⟨v, _, h⟩ := a3 m (.inr hm)
    rw [hv] at h; cases h
  · have hnq : n ∈ namesF p ∨ n ∈ namesF q := hn.imp id fun h => (b3 n h).1
    obtain ⟨v, c1, c2⟩ := a3 n hnq
    refine ⟨v, c1, ?_⟩
    by_cases hr : n ∈ namesF r
    · exact (b3 n hr).2 v c2
    · exact asked_free b1 hr v
/-- One that covers another one, which matches anything, overlaps it. -/
theorem overlap_law2 {p q : List C} (h1 : coversF p q = true) (h2 : overlapsF q [] = true) : overlapsF p q = true := by
  obtain ⟨a1, a2, a3⟩ := (covers_iff p q).1 h1
  obtain ⟨_, hn⟩ := (any_iff q).1 h2
  obtain ⟨_, _, b3⟩ := (overlaps_iff q []).1 h2
  refine (overlaps_iff p q).2 ⟨a1, a2, fun n hm => ?_⟩
  rcases a3 with a3 | a3
  · rw [hn] at a3; cases a3
  · have hq : n ∈ namesF q := hm.elim (fun h => (a3 n h).1) id
    obtain ⟨v, c1, _⟩ := b3 n (.inl hq)
    refine ⟨v, ?_, c1⟩
    by_cases hp : n ∈ namesF p
    · exact (a3 n hp).2 v c1
    · exact asked_free a1 hp v
/-- What matches nothing is covered by all, and overlaps nobody. -/
theorem overlap_law3 {p q : List C} (hp : mayP p = true) (h : overlapsF p [] = false) : overlapsF p q = false ∧ (mayP q = true → coversF q p = true) := by
  have hn : noneF p = true := by
    cases hn : noneF p with
    | true => rfl
    | false => have := (any_iff p).2 ⟨hp, hn⟩; rw [h] at this; cases this
  refine ⟨?_, fun hq => (covers_iff q p).2 ⟨hq, hp, .inl hn⟩⟩
  cases ho : overlapsF p q with
  | false => rfl
  | true =>
    obtain ⟨_, _, a3⟩ := (overlaps_iff p q).1 ho
    obtain ⟨n, hm, hv⟩ := none_iff.1 hn
    obtain ⟨v, c1, _⟩ := a3 n (.inl hm)
    rw [hv] at c1; cases c1
theorem apart_some {p q : List C} {n : List UInt8} (h : apartF p q = some n) : mayP p = true ∧ mayP q = true ∧ ((askedF p n).and (askedF q n)).empty = true ∧ (n ∈ namesF p ∨ n ∈ namesF q) := by
  unfold apartF at h
  split at h
  · rename_i hm
    simp only [Bool.and_eq_true] at hm
    exact ⟨hm.1, hm.2, List.find?_some (p := fun n => ((askedF p n).and (askedF q n)).empty) h, (both_mem p q n).1 (List.mem_of_find?_eq_some h)⟩
  · cases h
/-- Without their constraints of all other names they do not overlap either. -/
theorem apart_only {p q : List C} {n : List UInt8} (h : apartF p q = some n) : overlapsF (p.filter fun c => decide (c.name = n)) (q.filter fun c => decide (c.name = n)) = false := by
  obtain ⟨hp, hq, he, hn⟩ := apart_some h
  have hm : ∀ {x : List C}, mayP x = true → mayP (x.filter fun c => decide (c.name = n)) = true := fun {x} hx =>
    may_mk (Nat.le_trans (List.length_filter_le _ _) (may_len hx)) fun c hc => may_all hx c (List.mem_filter.1 hc).1
  have ha : ∀ {x : List C}, mayP x = true → ∀ v, (askedF (x.filter fun c => decide (c.name = n)) n).has v = (askedF x n).has v := fun {x} hx v => by
    rw [asked_has (hm hx), asked_has hx, List.all_filter]
    congr 1
    funext c
    by_cases hc : c.name = n
    · simp [hc]
    · simp [hc]
  cases ho : overlapsF (p.filter fun c => decide (c.name = n)) (q.filter fun c => decide (c.name = n)) with
  | false => rfl
  | true =>
    exfalso
    obtain ⟨_, _, a3⟩ := (overlaps_iff _ _).1 ho
    have hn' : n ∈ namesF (p.filter fun c => decide (c.name = n)) ∨ n ∈ namesF (q.filter fun c => decide (c.name = n)) := hn.imp (fun h => by
        obtain ⟨c, hc, e⟩ := (names_mem _ _).1 h
        exact (names_mem _ _).2 ⟨c, List.mem_filter.2 ⟨hc, decide_eq_true e⟩, e⟩) (fun h => by
        obtain ⟨c, hc, e⟩ := (names_mem _ _).1 h
        exact (names_mem _ _).2 ⟨c, List.mem_filter.2 ⟨hc, decide_eq_true e⟩, e⟩)
    obtain ⟨v, c1, c2⟩ := a3 n hn'
    rw [ha hp] at c1
    rw [ha hq] at c2
    have := (empty_iff (apart_good p q n)).1 he v
    rw [has_and, c1, c2] at this; cases this

end Go.Proofs.Ytkefppdacigbmaa
