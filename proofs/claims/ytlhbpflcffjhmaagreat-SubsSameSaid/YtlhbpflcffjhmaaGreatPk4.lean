/- Covering and overlapping, plainly: normal forms, fewer constraints, both together; what no event matches. No program is in sight.
Spans that rise: how many there can be. No program is in sight.
The rule for a region that draws its order, over any way in which memory may turn (K1's rule, turned).
Cuts: less, end, eight, number, first.
Cuts: number, first.
The rule for a region that draws its order, over any way in which memory may turn, with what its stores leave (K3's rule, turned).
The cuts around a value. -/
import Derived.LoopN
import Derived.Laws.BitsAllLaws
import Derived.ShutString
import Derived.Test.YtlhbpflcffjhmaaGreatPk3
import Derived.Test.YtlhbpflcffjhmaaGreatPk1
import Derived.Test.YtlhbpflcffjhmaaGreatPk2
namespace Go.Proofs.YtlhbpflcffjhmaaGreat

theorem prefix_ge : ∀ (p s : List UInt8), p.isPrefixOf s = true → 0 ≤ Lib.compareBytes s p
  | [], s, _ => by cases s <;> simp [Lib.compareBytes]
  | a :: p, [], h => by simp at h
  | a :: p, b :: s, h => by
    simp only [List.isPrefixOf, Bool.and_eq_true, beq_iff_eq] at h
    obtain ⟨rfl, h⟩ := h
    have := prefix_ge p s h
    simp only [Lib.compareBytes]
    rw [if_neg (UInt8.lt_irrefl a), if_neg (UInt8.lt_irrefl a)]; exact this

theorem has_fold (l : List V) (r : Rg) (v : V) : (l.foldl (fun r x => r.minus (oneV x)) r).has v = (r.has v && l.all fun x => !(oneV x).has v) := by
  induction l generalizing r with
  | nil => simp
  | cons x l ih => rw [List.foldl_cons, ih, has_minus, List.all_cons, Bool.and_assoc]
theorem has_in {c : C} (hm : mayC c = true) (h9 : c.op = 9) (v : V) : (ofR c).has v = c.set.any fun x => (oneV x).has v := by
  unfold ofR
  rw [hm, if_neg (by decide), if_neg (by omega), if_pos h9, has_minus, has_fold, all_has, Bool.true_and, Bool.true_and]
  induction c.set with
  | nil => rfl
  | cons x l ih => rw [List.all_cons, List.any_cons, Bool.not_and, Bool.not_not, ih]
theorem has_norm {c : C} (hm : mayC c = true) (v : V) : (ofR (normC c)).has v = (ofR c).has v := by
  by_cases h9 : c.op = 9
  · rw [has_in hm h9, has_in (norm_may hm) h9]
    have hi := set_inj hm
    rw [Bool.eq_iff_iff, List.any_eq_true, List.any_eq_true]
    constructor
    · rintro ⟨x, hx, e⟩; exact ⟨x, (sortU_mem _ hi x).1 hx, e⟩
    · rintro ⟨x, hx, e⟩; exact ⟨x, (sortU_mem _ hi x).2 hx, e⟩
  · have e1 : mayC (normC c) = true := norm_may hm
    have hl : ofL (normC c) = ofL c := rfl
    unfold ofR
    rw [hm, e1]
    show (if _ then _ else if c.op = 1 then _ else if c.op = 9 then _ else setR c.v.k (ofL (normC c))).has v = _
    rw [hl, if_neg h9, if_neg (show ¬ (!true) = true by decide), if_neg (show ¬ (!true) = true by decide), if_neg h9]
theorem norm_names {p : List C} (n : List UInt8) : n ∈ namesF (normP p) ↔ n ∈ namesF p := by
  rw [names_mem, names_mem]
  constructor
  · rintro ⟨c, hc, e⟩
    obtain ⟨d, hd, rfl⟩ := (normP_mem p c).1 hc
    exact ⟨d, hd, e⟩
  · rintro ⟨d, hd, e⟩
    exact ⟨normC d, (normP_mem p _).2 ⟨d, hd, rfl⟩, e⟩
theorem may_all {p : List C} (h : mayP p = true) : ∀ c ∈ p, mayC c = true := by
  unfold mayP at h
  simp only [Bool.and_eq_true] at h
  exact List.all_eq_true.1 h.2
theorem may_len {p : List C} (h : mayP p = true) : p.length ≤ 6 := by
  unfold mayP at h
  simp only [Bool.and_eq_true, decide_eq_true_eq] at h
  exact h.1
theorem may_mk {p : List C} (h1 : p.length ≤ 6) (h2 : ∀ c ∈ p, mayC c = true) : mayP p = true := by
  unfold mayP
  simp only [Bool.and_eq_true, decide_eq_true_eq]
  exact ⟨h1, List.all_eq_true.2 h2⟩
theorem norm_asked {p : List C} (h : mayP p = true) (n : List UInt8) (v : V) : (askedF (normP p) n).has v = (askedF p n).has v := by
  rw [asked_has (normP_may h), asked_has h, Bool.eq_iff_iff, List.all_eq_true, List.all_eq_true]
  constructor
  · intro a c hc
    have := a (normC c) ((normP_mem p _).2 ⟨c, hc, rfl⟩)
    rw [has_norm (may_all h c hc)] at this
    exact this
  · intro a z hz
    obtain ⟨c, hc, rfl⟩ := (normP_mem p z).1 hz
    rw [has_norm (may_all h c hc)]
    exact a c hc
theorem covers_norm {p : List C} (h : mayP p = true) : coversF (normP p) p = true ∧ coversF p (normP p) = true :=
  ⟨(covers_iff _ _).2 ⟨normP_may h, h, .inr fun n hn => ⟨(norm_names n).1 hn, fun v hv => by rw [norm_asked h]; exact hv⟩⟩,
   (covers_iff _ _).2 ⟨h, normP_may h, .inr fun n hn => ⟨(norm_names n).2 hn, fun v hv => by rw [norm_asked h] at hv; exact hv⟩⟩⟩
theorem may_nil : mayP [] = true := rfl
theorem covers_nil {p : List C} (h : mayP p = true) : coversF [] p = true := covers_sub may_nil h fun _ hc => by cases hc
theorem covers_less {p : List C} (h : mayP p = true) (k : Nat) : coversF (p.take k ++ p.drop (k + 1)) p = true := by
  have hsub : ∀ c ∈ p.take k ++ p.drop (k + 1), c ∈ p := fun c hc => by
    rcases List.mem_append.1 hc with hc | hc
    · exact List.mem_of_mem_take hc
    · exact List.mem_of_mem_drop hc
  refine covers_sub (may_mk ?_ fun c hc => may_all h c (hsub c hc)) h hsub
  have := may_len h
  rw [List.length_append, List.length_take, List.length_drop]; omega
theorem may_app {p q : List C} (hp : mayP p = true) (hq : mayP q = true) (hl : p.length + q.length ≤ 6) : mayP (p ++ q) = true :=
  may_mk (by rw [List.length_append]; exact hl) fun c hc => by
    rcases List.mem_append.1 hc with hc | hc
    · exact may_all hp c hc
    · exact may_all hq c hc
theorem covers_both {p q r : List C} (hp : mayP p = true) (hq : mayP q = true) (hl : p.length + q.length ≤ 6) : coversF (p ++ q) r = (coversF p r && coversF q r) := by
  have hb := may_app hp hq hl
  rw [Bool.eq_iff_iff, Bool.and_eq_true]
  constructor
  · intro h
    exact ⟨covers_trans (covers_sub hp hb fun c hc => List.mem_append_left _ hc) h, covers_trans (covers_sub hq hb fun c hc => List.mem_append_right _ hc) h⟩
  · rintro ⟨h1, h2⟩
    obtain ⟨_, a2, a3⟩ := (covers_iff _ _).1 h1
    obtain ⟨_, _, b3⟩ := (covers_iff _ _).1 h2
    refine (covers_iff _ _).2 ⟨hb, a2, ?_⟩
    rcases a3 with a3 | a3
    · exact .inl a3
    · rcases b3 with b3 | b3
      · exact .inl b3
      · right
        intro n hn
        have key : ∀ {x : List C}, mayP x = true → (∀ n ∈ namesF x, n ∈ namesF r ∧ ∀ v, (askedF r n).has v = true → (askedF x n).has v = true) → ∀ v, (askedF r n).has v = true → (askedF x n).has v = true := fun {x} hx h v hv => by
          by_cases hnx : n ∈ namesF x
          · exact (h n hnx).2 v hv
          · exact asked_free hx hnx v
        refine ⟨?_, fun v hv => ?_⟩
        · obtain ⟨c, hc, e⟩ := (names_mem _ _).1 hn
          rcases List.mem_append.1 hc with hc | hc
          · exact (a3 n ((names_mem _ _).2 ⟨c, hc, e⟩)).1
          · exact (b3 n ((names_mem _ _).2 ⟨c, hc, e⟩)).1
        · have k1 := key hp a3 v hv
          have k2 := key hq b3 v hv
          rw [asked_has hp] at k1
          rw [asked_has hq] at k2
          rw [asked_has hb, List.all_append, k1, k2]; rfl

/-! Overlapping -/
def bothF (p q : List C) : List (List UInt8) := sortU Lib.compareBytes (namesF p ++ namesF q)
def apartF (p q : List C) : Option (List UInt8) := if mayP p && mayP q then (bothF p q).find? fun n => ((askedF p n).and (askedF q n)).empty else none
def overlapsF (p q : List C) : Bool := mayP p && mayP q && (apartF p q).isNone
theorem both_mem (p q : List C) (n : List UInt8) : n ∈ bothF p q ↔ n ∈ namesF p ∨ n ∈ namesF q := by
  unfold bothF
  rw [sortU_mem _ (fun _ _ _ _ => bytes_zero), List.mem_append]
theorem apart_good (p q : List C) (n : List UInt8) : Good4 ((askedF p n).and (askedF q n)) := (good_asked p n).and (good_asked q n)
theorem overlaps_iff (p q : List C) : overlapsF p q = true ↔ mayP p = true ∧ mayP q = true ∧ ∀ n, n ∈ namesF p ∨ n ∈ namesF q → ∃ v, (askedF p n).has v = true ∧ (askedF q n).has v = true := by
  unfold overlapsF apartF
  simp only [Bool.and_eq_true, and_assoc]
  refine and_congr_right fun h1 => and_congr_right fun h2 => ?_
  rw [if_pos ⟨h1, h2⟩, Option.isNone_iff_eq_none, List.find?_eq_none]
  constructor
  · intro h n hn
    have hne : ¬ ((askedF p n).and (askedF q n)).empty = true := h n ((both_mem p q n).2 hn)
    rw [empty_iff (apart_good p q n)] at hne
    obtain ⟨v, hv⟩ := Classical.not_forall.1 hne
    refine ⟨v, ?_⟩
    rw [has_and] at hv
    simpa using hv
  · intro h n hn
    obtain ⟨v, h3, h4⟩ := h n ((both_mem p q n).1 hn)
    intro he
    have := (empty_iff (apart_good p q n)).1 he v
    rw [has_and, h3, h4] at this; cases this
theorem overlaps_symm (p q : List C) : overlapsF p q = overlapsF q p := by
  rw [Bool.eq_iff_iff, overlaps_iff, overlaps_iff]
  constructor
  · rintro ⟨h1, h2, h3⟩
    exact ⟨h2, h1, fun n hn => let ⟨v, a, b⟩ := h3 n hn.symm; ⟨v, b, a⟩⟩
  · rintro ⟨h1, h2, h3⟩
    exact ⟨h2, h1, fun n hn => let ⟨v, a, b⟩ := h3 n hn.symm; ⟨v, b, a⟩⟩
theorem names_nil : namesF [] = [] := rfl
theorem any_iff (p : List C) : overlapsF p [] = true ↔ mayP p = true ∧ noneF p = false := by
  rw [overlaps_iff]
  constructor
  · rintro ⟨h1, _, h3⟩
    refine ⟨h1, ?_⟩
    cases hn : noneF p with
    | false => rfl
    | true =>
      obtain ⟨n, hm, hv⟩ := none_iff.1 hn
      obtain ⟨v, a, _⟩ := h3 n (.inl hm)
      rw [hv] at a; cases a
  · rintro ⟨h1, h2⟩
    refine ⟨h1, may_nil, fun n hn => ?_⟩
    have hm : n ∈ namesF p := hn.elim id fun h => by rw [names_nil] at h; cases h
    have hne : ¬ ∀ v, (askedF p n).has v = false := fun h => by
      have := none_iff.2 ⟨n, hm, h⟩
      rw [h2] at this; cases this
    obtain ⟨v, hv⟩ := Classical.not_forall.1 hne
    exact ⟨v, by simpa using hv, asked_free may_nil (by rw [names_nil]; intro h; cases h) v⟩
/-- Who overlaps one that a third one covers overlaps that third one. -/
theorem overlap_law1 {p q r : List C} (h1 : overlapsF p q = true) (h2 : coversF r q = true) : overlapsF p r = true := by
  obtain ⟨a1, a2, a3⟩ := (overlaps_iff p q).1 h1
  obtain ⟨b1, _, b3⟩ := (covers_iff r q).1 h2
  refine (overlaps_iff p r).2 ⟨a1, b1, fun n hn => ?_⟩
  rcases b3 with b3 | b3
  · exfalso
    obtain ⟨m, hm, hv⟩ := none_iff.1 b3
    obtain ⟨v, _, h⟩ := a3 m (.inr hm)
    rw [hv] at h; cases h
  · have hnq : n ∈ namesF p ∨ n ∈ namesF q := hn.imp id fun h => (b3 n h).1
    obtain ⟨v, c1, c2⟩ := a3 n hnq
    refine ⟨v, c1, ?_⟩
    by_cases hr : n ∈ namesF r
    · exact (b3 n hr).2 v c2
    · exact asked_free b1 hr v
/-- One that covers another one, which matches anything, overlaps it. -/
theorem overlap_law2 {p q : List C} (h1 : coversF p q = true) (h2 : overlapsF q [] = true) : overlapsF p q = true := by
  obtain ⟨a1, a2, a3⟩ := (covers_iff p q).1 h1
  obtain ⟨_, hn⟩ := (any_iff q).1 h2
  obtain ⟨_, _, b3⟩ := (overlaps_iff q []).1 h2
  refine (overlaps_iff p q).2 ⟨a1, a2, fun n hm => ?_⟩
  rcases a3 with a3 | a3
  · rw [hn] at a3; cases a3
  · have hq : n ∈ namesF q := hm.elim (fun h => (a3 n h).1) id
    obtain ⟨v, c1, _⟩ := b3 n (.inl hq)
    refine ⟨v, ?_, c1⟩
    by_cases hp : n ∈ namesF p
    · exact (a3 n hp).2 v c1
    · exact asked_free a1 hp v
/-- What matches nothing is covered by all, and overlaps nobody. -/
theorem overlap_law3 {p q : List C} (hp : mayP p = true) (h : overlapsF p [] = false) : overlapsF p q = false ∧ (mayP q = true → coversF q p = true) := by
  have hn : noneF p = true := by
    cases hn : noneF p with
    | true => rfl
    | false => have := (any_iff p).2 ⟨hp, hn⟩; rw [h] at this; cases this
  refine ⟨?_, fun hq => (covers_iff q p).2 ⟨hq, hp, .inl hn⟩⟩
  cases ho : overlapsF p q with
  | false => rfl
  | true =>
    obtain ⟨_, _, a3⟩ := (overlaps_iff p q).1 ho
    obtain ⟨n, hm, hv⟩ := none_iff.1 hn
    obtain ⟨v, c1, _⟩ := a3 n (.inl hm)
    rw [hv] at c1; cases c1
theorem apart_some {p q : List C} {n : List UInt8} (h : apartF p q = some n) : mayP p = true ∧ mayP q = true ∧ ((askedF p n).and (askedF q n)).empty = true ∧ (n ∈ namesF p ∨ n ∈ namesF q) := by
  unfold apartF at h
  split at h
  · rename_i hm
    simp only [Bool.and_eq_true] at hm
    exact ⟨hm.1, hm.2, List.find?_some (p := fun n => ((askedF p n).and (askedF q n)).empty) h, (both_mem p q n).1 (List.mem_of_find?_eq_some h)⟩
  · cases h
/-- Without their constraints of all other names they do not overlap either. -/
theorem apart_only {p q : List C} {n : List UInt8} (h : apartF p q = some n) : overlapsF (p.filter fun c => decide (c.name = n)) (q.filter fun c => decide (c.name = n)) = false := by
  obtain ⟨hp, hq, he, hn⟩ := apart_some h
  have hm : ∀ {x : List C}, mayP x = true → mayP (x.filter fun c => decide (c.name = n)) = true := fun {x} hx =>
    may_mk (Nat.le_trans (List.length_filter_le _ _) (may_len hx)) fun c hc => may_all hx c (List.mem_filter.1 hc).1
  have ha : ∀ {x : List C}, mayP x = true → ∀ v, (askedF (x.filter fun c => decide (c.name = n)) n).has v = (askedF x n).has v := fun {x} hx v => by
    rw [asked_has (hm hx), asked_has hx, List.all_filter]
    congr 1
    funext c
    by_cases hc : c.name = n
    · simp [hc]
    · simp [hc]
  cases ho : overlapsF (p.filter fun c => decide (c.name = n)) (q.filter fun c => decide (c.name = n)) with
  | false => rfl
  | true =>
    exfalso
    obtain ⟨_, _, a3⟩ := (overlaps_iff _ _).1 ho
    have hn' : n ∈ namesF (p.filter fun c => decide (c.name = n)) ∨ n ∈ namesF (q.filter fun c => decide (c.name = n)) := hn.imp (fun h => by
        obtain ⟨c, hc, e⟩ := (names_mem _ _).1 h
        exact (names_mem _ _).2 ⟨c, List.mem_filter.2 ⟨hc, decide_eq_true e⟩, e⟩) (fun h => by
        obtain ⟨c, hc, e⟩ := (names_mem _ _).1 h
        exact (names_mem _ _).2 ⟨c, List.mem_filter.2 ⟨hc, decide_eq_true e⟩, e⟩)
    obtain ⟨v, c1, c2⟩ := a3 n hn'
    rw [ha hp] at c1
    rw [ha hq] at c2
    have := (empty_iff (apart_good p q n)).1 he v
    rw [has_and, c1, c2] at this; cases this

end Go.Proofs.YtlhbpflcffjhmaaGreat

namespace Go.Proofs.YtlhbpflcffjhmaaGreat

def Full (l : List Sp) : Prop := ∀ x ∈ l, Cut.lt x.lo x.hi = true
def Rise (l : List Sp) : Prop := Full l ∧ l.Pairwise fun x y => Cut.lt y.lo x.hi = false
theorem cut_asym {x y : Cut} (h : Cut.lt x y = true) : Cut.lt y x = false := by
  cases k : Cut.lt y x with
  | false => rfl
  | true => have := cut_trans h k; rw [cut_irr] at this; cases this
theorem minus1_split {s out : Sp} : minus1 s out = [s] ∨ (Cut.lt out.lo s.hi = true ∧ Cut.lt s.lo out.hi = true ∧ minus1 s out = fullS [⟨s.lo, out.lo⟩, ⟨out.hi, s.hi⟩]) := by
  unfold minus1
  by_cases hd : (!Cut.lt out.lo s.hi || !Cut.lt s.lo out.hi) = true
  · rw [if_pos hd]; exact .inl rfl
  · rw [if_neg hd]
    simp only [Bool.not_eq_true, Bool.or_eq_false_iff, Bool.not_eq_false'] at hd
    rw [if_pos hd.1, if_pos hd.2]
    exact .inr ⟨hd.1, hd.2, rfl⟩
theorem minus1_sub {s out x : Sp} (hs : Cut.lt s.lo s.hi = true) (h : x ∈ minus1 s out) : Cut.lt x.lo s.lo = false ∧ Cut.lt s.hi x.hi = false ∧ Cut.lt x.lo x.hi = true := by
  rcases minus1_split (s := s) (out := out) with e | ⟨h1, h2, e⟩
  · rw [e] at h
    rw [List.mem_singleton.1 h]
    exact ⟨cut_irr _, cut_irr _, hs⟩
  · rw [e] at h
    have h' := List.mem_filter.1 h
    rcases List.mem_cons.1 h'.1 with e | h3
    · subst e; exact ⟨cut_irr _, cut_asym h1, h'.2⟩
    · have e := List.mem_singleton.1 h3
      subst e; exact ⟨cut_asym h2, cut_irr _, h'.2⟩
theorem minus1_rise {s out : Sp} (ho : Cut.lt out.lo out.hi = true) : (minus1 s out).Pairwise fun x y => Cut.lt y.lo x.hi = false := by
  rcases minus1_split (s := s) (out := out) with e | ⟨_, _, e⟩
  · rw [e]; exact List.pairwise_singleton _ _
  · rw [e]
    refine List.Pairwise.filter _ (List.pairwise_cons.2 ⟨fun y hy => ?_, List.pairwise_singleton _ _⟩)
    rw [List.mem_singleton.1 hy]
    exact cut_asym ho
theorem minus1_two {s out : Sp} : (minus1 s out).length ≤ 1 ∨ ((minus1 s out).length = 2 ∧ Cut.lt s.lo out.lo = true ∧ Cut.lt out.hi s.hi = true) := by
  rcases minus1_split (s := s) (out := out) with e | ⟨_, _, e⟩
  · rw [e]; exact .inl (Nat.le_refl _)
  · rw [e]
    unfold fullS
    cases h1 : Cut.lt s.lo out.lo <;> cases h2 : Cut.lt out.hi s.hi <;> simp [h1, h2]
theorem flat_rise {out : Sp} (ho : Cut.lt out.lo out.hi = true) : ∀ {l : List Sp}, Rise l → Rise (l.flatMap fun s => minus1 s out) ∧ (l.flatMap fun s => minus1 s out).length ≤ l.length + 1
  | [], _ => ⟨⟨fun _ h => (by cases h), List.Pairwise.nil⟩, by simp⟩
  | s :: l, h => by
    have hp := List.pairwise_cons.1 h.2
    have hf : Full l := fun x hx => h.1 x (List.mem_cons_of_mem _ hx)
    have hs := h.1 s List.mem_cons_self
    obtain ⟨ih1, ih2⟩ := flat_rise ho ⟨hf, hp.2⟩
    rw [List.flatMap_cons]
    refine ⟨⟨fun x hx => ?_, List.pairwise_append.2 ⟨minus1_rise ho, ih1.2, fun x hx y hy => ?_⟩⟩, ?_⟩
    · rcases List.mem_append.1 hx with hx | hx
      · exact (minus1_sub hs hx).2.2
      · exact ih1.1 x hx
    · obtain ⟨t, ht, hy⟩ := List.mem_flatMap.1 hy
      have a := (minus1_sub (hf t ht) hy).1
      have b := hp.1 t ht
      have c := (minus1_sub hs hx).2.1
      exact cut_ntrans (cut_ntrans a b) c
    · rw [List.length_append, List.length_cons]
      rcases minus1_two (s := s) (out := out) with h1 | ⟨h1, h2, h3⟩
      · omega
      · have hl : ∀ m : List Sp, (∀ t ∈ m, (minus1 t out).length ≤ 1) → (m.flatMap fun s => minus1 s out).length ≤ m.length := fun m => by
          induction m with
          | nil => intro _; simp
          | cons t m ih =>
            intro hm
            have a := hm t List.mem_cons_self
            have b := ih fun u hu => hm u (List.mem_cons_of_mem _ hu)
            rw [List.flatMap_cons, List.length_append, List.length_cons]; omega
        have := hl l fun t ht => by
          rcases minus1_two (s := t) (out := out) with k | ⟨_, k2, k3⟩
          · exact k
          · exfalso
            have b := hp.1 t ht
            have e1 := cut_trans (cut_trans k2 ho) h3
            rw [b] at e1; cases e1
        omega
theorem minusL_rise : ∀ {m l : List Sp}, Full m → Rise l → Rise (minusL l m) ∧ (minusL l m).length ≤ l.length + m.length
  | [], l, _, h => ⟨h, Nat.le_refl _⟩
  | o :: m, l, hm, h => by
    obtain ⟨a, b⟩ := flat_rise (hm o List.mem_cons_self) h
    obtain ⟨c, d⟩ := minusL_rise (m := m) (fun x hx => hm x (List.mem_cons_of_mem _ hx)) a
    refine ⟨c, ?_⟩
    have : (minusL l (o :: m)).length ≤ (l.flatMap fun s => minus1 s o).length + m.length := d
    rw [List.length_cons]; omega

/-- Of no Kind more than n spans. -/
structure Few (n : Nat) (r : Rg) : Prop where
  i : r.i.length ≤ n
  s : r.s.length ≤ n
  b : r.b.length ≤ n
structure Rises (r : Rg) : Prop where
  i : Rise r.i
  s : Rise r.s
  b : Rise r.b
structure Fulls (r : Rg) : Prop where
  i : Full r.i
  s : Full r.s
  b : Full r.b
theorem Rises.full {r : Rg} (h : Rises r) : Fulls r := ⟨h.i.1, h.s.1, h.b.1⟩
theorem Good4.full {r : Rg} (h : Good4 r) : Fulls r := ⟨fun x hx => (h.i x hx).2.2, fun x hx => (h.s x hx).2.2, fun x hx => (h.b x hx).2.2⟩
theorem Few.mono {m n : Nat} {r : Rg} (h : Few m r) (k : m ≤ n) : Few n r := ⟨Nat.le_trans h.i k, Nat.le_trans h.s k, Nat.le_trans h.b k⟩
theorem Rises.minus {r q : Rg} (h : Rises r) (k : Fulls q) : Rises (r.minus q) := ⟨(minusL_rise k.i h.i).1, (minusL_rise k.s h.s).1, (minusL_rise k.b h.b).1⟩
theorem Few.minus {m n : Nat} {r q : Rg} (hr : Rises r) (hq : Fulls q) (h : Few m r) (k : Few n q) : Few (m + n) (r.minus q) := by
  have a := (minusL_rise hq.i hr.i).2
  have b := (minusL_rise hq.s hr.s).2
  have c := (minusL_rise hq.b hr.b).2
  have := h.i; have := h.s; have := h.b; have := k.i; have := k.s; have := k.b
  exact ⟨by show (minusL r.i q.i).length ≤ _; omega, by show (minusL r.s q.s).length ≤ _; omega, by show (minusL r.b q.b).length ≤ _; omega⟩
theorem Rises.and {r q : Rg} (h : Rises r) (k : Fulls q) : Rises (r.and q) := h.minus (h.minus k).full
theorem Few.and {m n : Nat} {r q : Rg} (hr : Rises r) (hq : Fulls q) (h : Few m r) (k : Few n q) : Few (m + (m + n)) (r.and q) := Few.minus hr (hr.minus hq).full h (Few.minus hr hq h k)
theorem rises_all : Rises allR := by
  have hg := good_all.full
  exact ⟨⟨hg.i, List.pairwise_singleton _ _⟩, ⟨hg.s, List.pairwise_singleton _ _⟩, ⟨hg.b, List.pairwise_singleton _ _⟩⟩
theorem few_all : Few 1 allR := ⟨Nat.le_refl _, Nat.le_refl _, Nat.le_refl _⟩
theorem rises_none : Rises noneR := ⟨⟨fun _ h => (by cases h), List.Pairwise.nil⟩, ⟨fun _ h => (by cases h), List.Pairwise.nil⟩, ⟨fun _ h => (by cases h), List.Pairwise.nil⟩⟩
theorem few_none : Few 0 noneR := ⟨Nat.le_refl _, Nat.le_refl _, Nat.le_refl _⟩
theorem few_set {n : Nat} (k : Int) {l : List Sp} (h : l.length ≤ n) : Few n (setR k l) := by
  unfold setR
  (repeat' split) <;> exact ⟨by simp <;> exact h, by simp <;> exact h, by simp <;> exact h⟩
theorem ofL_len (c : C) : (ofL c).length ≤ 2 := by
  unfold ofL fullS
  refine Nat.le_trans (List.length_filter_le _ _) ?_
  (repeat' split) <;> simp
theorem one_len (v : V) : (ofL ⟨[], 2, v, []⟩).length ≤ 1 := by
  unfold ofL fullS
  refine Nat.le_trans (List.length_filter_le _ _) ?_
  rw [if_pos rfl]; simp
theorem fold_few (l : List V) : ∀ (m : Nat) (r : Rg), Rises r → Few m r → Rises (l.foldl (fun r v => r.minus (oneV v)) r) ∧ Few (m + l.length) (l.foldl (fun r v => r.minus (oneV v)) r) := by
  induction l with
  | nil => intro m r h k; exact ⟨h, k⟩
  | cons v l ih =>
    intro m r h k
    have := ih (m + 1) (r.minus (oneV v)) (h.minus (good_one v).full) (Few.minus h (good_one v).full k (few_set _ (one_len v)))
    refine ⟨this.1, this.2.mono ?_⟩
    simp; omega
theorem may_set {c : C} (h : mayC c = true) : c.set.length ≤ 6 := by
  unfold mayC at h
  split at h
  · cases h
  · split at h
    · simp at h; rw [h.2]; simp
    · split at h
      · simp at h; rw [h.2]; simp
      · split at h
        · simp at h; rw [h.2]; simp
        · split at h
          · simp at h; omega
          · cases h
theorem few_of (c : C) : Few 8 (ofR c) := by
  unfold ofR
  by_cases hm : mayC c = true
  · rw [if_neg (by simp [hm])]
    have hs := may_set hm
    split
    · exact few_all.mono (by decide)
    · split
      · have := fold_few c.set 1 allR rises_all few_all
        exact (Few.minus rises_all this.1.full few_all this.2).mono (by omega)
      · exact (few_set _ (ofL_len c)).mono (by decide)
  · rw [if_pos (by simpa using hm)]
    exact few_none.mono (by decide)
theorem few_fold (name : List UInt8) (p : List C) : ∀ (m : Nat) (r : Rg), Rises r → Few m r → Rises (p.foldl (fun r c => if c.name = name then r.and (ofR c) else r) r) ∧ Few ((m + 8) * 2 ^ p.length) (p.foldl (fun r c => if c.name = name then r.and (ofR c) else r) r) := by
  induction p with
  | nil => intro m r h k; exact ⟨h, k.mono (by simp)⟩
  | cons c p ih =>
    intro m r h k
    have hp : (m + m + 8 + 8) * 2 ^ p.length ≤ (m + 8) * 2 ^ (c :: p).length := by
      rw [List.length_cons, Nat.pow_succ, Nat.mul_comm (2 ^ p.length) 2, ← Nat.mul_assoc]
      exact Nat.mul_le_mul_right _ (by omega)
    rw [List.foldl_cons]
    split
    · have := ih (m + m + 8) (r.and (ofR c)) (h.and (good_of c).full) ((Few.and h (good_of c).full k (few_of c)).mono (by omega))
      exact ⟨this.1, this.2.mono hp⟩
    · have := ih (m + m + 8) r h (k.mono (by omega))
      exact ⟨this.1, this.2.mono hp⟩
theorem few_asked (p : List C) (name : List UInt8) : Rises (askedF p name) ∧ Few 576 (askedF p name) := by
  unfold askedF
  by_cases hm : mayP p = true
  · rw [if_neg (by simp [hm])]
    have hl := may_len hm
    have := few_fold name p 1 allR rises_all few_all
    refine ⟨this.1, this.2.mono ?_⟩
    have : 2 ^ p.length ≤ 2 ^ 6 := Nat.pow_le_pow_right (by decide) hl
    omega
  · rw [if_pos (by simpa using hm)]
    exact ⟨rises_none, few_none.mono (by decide)⟩
end Go.Proofs.YtlhbpflcffjhmaaGreat

namespace Go.Proofs.YtlhbpflcffjhmaaGreat.Rg
open Go.RowKit

/-- A way in which memory may turn. -/
structure Step where
  rel : World → World → Prop
  refl : ∀ w : World, rel w w
  trans : ∀ {a b c : World}, rel a b → rel b c → rel a c
  drew : ∀ w : World, rel w w.drew

section
variable {P : Program} (S : Step)

/-- What an operation must come to: no panic, memory only grows, its value has its fact. -/
def endQ (F : Value → World → Prop) (o : Oper) (a : Act) (w : World) : Exit → Act → World → Prop :=
  fun e a' w' => e = .normal ∧ S.rel w w' ∧ a'.defers = a.defers ∧ F (match o.dst with | some d => a'.tmps.getD d undef | none => undef) w'

def Ob (P : Program) (ops : Array Oper) (F : Nat → Value → World → Prop) (a0 : Act) (w0 : World) (i : Nat) (o : Oper) (D : List (Nat × Tmp)) : Prop :=
  ∀ w, S.rel w0 w → depsThen F w D a0 (fun a => wpList P ops (endQ S (F i) o a w) [o] a w)

def Obs (P : Program) (ops : Array Oper) (F : Nat → Value → World → Prop) (a0 : Act) (w0 : World) : Nat → List Oper → List (List (Nat × Tmp)) → Prop
  | _, [], _ => True
  | i, o :: os, D => Ob S P ops F a0 w0 i o (D.headD []) ∧ Obs P ops F a0 w0 (i + 1) os D.tail


theorem Obs_get {ops : Array Oper} {F : Nat → Value → World → Prop} {a0 : Act} {w0 : World} : ∀ {l : List Oper} {k : Nat} {D : List (List (Nat × Tmp))}, Obs S P ops F a0 w0 k l D →
    ∀ i o, l[i]? = some o → Ob S P ops F a0 w0 (k + i) o (D.getD i [])
  | [], _, _, _, _, _, h => by simp at h
  | o :: os, k, D, hb, i, o', h => by
    simp only [Obs] at hb
    cases i with
    | zero => simp at h; subst h; cases D <;> simpa using hb.1
    | succ i =>
      have := Obs_get hb.2 i o' (by simpa using h)
      cases D <;> simpa [Nat.add_assoc, Nat.add_comm 1 i] using this

structure Inv (ops : Array Oper) (F : Nat → Value → World → Prop) (a0 : Act) (w0 : World) (listed : Array Bool) (a : Act) (w : World) : Prop where
  size : listed.size = ops.size
  ts : a.tmps.size = a0.tmps.size
  df : a.defers = a0.defers
  old : ∀ s, (∀ j, dstOf ops j = some s → listed.getD j false = false) → a.tmps.getD s undef = a0.tmps.getD s undef
  fact : ∀ j, j < ops.size → listed.getD j false = true → F j (match dstOf ops j with | some d => a.tmps.getD d undef | none => undef) w
  down : ∀ j, listed.getD j false = true → ∀ i, waits ops j i = true → listed.getD i false = true
  ext : S.rel w0 w

theorem region_any {ops : Array Oper} {F : Nat → Value → World → Prop} {a0 : Act} {w0 : World} {D : List (List (Nat × Tmp))} {E : List (Nat × Tmp)} {Q : Exit → Act → World → Prop}
    (hok : opsOk ops a0.tmps.size 0 ops.toList D = true) (hE : endOk ops E = true)
    (hst : ∀ i v w w', S.rel w w' → F i v w → F i v w')
    (hob : Obs S P ops F a0 w0 0 ops.toList D)
    (hend : ∀ w, S.rel w0 w → depsThen F w E a0 (fun a => Q .normal a w)) :
    ∀ (fuel : Nat) (listed : Array Bool) (a : Act) (w : World), listed.count false = fuel → Inv S ops F a0 w0 listed a w → wpAny P .any ops Q fuel listed a w := by
  have hall : ∀ {i o}, ops[i]? = some o → opOk ops a0.tmps.size i o (D.getD i []) = true := fun {i o} h => by
    have := opsOk_get hok i o (by simpa using h); simpa using this
  have hobs : ∀ {i o}, ops[i]? = some o → Ob S P ops F a0 w0 i o (D.getD i []) := fun {i o} h => by
    have := Obs_get S hob i o (by simpa using h); simpa using this
  -- all that are listed: the end
  have fin : ∀ (listed : Array Bool) (a : Act) (w : World), (∀ j, j < ops.size → listed.getD j false = true) → Inv S ops F a0 w0 listed a w → Q .normal a w := by
    intro listed a w hl hI
    simp only [endOk, Bool.and_eq_true] at hE
    have hdl : ∀ {j d}, dstOf ops j = some d → j < ops.size := fun {j d} hj => by
      unfold dstOf at hj
      rcases Nat.lt_or_ge j ops.size with h' | h'
      · exact h'
      · rw [Array.getElem?_eq_none h'] at hj; cases hj
    obtain ⟨c, hk, hc1, hc2, hc3⟩ := depsThen_at a _ E a0 hI.ts.symm (fun p hp => by
      have hd : dstOf ops p.1 = some p.2 := by simpa using List.all_eq_true.1 hE.1 p hp
      have := hI.fact p.1 (hdl hd) (hl p.1 (hdl hd))
      simp only [hd] at this
      exact this) (hend w hI.ext)
    have : c = a := by
      obtain ⟨ct, cd⟩ := c
      obtain ⟨at', ad⟩ := a
      have e2 : cd = ad := hc2.trans hI.df.symm
      have e1 : ct = at' := by
        apply Array.ext_getElem?
        intro s
        refine tmps_ext (a := ⟨ct, cd⟩) (b := ⟨at', ad⟩) hc1 ?_
        rw [hc3]
        split
        · rfl
        · rename_i hn
          refine (hI.old s fun j hj => ?_).symm
          exfalso
          have h2 := List.all_eq_true.1 hE.2 j (List.mem_range.2 (hdl hj))
          simp only [hj, List.any_eq_true, beq_iff_eq] at h2
          obtain ⟨p, hp, hpj⟩ := h2
          have hd : dstOf ops p.1 = some p.2 := by simpa using List.all_eq_true.1 hE.1 p hp
          rw [hpj, hj] at hd
          exact hn ⟨p, hp, (Option.some.inj hd).symm⟩
      rw [e1, e2]
    rw [← this]; exact hk
  -- nothing ready: all are listed
  have noReady : ∀ (listed : Array Bool), listed.size = ops.size → Region.ready .any ops listed = [] → ∀ j, j < ops.size → listed.getD j false = true := by
    intro listed hs hr j
    induction j using Nat.strongRecOn with
    | _ j ih =>
      intro hj
      cases hlj : listed.getD j false with
      | true => rfl
      | false =>
        exfalso
        have ho : ops[j]? = some ops[j] := by simp [hj]
        have hmem : j ∈ Region.ready .any ops listed := by
          refine mem_ready.2 ⟨?_, ops[j], ho, fun e he hb => ?_⟩
          · have : j < listed.size := hs ▸ hj
            simp [this] at hlj ⊢; exact hlj
          · have h1 := hall ho
            simp only [opOk, Bool.and_eq_true] at h1
            have h2 := (Array.all_eq_true_iff_forall_mem.1 h1.1.2) e he
            simp [hb] at h2
            exact ih e.on h2 (by omega)
        rw [hr] at hmem
        cases hmem
  intro fuel
  induction fuel with
  | zero =>
    intro listed a w hc hI
    have hl : ∀ j, j < ops.size → listed.getD j false = true := by
      intro j hj
      have hj' : j < listed.size := hI.size ▸ hj
      have := Array.count_eq_zero.1 hc
      have h2 : listed[j] ≠ false := fun e => this (e ▸ Array.getElem_mem hj')
      simp [hj']; simpa using h2
    refine ⟨?_, fin listed a w hl hI⟩
    cases hr : Region.ready .any ops listed with
    | nil => rfl
    | cons i rs =>
      have hm : i ∈ Region.ready .any ops listed := by rw [hr]; exact List.mem_cons_self
      obtain ⟨h0, o, ho, _⟩ := mem_ready.1 hm
      have hi : i < ops.size := (Array.getElem?_eq_some_iff.1 ho).1
      have h1 := hl i hi
      have hi' : i < listed.size := hI.size ▸ hi
      simp [hi'] at h0 h1
      rw [h0] at h1; cases h1
  | succ fuel ih =>
    intro listed a w hc hI
    refine ⟨fun hr => fin listed a w (noReady listed hI.size hr) hI, fun i hi => ?_⟩
    obtain ⟨h0, o, ho, hafter⟩ := mem_ready.1 hi
    have hil : i < ops.size := (Array.getElem?_eq_some_iff.1 ho).1
    have hil' : i < listed.size := hI.size ▸ hil
    have h0' : listed.getD i false = false := by simp [hil'] at h0 ⊢; exact h0
    have hopk := hall ho
    simp only [opOk, Bool.and_eq_true] at hopk
    obtain ⟨⟨⟨⟨hk1, hk2⟩, hk3⟩, hk4⟩, hk5⟩ := hopk
    have hdep2 : ∀ p ∈ D.getD i [], waits ops i p.1 = true ∧ dstOf ops p.1 = some p.2 := fun p hp => by
      have := List.all_eq_true.1 hk3 p hp
      simpa using this
    have hdeps : ∀ p ∈ D.getD i [], listed.getD p.1 false = true := fun p hp => waits_of_ready hi p.1 (hdep2 p hp).1
    have hsel : ∀ cs b, o.op ≠ .select cs b := by intro cs b e; rw [e] at hk2; cases hk2
    have hjlt : ∀ j, listed.getD j false = true → j < ops.size := fun j hj => by
      rcases Nat.lt_or_ge j listed.size with h' | h'
      · exact hI.size ▸ h'
      · simp [Array.getElem?_eq_none h'] at hj
    obtain ⟨c, hk, hc1, hc2, hc3⟩ := depsThen_at a _ (D.getD i []) a0 hI.ts.symm (fun p hp => by
      have := hI.fact p.1 (hjlt p.1 (hdeps p hp)) (hdeps p hp)
      simp only [(hdep2 p hp).2] at this
      exact this) (hobs ho w hI.ext)
    -- what the operation looks at stands in 'c' as in 'a'
    have same : ∀ s ∈ o.looksAt ops, c.tmps[s]? = a.tmps[s]? := by
      intro s hs
      refine tmps_ext hc1 ?_
      rw [hc3]
      split
      · rfl
      · rename_i hn
        refine (hI.old s fun j hj => ?_).symm
        have hjl : j < ops.size := by
          unfold dstOf at hj
          rcases Nat.lt_or_ge j ops.size with h' | h'
          · exact h'
          · rw [Array.getElem?_eq_none h'] at hj; cases hj
        have h1 := List.all_eq_true.1 (List.all_eq_true.1 hk5 s hs) j (List.mem_range.2 hjl)
        simp only [Bool.or_eq_true, bne_iff_ne, ne_eq, beq_iff_eq] at h1
        rcases h1 with ((h1 | h1) | h1) | h1
        · exact absurd hj h1
        · exfalso
          rw [List.any_eq_true] at h1
          obtain ⟨p, hp, hpj⟩ := h1
          have hd := (hdep2 p hp).2
          rw [eq_of_beq hpj, hj] at hd
          exact hn ⟨p, hp, (Option.some.inj hd).symm⟩
        · rw [h1]; exact h0'
        · cases hlj : listed.getD j false with
          | false => rfl
          | true => have := hI.down j hlj i h1; rw [h0'] at this; cases this
    have heval : execOp c.eval o = execOp a.eval o := execOp_congr o hsel fun x hx => by
      cases x with
      | tmp t =>
        have := same t (List.mem_append_left _ (List.mem_filterMap.2 ⟨.tmp t, by simpa using hx, rfl⟩))
        simp [Act.eval, this]
      | _ => rfl
    have hwant : Region.wanted o (yielded ops c.tmps) = Region.wanted o (yielded ops a.tmps) := by
      unfold Region.wanted
      cases hg : o.guard with
      | none => rfl
      | some gw =>
        obtain ⟨g, want⟩ := gw
        have hy : yielded ops c.tmps g = yielded ops a.tmps g := by
          unfold yielded
          cases ht : (ops[g]?).bind (·.dst) with
          | none => rfl
          | some t =>
            have := same t (by simp [Oper.looksAt, hg, ht])
            simp [this]
        simp only [hy]
    -- the invariant behind the operation
    have next : ∀ v w', S.rel w w' → F i (match o.dst with | some d => (c.put o.dst v).tmps.getD d undef | none => undef) w' →
        wpAny P .any ops Q fuel (listed.setIfInBounds i true) (a.put o.dst v) w' := by
      intro v w' hx hF
      have hdst : dstOf ops i = o.dst := by simp [dstOf, ho]
      refine ih _ _ _ ?_ ⟨by simpa using hI.size, by rw [put_size]; exact hI.ts, by rw [put_defers]; exact hI.df, ?_, ?_, ?_, S.trans hI.ext hx⟩
      · have hset : listed.setIfInBounds i true = listed.set i true hil' := by simp [Array.setIfInBounds, hil']
        rw [hset, Array.count_set]
        have : listed[i] = false := by simpa [hil'] using h0'
        simp [this]; omega
      · intro s hs
        have hne : o.dst ≠ some s := fun e => by
          have := hs i (hdst.trans e)
          simp [hil'] at this
        rw [put_getD_ne _ hne]
        refine hI.old s fun j hj => ?_
        by_cases hji : i = j
        · rw [← hji]; exact h0'
        · have := hs j hj
          rwa [getD_set_ne false hji] at this
      · intro j hj hlj
        by_cases hji : i = j
        · subst hji
          rw [hdst]
          cases hd : o.dst with
          | none => simp only [hd] at hF; exact hF
          | some d =>
            simp only [hd] at hF hk1
            simp only [Bool.and_eq_true, decide_eq_true_eq] at hk1
            rw [put_getD_eq _ (by rw [hc1, hI.ts]; exact hk1.1)] at hF
            show F i ((a.put (some d) v).tmps.getD d undef) w'
            rw [put_getD_eq _ (by rw [hI.ts]; exact hk1.1)]
            exact hF
        · rw [getD_set_ne false hji] at hlj
          have hfj := hst _ _ _ _ hx (hI.fact j hj hlj)
          cases hdj : dstOf ops j with
          | none => simp only [hdj] at hfj; exact hfj
          | some d =>
            simp only [hdj] at hfj
            have hne : o.dst ≠ some d := fun e => by
              rw [e] at hk1
              simp only [Bool.and_eq_true] at hk1
              have := List.all_eq_true.1 hk1.2 j (List.mem_range.2 hj)
              simp [hdj, Ne.symm hji] at this
            show F j ((a.put o.dst v).tmps.getD d undef) w'
            rw [put_getD_ne _ hne]
            exact hfj
      · intro j hlj k hw
        by_cases hji : i = j
        · subst hji; exact getD_set_true (waits_of_ready hi k hw)
        · rw [getD_set_ne false hji] at hlj
          exact getD_set_true (hI.down j hlj k hw)
    -- the operation itself
    unfold wpOp
    rw [ho]
    simp only []
    rw [← hwant]
    simp only [wpList] at hk
    split
    · rename_i hw
      rw [if_pos hw] at hk
      rcases hk with hk | ⟨_, x, y, hxy⟩
      · refine .inl ?_
        unfold Oper.wp at hk ⊢
        rw [heval] at hk
        generalize (execOp a.eval o).run P w = r at *
        cases r with
        | ok n w' =>
          cases n <;> simp only [Oper.upon] at hk ⊢
          case value u => exact next u w' hk.2.1 hk.2.2.2
          case skip => exact next undef w' hk.2.1 hk.2.2.2
          case defer d =>
            have := hk.2.2.1
            rw [put_defers] at this
            exact absurd this (by simp)
          case enter f args =>
            refine Calls.mono hk fun e w'' he => ?_
            cases e with
            | returned u => exact next u w'' he.2.1 he.2.2.2
            | panicked c => exact absurd he.1 (by simp)
            | outgrown => obtain ⟨_, _, h⟩ := he; exact absurd h.1 (by simp)
          case row row args => exact Rows.mono hk fun u w'' he => next u w'' he.2.1 he.2.2.2
        | halt x w' =>
          cases x <;> simp only [Oper.upon] at hk ⊢
          case panic u => exact absurd hk.1 (by simp)
      · exact absurd hxy.1 (by simp)
    · rename_i hw
      rw [if_neg hw] at hk
      exact next undef w hk.2.1 hk.2.2.2

/-- A fact on a value that stays true while memory only grows. -/
structure Fact where
  p : Value → World → Prop
  st : ∀ v w w', S.rel w w' → p v w → p v w'

def Fact.any : Fact S := ⟨fun _ _ => True, fun _ _ _ _ h => h⟩
def Fact.eq (u : Value) : Fact S := ⟨fun v _ => v = u, fun _ _ _ _ h => h⟩
/-- The facts of the operations in order. -/
def factAt (Fs : List (Fact S)) (i : Nat) : Value → World → Prop := (Fs.getD i (Fact.any S)).p

/-- A REGION THAT DRAWS ITS ORDER: each operation is shown once, over the facts of those that it waits for (D: for each operation their numbers and slots; E: of all). -/
theorem wp_region_facts {id : Nat} {l : List Oper} (Fs : List (Fact S)) (D : List (List (Nat × Tmp))) (E : List (Nat × Tmp)) {a0 : Act} {w0 : World} {Q : Exit → Act → World → Prop}
    (hm : P.follows .mixedOrders = true)
    (hok : (opsOk l.toArray a0.tmps.size 0 l D && endOk l.toArray E) = true)
    (hob : Obs S P l.toArray (factAt S Fs) a0 w0 0 l D)
    (hend : ∀ w, S.rel w0 w → depsThen (factAt S Fs) w E a0 (fun a => Q .normal a w)) :
    (Code.region id l.toArray true).wp P Q a0 w0 := by
  simp only [Bool.and_eq_true] at hok
  refine wp_region_any hm (region_any S (F := factAt S Fs) (D := D) (E := E) (w0 := w0) (by simpa using hok.1) hok.2 (fun i v w w' hx h => (Fs.getD i (Fact.any S)).st v w w' hx h) (by simpa using hob) hend _ _ _ _ ?_ ?_)
  · simp
  · have hno : ∀ j, (Array.replicate l.toArray.size false).getD j false = false := fun j => by
      simp only [Array.getD_eq_getD_getElem?, Array.getElem?_replicate]; split <;> rfl
    exact ⟨by simp, rfl, rfl, fun _ _ => rfl, fun j _ h => (by rw [hno] at h; cases h), fun j h => (by rw [hno] at h; cases h), S.drew w0⟩

theorem ob_val {F : Value → World → Prop} {ops : Array Oper} {a : Act} {w w' : World} {o : Oper} {v : Value} {d : Nat}
    (hw : Region.wanted o (yielded ops a.tmps) = true) (hr : (execOp a.eval o).run P w = .ok (.value v) w') (hx : S.rel w w') (hd : o.dst = some d) (hs : decide (d < a.tmps.size) = true) (hf : F v w') :
    wpList P ops (endQ S F o a w) [o] a w := by
  refine wpList_val hw hr (wpList_nil ⟨rfl, hx, put_defers _ _ _, ?_⟩)
  rw [hd]
  show F ((a.put (some d) v).tmps.getD d undef) w'
  rw [put_getD_eq _ (of_decide_eq_true hs)]; exact hf
theorem ob_move {F : Value → World → Prop} {ops : Array Oper} {a : Act} {w : World} {o : Oper} {x : Operand} {d : Nat}
    (hw : Region.wanted o (yielded ops a.tmps) = true) (ho : o.op = .move x) (hd : o.dst = some d) (hs : decide (d < a.tmps.size) = true) (hf : F (a.eval x) w) :
    wpList P ops (endQ S F o a w) [o] a w := ob_val S hw (by simp [execOp, ho]) (S.refl w) hd hs hf
theorem ob_assign {F : Value → World → Prop} {ops : Array Oper} {a : Act} {w : World} {o : Oper} {x : Operand} {d : Nat}
    (hw : Region.wanted o (yielded ops a.tmps) = true) (ho : o.op = .assign x) (hd : o.dst = some d) (hs : decide (d < a.tmps.size) = true) (hf : F (a.eval x) w) :
    wpList P ops (endQ S F o a w) [o] a w := ob_val S hw (by simp [execOp, ho]) (S.refl w) hd hs hf

end
end Go.Proofs.YtlhbpflcffjhmaaGreat.Rg

namespace Go.Proofs.YtlhbpflcffjhmaaGreat
open Go.RowKit

set_option maxRecDepth 100000 in
set_option maxHeartbeats 2000000 in
theorem less_any (w : World) (x y : Cut) : Calls Tryz.prog 174 #[.agg #[.string (strOf x.a), .bool x.e], .agg #[.string (strOf y.a), .bool y.e]] w fun e w' => e = .returned (.bool (Cut.lt x y)) ∧ Ext w w' := by
  obtain ⟨xa, xe⟩ := x
  obtain ⟨ya, ye⟩ := y
  have hx0 : Ext w ((w.alloc (.cells #[.string (strOf xa), .bool xe] 152)).alloc (.cells #[.string (strOf ya), .bool ye] 152)) := ((Ext.refl w).alloc _).alloc _
  unfold Cut.lt
  simp only
  cases xe
  · cases ye
    · cases hb : Op.bytesLess xa ya
      · go_enter Tryz.func174, Tryz.ntmps174
        go_wp2
        go_ret
        exact ⟨rfl, hx0⟩
      · go_enter Tryz.func174, Tryz.ntmps174
        go_wp2
        go_ret
        exact ⟨rfl, hx0⟩
    · go_enter Tryz.func174, Tryz.ntmps174
      go_wp2
      go_ret
      exact ⟨rfl, hx0⟩
  · go_enter Tryz.func174, Tryz.ntmps174
    go_wp2
    go_ret
    exact ⟨rfl, hx0⟩

set_option maxRecDepth 100000 in
theorem end_any (w : World) : Calls Tryz.prog 121 #[] w fun e w' => e = .returned (.agg #[.string ⟨#[]⟩, .bool true]) ∧ Ext w w' := by
  go_enter Tryz.func121, Tryz.ntmps121
  go_wp2
  have hR := heap_alloc_new w (.cells #[.string ⟨#[]⟩, .bool true] 152)
  have r0 := cell_of_row _ _ 0 _ _ _ hR
  have r1 := cell_of_row _ _ 1 _ _ _ hR
  refine bodyPost_ret (v := .agg #[.string ⟨#[]⟩, .bool true]) (by simp [results, Tryz.results121, go_sem, r0, r1]) rfl ⟨rfl, (Ext.refl w).alloc _⟩

theorem info5t : (Tryz.prog.info? 5).map (fun i => (i.zero, i.size, i.bytes)) = some (some (.int .u8 0), 1, 1) := by kernel_rfl
theorem eight_take (n : Nat) (j : Nat) (hj : j < 8) : (eightF n).take (j + 1) = (eightF n).take j ++ [UInt8.ofNat (n / 256 ^ (7 - j) % 256)] := by
  match j, hj with
  | 0, _ => simp [eightF, eightN, Nat.div_div_eq_div_mul]
  | 1, _ => simp [eightF, eightN, Nat.div_div_eq_div_mul]
  | 2, _ => simp [eightF, eightN, Nat.div_div_eq_div_mul]
  | 3, _ => simp [eightF, eightN, Nat.div_div_eq_div_mul]
  | 4, _ => simp [eightF, eightN, Nat.div_div_eq_div_mul]
  | 5, _ => simp [eightF, eightN, Nat.div_div_eq_div_mul]
  | 6, _ => simp [eightF, eightN, Nat.div_div_eq_div_mul]
  | 7, _ => simp [eightF, eightN, Nat.div_div_eq_div_mul]
theorem own_laterB {w w' : World} {base size n : Nat} {e : TypeId} {v : Value} {xs : List Value} (h : w.ownsRow base e size v n xs) (hx : Ext w w') : w'.ownsRow base e size v n xs := by
  refine ⟨h.1, ?_⟩
  rcases h.2 with h0 | ⟨g, cap, cur, e0, hb, hg, hn, hm, hs, ht⟩
  · exact .inl h0
  · exact .inr ⟨g, cap, cur, e0, hb, by rw [hx.block g (Array.getElem?_eq_some_iff.1 hg).1]; exact hg, hn, hm, hs, ht⟩
def bs (l : List UInt8) : List Value := l.map fun c => Value.int .u8 (c.toNat : Int)
theorem bs_one (l : List UInt8) : ∀ u ∈ bs l, u.oneCell' = true := fun u hu => by
  obtain ⟨c, _, rfl⟩ := List.mem_map.1 hu; rfl
theorem eight_row (w : World) (n j : Nat) (V : Int) (hV : V = ((n / 256 ^ (7 - j) % 256 : Nat) : Int)) : Row (w.alloc (.cells #[.int .u8 V] 5)) 1 (.slice (some ⟨w.heap.size, 0, none⟩) 1 1) 1 (bs [UInt8.ofNat (n / 256 ^ (7 - j) % 256)]) := by
  have e : bs [UInt8.ofNat (n / 256 ^ (7 - j) % 256)] = [Value.int .u8 V] := by
    have : (UInt8.ofNat (n / 256 ^ (7 - j) % 256)).toNat = n / 256 ^ (7 - j) % 256 := by rw [UInt8.toNat_ofNat']; omega
    unfold bs
    rw [List.map_singleton, this, hV]
  rw [e]
  exact Row.of_own (World.ownsRow_lit (base := w.heap.size) (e := 5) (size := 1) w #[.int .u8 V] 1 (Nat.le_refl _) (by decide) rfl)
/-- Eight bytes of the call's own, j of them there. -/
def EightO (w : World) (n j : Nat) (v : Value) (w' : World) : Prop := w'.ownsRow w.heap.size 5 1 v j (bs ((eightF n).take j)) ∧ Ext w w'
theorem eight_next {w : World} {n j : Nat} (hj : j < 8) {v v' : Value} {wj w' : World} (o : Obj) (h : EightO w n j v wj) (ho : w'.ownsRow w.heap.size 5 1 v' (j + 1) (bs ((eightF n).take j) ++ bs [UInt8.ofNat (n / 256 ^ (7 - j) % 256)])) (hg : (wj.alloc o).grownBy w' v.ownBlock) : EightO w n (j + 1) v' w' := by
  refine ⟨?_, (h.2.alloc o).grown_none hg (own_base h.1)⟩
  rw [eight_take n j hj]
  unfold bs at ho ⊢
  rw [List.map_append]
  exact ho

set_option maxRecDepth 100000 in
set_option maxHeartbeats 4000000 in
theorem eight_any (w : World) (n : Nat) (hn : n < 18446744073709551616) : Calls Tryz.prog 213 #[.int .u64 n] w fun e w' => ∃ v, e = .returned v ∧ Bytes w' v (eightF n) ∧ Ext w w' := by
  have hone : ∀ j : Nat, ∀ u ∈ bs [UInt8.ofNat (n / 256 ^ (7 - j) % 256)], u.oneCell' = true := fun j => bs_one _
  have HONE := Lib.hid hone
  have H0 : Hid (EightO w n 0 (.slice none 0 0) w) := ⟨⟨rfl, .inl ⟨rfl, rfl⟩⟩, Ext.refl w⟩
  clear hone
  go_enter Tryz.func213, Tryz.ntmps213
  go_wp2_with fail
  refine wp_loop_rounds 9 ?_
  rw [rounds_succ]
  have R0 := Lib.hid (eight_row w n 0 ((n : Int) / 72057594037927936) (by omega))
  have hx := (H0.out.2.alloc (.cells #[.int .u8 ((n : Int) / 72057594037927936)] 5)).size
  have ho := Lib.hid (own_laterB H0.out.1 ((Ext.refl w).alloc (.cells #[.int .u8 ((n : Int) / 72057594037927936)] 5)))
  go_wp2_with (at_builtin; refine wpList_append_row 220 5 (.tmp 9) (.tmp 14) rfl w.heap.size _ 1 1 Tryz.underlying220 info5t rfl (by decide) rfl _ 0 (bs ((eightF n).take 0)) rfl ho.out 1 (bs [UInt8.ofNat (n / 256 ^ (7 - 0) % 256)]) R0.out (HONE.out 0) (by decide) (by decide) hx ?_; intro v1 w1 hown hg; have H1 := Lib.hid (eight_next (by decide) _ H0.out hown hg); clear hown hg)
  clear R0 hx ho H0
  rw [rounds_succ]
  have R1 := Lib.hid (eight_row w1 n 1 ((n : Int) / 281474976710656 % 256) (by omega))
  have hx := (H1.out.2.alloc (.cells #[.int .u8 ((n : Int) / 281474976710656 % 256)] 5)).size
  have ho := Lib.hid (own_laterB H1.out.1 ((Ext.refl w1).alloc (.cells #[.int .u8 ((n : Int) / 281474976710656 % 256)] 5)))
  go_wp2_with (at_builtin; refine wpList_append_row 220 5 (.tmp 9) (.tmp 14) rfl w.heap.size _ 1 1 Tryz.underlying220 info5t rfl (by decide) rfl _ 1 (bs ((eightF n).take 1)) rfl ho.out 1 (bs [UInt8.ofNat (n / 256 ^ (7 - 1) % 256)]) R1.out (HONE.out 1) (by decide) (by decide) hx ?_; intro v2 w2 hown hg; have H2 := Lib.hid (eight_next (by decide) _ H1.out hown hg); clear hown hg)
  clear R1 hx ho H1
  rw [rounds_succ]
  have R2 := Lib.hid (eight_row w2 n 2 ((n : Int) / 1099511627776 % 256) (by omega))
  have hx := (H2.out.2.alloc (.cells #[.int .u8 ((n : Int) / 1099511627776 % 256)] 5)).size
  have ho := Lib.hid (own_laterB H2.out.1 ((Ext.refl w2).alloc (.cells #[.int .u8 ((n : Int) / 1099511627776 % 256)] 5)))
  go_wp2_with (at_builtin; refine wpList_append_row 220 5 (.tmp 9) (.tmp 14) rfl w.heap.size _ 1 1 Tryz.underlying220 info5t rfl (by decide) rfl _ 2 (bs ((eightF n).take 2)) rfl ho.out 1 (bs [UInt8.ofNat (n / 256 ^ (7 - 2) % 256)]) R2.out (HONE.out 2) (by decide) (by decide) hx ?_; intro v3 w3 hown hg; have H3 := Lib.hid (eight_next (by decide) _ H2.out hown hg); clear hown hg)
  clear R2 hx ho H2
  rw [rounds_succ]
  have R3 := Lib.hid (eight_row w3 n 3 ((n : Int) / 4294967296 % 256) (by omega))
  have hx := (H3.out.2.alloc (.cells #[.int .u8 ((n : Int) / 4294967296 % 256)] 5)).size
  have ho := Lib.hid (own_laterB H3.out.1 ((Ext.refl w3).alloc (.cells #[.int .u8 ((n : Int) / 4294967296 % 256)] 5)))
  go_wp2_with (at_builtin; refine wpList_append_row 220 5 (.tmp 9) (.tmp 14) rfl w.heap.size _ 1 1 Tryz.underlying220 info5t rfl (by decide) rfl _ 3 (bs ((eightF n).take 3)) rfl ho.out 1 (bs [UInt8.ofNat (n / 256 ^ (7 - 3) % 256)]) R3.out (HONE.out 3) (by decide) (by decide) hx ?_; intro v4 w4 hown hg; have H4 := Lib.hid (eight_next (by decide) _ H3.out hown hg); clear hown hg)
  clear R3 hx ho H3
  rw [rounds_succ]
  have R4 := Lib.hid (eight_row w4 n 4 ((n : Int) / 16777216 % 256) (by omega))
  have hx := (H4.out.2.alloc (.cells #[.int .u8 ((n : Int) / 16777216 % 256)] 5)).size
  have ho := Lib.hid (own_laterB H4.out.1 ((Ext.refl w4).alloc (.cells #[.int .u8 ((n : Int) / 16777216 % 256)] 5)))
  go_wp2_with (at_builtin; refine wpList_append_row 220 5 (.tmp 9) (.tmp 14) rfl w.heap.size _ 1 1 Tryz.underlying220 info5t rfl (by decide) rfl _ 4 (bs ((eightF n).take 4)) rfl ho.out 1 (bs [UInt8.ofNat (n / 256 ^ (7 - 4) % 256)]) R4.out (HONE.out 4) (by decide) (by decide) hx ?_; intro v5 w5 hown hg; have H5 := Lib.hid (eight_next (by decide) _ H4.out hown hg); clear hown hg)
  clear R4 hx ho H4
  rw [rounds_succ]
  have R5 := Lib.hid (eight_row w5 n 5 ((n : Int) / 65536 % 256) (by omega))
  have hx := (H5.out.2.alloc (.cells #[.int .u8 ((n : Int) / 65536 % 256)] 5)).size
  have ho := Lib.hid (own_laterB H5.out.1 ((Ext.refl w5).alloc (.cells #[.int .u8 ((n : Int) / 65536 % 256)] 5)))
  go_wp2_with (at_builtin; refine wpList_append_row 220 5 (.tmp 9) (.tmp 14) rfl w.heap.size _ 1 1 Tryz.underlying220 info5t rfl (by decide) rfl _ 5 (bs ((eightF n).take 5)) rfl ho.out 1 (bs [UInt8.ofNat (n / 256 ^ (7 - 5) % 256)]) R5.out (HONE.out 5) (by decide) (by decide) hx ?_; intro v6 w6 hown hg; have H6 := Lib.hid (eight_next (by decide) _ H5.out hown hg); clear hown hg)
  clear R5 hx ho H5
  rw [rounds_succ]
  have R6 := Lib.hid (eight_row w6 n 6 ((n : Int) / 256 % 256) (by omega))
  have hx := (H6.out.2.alloc (.cells #[.int .u8 ((n : Int) / 256 % 256)] 5)).size
  have ho := Lib.hid (own_laterB H6.out.1 ((Ext.refl w6).alloc (.cells #[.int .u8 ((n : Int) / 256 % 256)] 5)))
  go_wp2_with (at_builtin; refine wpList_append_row 220 5 (.tmp 9) (.tmp 14) rfl w.heap.size _ 1 1 Tryz.underlying220 info5t rfl (by decide) rfl _ 6 (bs ((eightF n).take 6)) rfl ho.out 1 (bs [UInt8.ofNat (n / 256 ^ (7 - 6) % 256)]) R6.out (HONE.out 6) (by decide) (by decide) hx ?_; intro v7 w7 hown hg; have H7 := Lib.hid (eight_next (by decide) _ H6.out hown hg); clear hown hg)
  clear R6 hx ho H6
  rw [rounds_succ]
  have R7 := Lib.hid (eight_row w7 n 7 ((n : Int) % 256) (by omega))
  have hx := (H7.out.2.alloc (.cells #[.int .u8 ((n : Int) % 256)] 5)).size
  have ho := Lib.hid (own_laterB H7.out.1 ((Ext.refl w7).alloc (.cells #[.int .u8 ((n : Int) % 256)] 5)))
  go_wp2_with (at_builtin; refine wpList_append_row 220 5 (.tmp 9) (.tmp 14) rfl w.heap.size _ 1 1 Tryz.underlying220 info5t rfl (by decide) rfl _ 7 (bs ((eightF n).take 7)) rfl ho.out 1 (bs [UInt8.ofNat (n / 256 ^ (7 - 7) % 256)]) R7.out (HONE.out 7) (by decide) (by decide) hx ?_; intro v8 w8 hown hg; have H8 := Lib.hid (eight_next (by decide) _ H7.out hown hg); clear hown hg)
  clear R7 hx ho H7
  rw [rounds_succ]
  go_wp2_with fail
  go_ret
  refine ⟨_, rfl, ?_, H8.out.2⟩
  have h := Row.of_own H8.out.1
  have hl : (eightF n).length = 8 := eightN_len 8 n
  rw [List.take_of_length_le (by rw [hl]; exact Nat.le_refl _)] at h
  unfold Bytes
  rw [hl]
  exact h
end Go.Proofs.YtlhbpflcffjhmaaGreat

namespace Go.Proofs.YtlhbpflcffjhmaaGreat
open Go.RowKit

theorem xor_top (r : Nat) (h : r < 2 ^ 63) : r ^^^ 2 ^ 63 = r + 2 ^ 63 := by
  have e := Nat.two_pow_add_eq_or_of_lt h 1
  rw [Nat.mul_one] at e
  rw [Nat.add_comm r, e]
  apply Nat.eq_of_testBit_eq
  intro i
  rw [Nat.testBit_xor, Nat.testBit_or, Nat.testBit_two_pow]
  by_cases hi : 63 = i
  · subst hi
    rw [Nat.testBit_lt_two_pow h]; simp
  · simp [hi]
theorem xor_top2 (r : Nat) (h : r < 2 ^ 63) : (r + 2 ^ 63) ^^^ 2 ^ 63 = r := by
  rw [← xor_top r h, Nat.xor_assoc, Nat.xor_self, Nat.xor_zero]
theorem sign_bits {n : Int} (h : okN n) : bits .xor .u64 (IntKind.u64.wrap n) 9223372036854775808 = (((n + 9223372036854775808).toNat : Nat) : Int) := by
  obtain ⟨h1, h2⟩ := h
  have e1 : (9223372036854775808 : Int) = ((2 ^ 63 : Nat) : Int) := by decide
  rw [e1]
  by_cases hn : 0 ≤ n
  · obtain ⟨m, rfl⟩ : ∃ m : Nat, n = m := ⟨n.toNat, by omega⟩
    have e2 : IntKind.u64.wrap (m : Int) = (m : Int) := by simp [IntKind.wrap, IntKind.bits, IntKind.signed]; omega
    rw [e2, u64_xor_nat _ _ (by omega) (by decide), xor_top m (by omega)]
    omega
  · obtain ⟨m, hm⟩ : ∃ m : Nat, n + 9223372036854775808 = m := ⟨(n + 9223372036854775808).toNat, by omega⟩
    have e2 : IntKind.u64.wrap n = ((m + 2 ^ 63 : Nat) : Int) := by simp [IntKind.wrap, IntKind.bits, IntKind.signed]; omega
    rw [e2, u64_xor_nat _ _ (by omega) (by decide), xor_top2 m (by omega)]
    omega
theorem sign_bits0 {n : Int} (h : okN n) (h0 : 0 ≤ n) : bits .xor .u64 n 9223372036854775808 = (((n + 9223372036854775808).toNat : Nat) : Int) := by
  have := sign_bits h
  have e2 : IntKind.u64.wrap n = n := by
    obtain ⟨h1, h2⟩ := h
    simp [IntKind.wrap, IntKind.bits, IntKind.signed]; omega
  rw [e2] at this
  exact this

theorem info152s : (Tryz.prog.info? 152).map (·.size) = some 2 := by kernel_rfl
theorem num_len (n : Int) : (eightF n.toNat).length = 8 := eightN_len 8 _
set_option maxRecDepth 100000 in
set_option maxHeartbeats 2000000 in
theorem number_cut (w : World) (n : Int) (h : okN n) : Calls Tryz.prog 169 #[.int .i64 n] w fun e w' => e = .returned (.agg #[.string (strOf (numC n).a), .bool false]) ∧ Ext w w' := by
  have hb := sign_bits h
  have hb0 := sign_bits0 h
  obtain ⟨h1, h2⟩ := h
  have hm : (n + 9223372036854775808).toNat < 18446744073709551616 := by omega
  have hR := heap_alloc_new w (.cells #[.string ⟨#[]⟩, .bool false] 152)
  have hx0 : Ext w (w.alloc (.cells #[.string ⟨#[]⟩, .bool false] 152)) := (Ext.refl w).alloc _
  have hlt : w.heap.size < (w.alloc (.cells #[.string ⟨#[]⟩, .bool false] 152)).heap.size := by rw [World.size_alloc]; omega
  have he := eight_any (w.alloc (.cells #[.string ⟨#[]⟩, .bool false] 152)) _ hm
  have hs : ∀ (w2 : World) (v : Value), Bytes w2 v (eightF (n + 9223372036854775808).toNat) → (convert 220 9 v).run Tryz.prog w2 = .ok (.string (strOf (numC n).a)) w2 := fun w2 v hv => run_bytes_str w2 220 9 5 Tryz.underlying220 Tryz.underlying5 Tryz.underlying9 hv
  have HB := Lib.hid hb
  have HB0 := Lib.hid hb0
  have HS := Lib.hid hs
  have HE := Lib.hid he
  have HR := Lib.hid hR
  clear hb hb0 hs he hR
  generalize strOf (numC n).a = st at *
  by_cases hn : 0 ≤ n
  · go_enter Tryz.func169, Tryz.ntmps169
    go_wp2_with fail
    rw [HB0.out hn]
    refine HE.out.mono ?_
    rintro e w2 ⟨v, rfl, hv, hx2⟩
    have hcv := HS.out w2 v hv
    have hR2 : w2.heap[w.heap.size]? = some (.cells #[.string ⟨#[]⟩, .bool false] 152 (0, 0)) := by rw [hx2.block _ hlt]; exact HR.out
    have HR2 := Lib.hid hR2
    clear hR2
    go_wp2_with (refine wpList_store_whole 152 (.tmp 2) (.tmp 8) rfl rfl w.heap.size rfl #[.string st, .bool false] rfl _ 152 HR2.out rfl info152s (by simp [Value.oneCell']) ?_)
    have hq := setRow_heap _ _ _ #[.string st, .bool false] _ _ HR2.out
    have r0 := cell_of_row _ _ 0 _ _ _ hq
    have r1 := cell_of_row _ _ 1 _ _ _ hq
    refine bodyPost_ret (v := .agg #[.string st, .bool false]) (by simp [results, Tryz.results169, go_sem, r0, r1]) rfl ⟨rfl, (hx0.trans hx2).setRow (Nat.le_refl _) _⟩
  · go_enter Tryz.func169, Tryz.ntmps169
    go_wp2_with fail
    rw [HB.out]
    refine HE.out.mono ?_
    rintro e w2 ⟨v, rfl, hv, hx2⟩
    have hcv := HS.out w2 v hv
    have hR2 : w2.heap[w.heap.size]? = some (.cells #[.string ⟨#[]⟩, .bool false] 152 (0, 0)) := by rw [hx2.block _ hlt]; exact HR.out
    have HR2 := Lib.hid hR2
    clear hR2
    go_wp2_with (refine wpList_store_whole 152 (.tmp 2) (.tmp 8) rfl rfl w.heap.size rfl #[.string st, .bool false] rfl _ 152 HR2.out rfl info152s (by simp [Value.oneCell']) ?_)
    have hq := setRow_heap _ _ _ #[.string st, .bool false] _ _ HR2.out
    have r0 := cell_of_row _ _ 0 _ _ _ hq
    have r1 := cell_of_row _ _ 1 _ _ _ hq
    refine bodyPost_ret (v := .agg #[.string st, .bool false]) (by simp [results, Tryz.results169, go_sem, r0, r1]) rfl ⟨rfl, (hx0.trans hx2).setRow (Nat.le_refl _) _⟩

set_option maxRecDepth 100000 in
set_option maxHeartbeats 2000000 in
theorem first_any (w : World) (k : Int) : Calls Tryz.prog 120 #[.int .i64 k] w fun e w' => e = .returned (.agg #[.string (strOf (firstC k).a), .bool false]) ∧ Ext w w' := by
  have hR := heap_alloc_new w (.cells #[.string ⟨#[]⟩, .bool false] 152)
  have hx0 : Ext w (w.alloc (.cells #[.string ⟨#[]⟩, .bool false] 152)) := (Ext.refl w).alloc _
  have hlt : w.heap.size < (w.alloc (.cells #[.string ⟨#[]⟩, .bool false] 152)).heap.size := by rw [World.size_alloc]; omega
  by_cases hk : k = 1
  · have hn := number_cut (w.alloc (.cells #[.string ⟨#[]⟩, .bool false] 152)) (-9223372036854775808) ⟨by decide, by decide⟩
    have e : firstC k = numC (-9223372036854775808) := by unfold firstC; rw [if_pos hk]
    rw [e]
    have hd : (k == 1) = true := beq_iff_eq.2 hk
    have HN := Lib.hid hn
    have HR := Lib.hid hR
    clear hk e hn hR
    generalize strOf (numC (-9223372036854775808)).a = st at *
    go_enter Tryz.func120, Tryz.ntmps120
    go_wp2_with fail
    refine HN.out.mono ?_
    rintro e w2 ⟨rfl, hx2⟩
    have hR2 : w2.heap[w.heap.size]? = some (.cells #[.string ⟨#[]⟩, .bool false] 152 (0, 0)) := by rw [hx2.block _ hlt]; exact HR.out
    have HR2 := Lib.hid hR2
    clear hR2
    go_wp2_with (refine wpList_store_whole 152 (.tmp 2) (.tmp 5) rfl rfl w.heap.size rfl #[.string st, .bool false] rfl _ 152 HR2.out rfl info152s (by simp [Value.oneCell']) ?_)
    have hq := setRow_heap _ _ _ #[.string st, .bool false] _ _ HR2.out
    have r0 := cell_of_row _ _ 0 _ _ _ hq
    have r1 := cell_of_row _ _ 1 _ _ _ hq
    refine bodyPost_ret (v := .agg #[.string st, .bool false]) (by simp [results, Tryz.results120, go_sem, r0, r1]) rfl ⟨rfl, (hx0.trans hx2).setRow (Nat.le_refl _) _⟩
  · have e : firstC k = ⟨[], false⟩ := by unfold firstC; rw [if_neg hk]
    rw [e]
    have hd := beq_int_ne hk
    clear hk e
    go_enter Tryz.func120, Tryz.ntmps120
    go_wp2_with fail
    have r0 := cell_of_row _ _ 0 _ _ _ hR
    have r1 := cell_of_row _ _ 1 _ _ _ hR
    refine bodyPost_ret (v := .agg #[.string (strOf []), .bool false]) (by simp [results, Tryz.results120, go_sem, r0, r1]; rfl) rfl ⟨rfl, hx0⟩
end Go.Proofs.YtlhbpflcffjhmaaGreat

namespace Go.Proofs.YtlhbpflcffjhmaaGreat.Rs
open Go.RowKit

open Rg (Step)
section
variable {P : Program} (S : Step)

/-- What an operation must come to: no panic, memory only grows, its value has its fact. -/
def endQ (F : Value → World → Prop) (o : Oper) (a : Act) (w : World) : Exit → Act → World → Prop :=
  fun e a' w' => e = .normal ∧ S.rel w w' ∧ a'.defers = a.defers ∧ F (match o.dst with | some d => a'.tmps.getD d undef | none => undef) w'

def Ob (P : Program) (ops : Array Oper) (F : Nat → Value → World → Prop) (a0 : Act) (w0 : World) (i : Nat) (o : Oper) (D : List (Nat × Tmp)) : Prop :=
  ∀ w, S.rel w0 w → depsThen F w D a0 (fun a => wpList P ops (endQ S (F i) o a w) [o] a w)

def Obs (P : Program) (ops : Array Oper) (F : Nat → Value → World → Prop) (a0 : Act) (w0 : World) : Nat → List Oper → List (List (Nat × Tmp)) → Prop
  | _, [], _ => True
  | i, o :: os, D => Ob S P ops F a0 w0 i o (D.headD []) ∧ Obs P ops F a0 w0 (i + 1) os D.tail


theorem Obs_get {ops : Array Oper} {F : Nat → Value → World → Prop} {a0 : Act} {w0 : World} : ∀ {l : List Oper} {k : Nat} {D : List (List (Nat × Tmp))}, Obs S P ops F a0 w0 k l D →
    ∀ i o, l[i]? = some o → Ob S P ops F a0 w0 (k + i) o (D.getD i [])
  | [], _, _, _, _, _, h => by simp at h
  | o :: os, k, D, hb, i, o', h => by
    simp only [Obs] at hb
    cases i with
    | zero => simp at h; subst h; cases D <;> simpa using hb.1
    | succ i =>
      have := Obs_get hb.2 i o' (by simpa using h)
      cases D <;> simpa [Nat.add_assoc, Nat.add_comm 1 i] using this

structure Inv (ops : Array Oper) (F : Nat → Value → World → Prop) (a0 : Act) (w0 : World) (listed : Array Bool) (a : Act) (w : World) : Prop where
  size : listed.size = ops.size
  ts : a.tmps.size = a0.tmps.size
  df : a.defers = a0.defers
  old : ∀ s, (∀ j, dstOf ops j = some s → listed.getD j false = false) → a.tmps.getD s undef = a0.tmps.getD s undef
  fact : ∀ j, j < ops.size → listed.getD j false = true → F j (match dstOf ops j with | some d => a.tmps.getD d undef | none => undef) w
  down : ∀ j, listed.getD j false = true → ∀ i, waits ops j i = true → listed.getD i false = true
  ext : S.rel w0 w

theorem region_any {ops : Array Oper} {F : Nat → Value → World → Prop} {a0 : Act} {w0 : World} {D : List (List (Nat × Tmp))} {E : List (Nat × Tmp)} {Q : Exit → Act → World → Prop}
    (hok : opsOk ops a0.tmps.size 0 ops.toList D = true) (hE : endOk ops E = true)
    (hst : ∀ i v w w', S.rel w w' → F i v w → F i v w')
    (hob : Obs S P ops F a0 w0 0 ops.toList D)
    (hend : ∀ w, S.rel w0 w → (∀ j, j < ops.size → dstOf ops j = none → F j undef w) → depsThen F w E a0 (fun a => Q .normal a w)) :
    ∀ (fuel : Nat) (listed : Array Bool) (a : Act) (w : World), listed.count false = fuel → Inv S ops F a0 w0 listed a w → wpAny P .any ops Q fuel listed a w := by
  have hall : ∀ {i o}, ops[i]? = some o → opOk ops a0.tmps.size i o (D.getD i []) = true := fun {i o} h => by
    have := opsOk_get hok i o (by simpa using h); simpa using this
  have hobs : ∀ {i o}, ops[i]? = some o → Ob S P ops F a0 w0 i o (D.getD i []) := fun {i o} h => by
    have := Obs_get S hob i o (by simpa using h); simpa using this
  -- all that are listed: the end
  have fin : ∀ (listed : Array Bool) (a : Act) (w : World), (∀ j, j < ops.size → listed.getD j false = true) → Inv S ops F a0 w0 listed a w → Q .normal a w := by
    intro listed a w hl hI
    simp only [endOk, Bool.and_eq_true] at hE
    have hdl : ∀ {j d}, dstOf ops j = some d → j < ops.size := fun {j d} hj => by
      unfold dstOf at hj
      rcases Nat.lt_or_ge j ops.size with h' | h'
      · exact h'
      · rw [Array.getElem?_eq_none h'] at hj; cases hj
    obtain ⟨c, hk, hc1, hc2, hc3⟩ := depsThen_at a _ E a0 hI.ts.symm (fun p hp => by
      have hd : dstOf ops p.1 = some p.2 := by simpa using List.all_eq_true.1 hE.1 p hp
      have := hI.fact p.1 (hdl hd) (hl p.1 (hdl hd))
      simp only [hd] at this
      exact this) (hend w hI.ext fun j hj hd => by have := hI.fact j hj (hl j hj); simp only [hd] at this; exact this)
    have : c = a := by
      obtain ⟨ct, cd⟩ := c
      obtain ⟨at', ad⟩ := a
      have e2 : cd = ad := hc2.trans hI.df.symm
      have e1 : ct = at' := by
        apply Array.ext_getElem?
        intro s
        refine tmps_ext (a := ⟨ct, cd⟩) (b := ⟨at', ad⟩) hc1 ?_
        rw [hc3]
        split
        · rfl
        · rename_i hn
          refine (hI.old s fun j hj => ?_).symm
          exfalso
          have h2 := List.all_eq_true.1 hE.2 j (List.mem_range.2 (hdl hj))
          simp only [hj, List.any_eq_true, beq_iff_eq] at h2
          obtain ⟨p, hp, hpj⟩ := h2
          have hd : dstOf ops p.1 = some p.2 := by simpa using List.all_eq_true.1 hE.1 p hp
          rw [hpj, hj] at hd
          exact hn ⟨p, hp, (Option.some.inj hd).symm⟩
      rw [e1, e2]
    rw [← this]; exact hk
  -- nothing ready: all are listed
  have noReady : ∀ (listed : Array Bool), listed.size = ops.size → Region.ready .any ops listed = [] → ∀ j, j < ops.size → listed.getD j false = true := by
    intro listed hs hr j
    induction j using Nat.strongRecOn with
    | _ j ih =>
      intro hj
      cases hlj : listed.getD j false with
      | true => rfl
      | false =>
        exfalso
        have ho : ops[j]? = some ops[j] := by simp [hj]
        have hmem : j ∈ Region.ready .any ops listed := by
          refine mem_ready.2 ⟨?_, ops[j], ho, fun e he hb => ?_⟩
          · have : j < listed.size := hs ▸ hj
            simp [this] at hlj ⊢; exact hlj
          · have h1 := hall ho
            simp only [opOk, Bool.and_eq_true] at h1
            have h2 := (Array.all_eq_true_iff_forall_mem.1 h1.1.2) e he
            simp [hb] at h2
            exact ih e.on h2 (by omega)
        rw [hr] at hmem
        cases hmem
  intro fuel
  induction fuel with
  | zero =>
    intro listed a w hc hI
    have hl : ∀ j, j < ops.size → listed.getD j false = true := by
      intro j hj
      have hj' : j < listed.size := hI.size ▸ hj
      have := Array.count_eq_zero.1 hc
      have h2 : listed[j] ≠ false := fun e => this (e ▸ Array.getElem_mem hj')
      simp [hj']; simpa using h2
    refine ⟨?_, fin listed a w hl hI⟩
    cases hr : Region.ready .any ops listed with
    | nil => rfl
    | cons i rs =>
      have hm : i ∈ Region.ready .any ops listed := by rw [hr]; exact List.mem_cons_self
      obtain ⟨h0, o, ho, _⟩ := mem_ready.1 hm
      have hi : i < ops.size := (Array.getElem?_eq_some_iff.1 ho).1
      have h1 := hl i hi
      have hi' : i < listed.size := hI.size ▸ hi
      simp [hi'] at h0 h1
      rw [h0] at h1; cases h1
  | succ fuel ih =>
    intro listed a w hc hI
    refine ⟨fun hr => fin listed a w (noReady listed hI.size hr) hI, fun i hi => ?_⟩
    obtain ⟨h0, o, ho, hafter⟩ := mem_ready.1 hi
    have hil : i < ops.size := (Array.getElem?_eq_some_iff.1 ho).1
    have hil' : i < listed.size := hI.size ▸ hil
    have h0' : listed.getD i false = false := by simp [hil'] at h0 ⊢; exact h0
    have hopk := hall ho
    simp only [opOk, Bool.and_eq_true] at hopk
    obtain ⟨⟨⟨⟨hk1, hk2⟩, hk3⟩, hk4⟩, hk5⟩ := hopk
    have hdep2 : ∀ p ∈ D.getD i [], waits ops i p.1 = true ∧ dstOf ops p.1 = some p.2 := fun p hp => by
      have := List.all_eq_true.1 hk3 p hp
      simpa using this
    have hdeps : ∀ p ∈ D.getD i [], listed.getD p.1 false = true := fun p hp => waits_of_ready hi p.1 (hdep2 p hp).1
    have hsel : ∀ cs b, o.op ≠ .select cs b := by intro cs b e; rw [e] at hk2; cases hk2
    have hjlt : ∀ j, listed.getD j false = true → j < ops.size := fun j hj => by
      rcases Nat.lt_or_ge j listed.size with h' | h'
      · exact hI.size ▸ h'
      · simp [Array.getElem?_eq_none h'] at hj
    obtain ⟨c, hk, hc1, hc2, hc3⟩ := depsThen_at a _ (D.getD i []) a0 hI.ts.symm (fun p hp => by
      have := hI.fact p.1 (hjlt p.1 (hdeps p hp)) (hdeps p hp)
      simp only [(hdep2 p hp).2] at this
      exact this) (hobs ho w hI.ext)
    -- what the operation looks at stands in 'c' as in 'a'
    have same : ∀ s ∈ o.looksAt ops, c.tmps[s]? = a.tmps[s]? := by
      intro s hs
      refine tmps_ext hc1 ?_
      rw [hc3]
      split
      · rfl
      · rename_i hn
        refine (hI.old s fun j hj => ?_).symm
        have hjl : j < ops.size := by
          unfold dstOf at hj
          rcases Nat.lt_or_ge j ops.size with h' | h'
          · exact h'
          · rw [Array.getElem?_eq_none h'] at hj; cases hj
        have h1 := List.all_eq_true.1 (List.all_eq_true.1 hk5 s hs) j (List.mem_range.2 hjl)
        simp only [Bool.or_eq_true, bne_iff_ne, ne_eq, beq_iff_eq] at h1
        rcases h1 with ((h1 | h1) | h1) | h1
        · exact absurd hj h1
        · exfalso
          rw [List.any_eq_true] at h1
          obtain ⟨p, hp, hpj⟩ := h1
          have hd := (hdep2 p hp).2
          rw [eq_of_beq hpj, hj] at hd
          exact hn ⟨p, hp, (Option.some.inj hd).symm⟩
        · rw [h1]; exact h0'
        · cases hlj : listed.getD j false with
          | false => rfl
          | true => have := hI.down j hlj i h1; rw [h0'] at this; cases this
    have heval : execOp c.eval o = execOp a.eval o := execOp_congr o hsel fun x hx => by
      cases x with
      | tmp t =>
        have := same t (List.mem_append_left _ (List.mem_filterMap.2 ⟨.tmp t, by simpa using hx, rfl⟩))
        simp [Act.eval, this]
      | _ => rfl
    have hwant : Region.wanted o (yielded ops c.tmps) = Region.wanted o (yielded ops a.tmps) := by
      unfold Region.wanted
      cases hg : o.guard with
      | none => rfl
      | some gw =>
        obtain ⟨g, want⟩ := gw
        have hy : yielded ops c.tmps g = yielded ops a.tmps g := by
          unfold yielded
          cases ht : (ops[g]?).bind (·.dst) with
          | none => rfl
          | some t =>
            have := same t (by simp [Oper.looksAt, hg, ht])
            simp [this]
        simp only [hy]
    -- the invariant behind the operation
    have next : ∀ v w', S.rel w w' → F i (match o.dst with | some d => (c.put o.dst v).tmps.getD d undef | none => undef) w' →
        wpAny P .any ops Q fuel (listed.setIfInBounds i true) (a.put o.dst v) w' := by
      intro v w' hx hF
      have hdst : dstOf ops i = o.dst := by simp [dstOf, ho]
      refine ih _ _ _ ?_ ⟨by simpa using hI.size, by rw [put_size]; exact hI.ts, by rw [put_defers]; exact hI.df, ?_, ?_, ?_, S.trans hI.ext hx⟩
      · have hset : listed.setIfInBounds i true = listed.set i true hil' := by simp [Array.setIfInBounds, hil']
        rw [hset, Array.count_set]
        have : listed[i] = false := by simpa [hil'] using h0'
        simp [this]; omega
      · intro s hs
        have hne : o.dst ≠ some s := fun e => by
          have := hs i (hdst.trans e)
          simp [hil'] at this
        rw [put_getD_ne _ hne]
        refine hI.old s fun j hj => ?_
        by_cases hji : i = j
        · rw [← hji]; exact h0'
        · have := hs j hj
          rwa [getD_set_ne false hji] at this
      · intro j hj hlj
        by_cases hji : i = j
        · subst hji
          rw [hdst]
          cases hd : o.dst with
          | none => simp only [hd] at hF; exact hF
          | some d =>
            simp only [hd] at hF hk1
            simp only [Bool.and_eq_true, decide_eq_true_eq] at hk1
            rw [put_getD_eq _ (by rw [hc1, hI.ts]; exact hk1.1)] at hF
            show F i ((a.put (some d) v).tmps.getD d undef) w'
            rw [put_getD_eq _ (by rw [hI.ts]; exact hk1.1)]
            exact hF
        · rw [getD_set_ne false hji] at hlj
          have hfj := hst _ _ _ _ hx (hI.fact j hj hlj)
          cases hdj : dstOf ops j with
          | none => simp only [hdj] at hfj; exact hfj
          | some d =>
            simp only [hdj] at hfj
            have hne : o.dst ≠ some d := fun e => by
              rw [e] at hk1
              simp only [Bool.and_eq_true] at hk1
              have := List.all_eq_true.1 hk1.2 j (List.mem_range.2 hj)
              simp [hdj, Ne.symm hji] at this
            show F j ((a.put o.dst v).tmps.getD d undef) w'
            rw [put_getD_ne _ hne]
            exact hfj
      · intro j hlj k hw
        by_cases hji : i = j
        · subst hji; exact getD_set_true (waits_of_ready hi k hw)
        · rw [getD_set_ne false hji] at hlj
          exact getD_set_true (hI.down j hlj k hw)
    -- the operation itself
    unfold wpOp
    rw [ho]
    simp only []
    rw [← hwant]
    simp only [wpList] at hk
    split
    · rename_i hw
      rw [if_pos hw] at hk
      rcases hk with hk | ⟨_, x, y, hxy⟩
      · refine .inl ?_
        unfold Oper.wp at hk ⊢
        rw [heval] at hk
        generalize (execOp a.eval o).run P w = r at *
        cases r with
        | ok n w' =>
          cases n <;> simp only [Oper.upon] at hk ⊢
          case value u => exact next u w' hk.2.1 hk.2.2.2
          case skip => exact next undef w' hk.2.1 hk.2.2.2
          case defer d =>
            have := hk.2.2.1
            rw [put_defers] at this
            exact absurd this (by simp)
          case enter f args =>
            refine Calls.mono hk fun e w'' he => ?_
            cases e with
            | returned u => exact next u w'' he.2.1 he.2.2.2
            | panicked c => exact absurd he.1 (by simp)
            | outgrown => obtain ⟨_, _, h⟩ := he; exact absurd h.1 (by simp)
          case row row args => exact Rows.mono hk fun u w'' he => next u w'' he.2.1 he.2.2.2
        | halt x w' =>
          cases x <;> simp only [Oper.upon] at hk ⊢
          case panic u => exact absurd hk.1 (by simp)
      · exact absurd hxy.1 (by simp)
    · rename_i hw
      rw [if_neg hw] at hk
      exact next undef w hk.2.1 hk.2.2.2

/-- A fact on a value that stays true while memory only grows. -/
structure Fact where
  p : Value → World → Prop
  st : ∀ v w w', S.rel w w' → p v w → p v w'

def Fact.any : Fact S := ⟨fun _ _ => True, fun _ _ _ _ h => h⟩
def Fact.eq (u : Value) : Fact S := ⟨fun v _ => v = u, fun _ _ _ _ h => h⟩
/-- The facts of the operations in order. -/
def factAt (Fs : List (Fact S)) (i : Nat) : Value → World → Prop := (Fs.getD i (Fact.any S)).p

/-- A REGION THAT DRAWS ITS ORDER: each operation is shown once, over the facts of those that it waits for (D: for each operation their numbers and slots; E: of all). -/
theorem wp_region_facts {id : Nat} {l : List Oper} (Fs : List (Fact S)) (D : List (List (Nat × Tmp))) (E : List (Nat × Tmp)) {a0 : Act} {w0 : World} {Q : Exit → Act → World → Prop}
    (hm : P.follows .mixedOrders = true)
    (hok : (opsOk l.toArray a0.tmps.size 0 l D && endOk l.toArray E) = true)
    (hob : Obs S P l.toArray (factAt S Fs) a0 w0 0 l D)
    (hend : ∀ w, S.rel w0 w → (∀ j, j < l.toArray.size → dstOf l.toArray j = none → factAt S Fs j undef w) → depsThen (factAt S Fs) w E a0 (fun a => Q .normal a w)) :
    (Code.region id l.toArray true).wp P Q a0 w0 := by
  simp only [Bool.and_eq_true] at hok
  refine wp_region_any hm (region_any S (F := factAt S Fs) (D := D) (E := E) (w0 := w0) (by simpa using hok.1) hok.2 (fun i v w w' hx h => (Fs.getD i (Fact.any S)).st v w w' hx h) (by simpa using hob) hend _ _ _ _ ?_ ?_)
  · simp
  · have hno : ∀ j, (Array.replicate l.toArray.size false).getD j false = false := fun j => by
      simp only [Array.getD_eq_getD_getElem?, Array.getElem?_replicate]; split <;> rfl
    exact ⟨by simp, rfl, rfl, fun _ _ => rfl, fun j _ h => (by rw [hno] at h; cases h), fun j h => (by rw [hno] at h; cases h), S.drew w0⟩

theorem ob_val {F : Value → World → Prop} {ops : Array Oper} {a : Act} {w w' : World} {o : Oper} {v : Value} {d : Nat}
    (hw : Region.wanted o (yielded ops a.tmps) = true) (hr : (execOp a.eval o).run P w = .ok (.value v) w') (hx : S.rel w w') (hd : o.dst = some d) (hs : decide (d < a.tmps.size) = true) (hf : F v w') :
    wpList P ops (endQ S F o a w) [o] a w := by
  refine wpList_val hw hr (wpList_nil ⟨rfl, hx, put_defers _ _ _, ?_⟩)
  rw [hd]
  show F ((a.put (some d) v).tmps.getD d undef) w'
  rw [put_getD_eq _ (of_decide_eq_true hs)]; exact hf
theorem ob_move {F : Value → World → Prop} {ops : Array Oper} {a : Act} {w : World} {o : Oper} {x : Operand} {d : Nat}
    (hw : Region.wanted o (yielded ops a.tmps) = true) (ho : o.op = .move x) (hd : o.dst = some d) (hs : decide (d < a.tmps.size) = true) (hf : F (a.eval x) w) :
    wpList P ops (endQ S F o a w) [o] a w := ob_val S hw (by simp [execOp, ho]) (S.refl w) hd hs hf
theorem ob_assign {F : Value → World → Prop} {ops : Array Oper} {a : Act} {w : World} {o : Oper} {x : Operand} {d : Nat}
    (hw : Region.wanted o (yielded ops a.tmps) = true) (ho : o.op = .assign x) (hd : o.dst = some d) (hs : decide (d < a.tmps.size) = true) (hf : F (a.eval x) w) :
    wpList P ops (endQ S F o a w) [o] a w := ob_val S hw (by simp [execOp, ho]) (S.refl w) hd hs hf

end
end Go.Proofs.YtlhbpflcffjhmaaGreat.Rs

namespace Go.Proofs.YtlhbpflcffjhmaaGreat
open Go.RowKit

/-- Memory has grown; two blocks of the call's own hold what they held, or what they are to hold. -/
structure StB (b c : Nat) (X Y : Obj) (w w' : World) : Prop where
  os : w'.os = w.os
  tape : w'.tape = w.tape
  output : w'.output = w.output
  size : w.heap.size ≤ w'.heap.size
  block : ∀ k, k < w.heap.size → k ≠ b → k ≠ c → w'.heap[k]? = w.heap[k]?
  hb : b < w.heap.size → w'.heap[b]? = w.heap[b]? ∨ w'.heap[b]? = some X
  hc : c < w.heap.size → w'.heap[c]? = w.heap[c]? ∨ w'.heap[c]? = some Y
theorem StB.of_ext {b c : Nat} {X Y : Obj} {w w' : World} (h : Ext w w') : StB b c X Y w w' :=
  ⟨h.os, h.tape, h.output, h.size, fun k hk _ _ => h.block k hk, fun hk => .inl (h.block b hk), fun hk => .inl (h.block c hk)⟩
theorem StB.trans {b c : Nat} {X Y : Obj} {x y z : World} (h : StB b c X Y x y) (k : StB b c X Y y z) : StB b c X Y x z := by
  refine ⟨k.os.trans h.os, k.tape.trans h.tape, k.output.trans h.output, Nat.le_trans h.size k.size, fun i hi h1 h2 => (k.block i (Nat.lt_of_lt_of_le hi h.size) h1 h2).trans (h.block i hi h1 h2), fun hb => ?_, fun hc => ?_⟩
  · rcases k.hb (Nat.lt_of_lt_of_le hb h.size) with e | e
    · rw [e]; exact h.hb hb
    · exact .inr e
  · rcases k.hc (Nat.lt_of_lt_of_le hc h.size) with e | e
    · rw [e]; exact h.hc hc
    · exact .inr e
def StepB (b c : Nat) (X Y : Obj) : Rg.Step := ⟨StB b c X Y, fun w => StB.of_ext (Ext.refl w), fun h k => h.trans k, fun w => StB.of_ext (Ext.refl w).drew⟩
theorem StB.cell {b c : Nat} {X Y : Obj} {w w' : World} (h : StB b c X Y w w') {p : Addr} {v : Value} (hc : w.cell? p = some v) (h1 : p.block ≠ b) (h2 : p.block ≠ c) : w'.cell? p = some v := by
  rw [World.cell?_of_block (a := p) (h.block p.block (World.block_lt_of_cell? w p hc) h1 h2)]; exact hc
theorem StB.ext {b c : Nat} {X Y : Obj} {a w w' : World} (hx : Ext a w) (h : StB b c X Y w w') (hb : a.heap.size ≤ b) (hc : a.heap.size ≤ c) : Ext a w' :=
  ⟨h.os.trans hx.os, h.tape.trans hx.tape, h.output.trans hx.output, Nat.le_trans hx.size h.size, fun k hk => (h.block k (Nat.lt_of_lt_of_le hk hx.size) (by omega) (by omega)).trans (hx.block k hk)⟩
theorem StB.left {b c : Nat} {X Y : Obj} {w : World} {cs : Array Value} {t : TypeId} {r : Nat × Nat} {c0 : Array Value} (hg : w.heap[b]? = some (.cells c0 t r)) (hX : X = .cells cs t r) (hne : b ≠ c) : StB b c X Y w (w.setRow b cs) := by
  have h := setRow_heap w b c0 cs t r hg
  exact ⟨rfl, rfl, rfl, by simp, fun k hk h1 h2 => setRow_other w b k cs h1, fun _ => .inr (by rw [h, hX]), fun _ => .inl (setRow_other w b c cs (Ne.symm hne))⟩
theorem StB.right {b c : Nat} {X Y : Obj} {w : World} {cs : Array Value} {t : TypeId} {r : Nat × Nat} {c0 : Array Value} (hg : w.heap[c]? = some (.cells c0 t r)) (hY : Y = .cells cs t r) (hne : b ≠ c) : StB b c X Y w (w.setRow c cs) := by
  have h := setRow_heap w c c0 cs t r hg
  exact ⟨rfl, rfl, rfl, by simp, fun k hk h1 h2 => setRow_other w c k cs h2, fun _ => .inl (setRow_other w c b cs hne), fun _ => .inr (by rw [h, hY])⟩
/-- What a block of the two is: a row of its type still. -/
theorem StB.was {b c : Nat} {X Y : Obj} {w w' : World} (h : StB b c X Y w w') {t : TypeId} {c0 cs : Array Value} (hg : w.heap[b]? = some (.cells c0 t (0, 0))) (hX : X = .cells cs t (0, 0)) (hs : c0.size = cs.size) : ∃ c1 : Array Value, w'.heap[b]? = some (.cells c1 t (0, 0)) ∧ c1.size = cs.size := by
  rcases h.hb (Array.getElem?_eq_some_iff.1 hg).1 with e | e
  · exact ⟨c0, e.trans hg, hs⟩
  · exact ⟨cs, e.trans (by rw [hX]), rfl⟩
theorem StB.was2 {b c : Nat} {X Y : Obj} {w w' : World} (h : StB b c X Y w w') {t : TypeId} {c0 cs : Array Value} (hg : w.heap[c]? = some (.cells c0 t (0, 0))) (hY : Y = .cells cs t (0, 0)) (hs : c0.size = cs.size) : ∃ c1 : Array Value, w'.heap[c]? = some (.cells c1 t (0, 0)) ∧ c1.size = cs.size := by
  rcases h.hc (Array.getElem?_eq_some_iff.1 hg).1 with e | e
  · exact ⟨c0, e.trans hg, hs⟩
  · exact ⟨cs, e.trans (by rw [hY]), rfl⟩
def factL (b c : Nat) (X Y : Obj) : Rs.Fact (StepB b c X Y) := ⟨fun _ w => b < w.heap.size ∧ w.heap[b]? = some X, fun _ _ _ hx h => ⟨Nat.lt_of_lt_of_le h.1 hx.size, by rcases hx.hb h.1 with e | e; exact e.trans h.2; exact e⟩⟩
def factR (b c : Nat) (X Y : Obj) : Rs.Fact (StepB b c X Y) := ⟨fun _ w => c < w.heap.size ∧ w.heap[c]? = some Y, fun _ _ _ hx h => ⟨Nat.lt_of_lt_of_le h.1 hx.size, by rcases hx.hc h.1 with e | e; exact e.trans h.2; exact e⟩⟩

/-- A region's store into the one block, into the other. -/
theorem ob_left {P : Program} {ops : Array Oper} {F : Value → World → Prop} {a : Act} {w w0 : World} {o : Oper} {b c : Nat} {X Y : Obj} (ty : TypeId) (x y : Operand) (cs c0 : Array Value) (t : TypeId)
    (ho : o.op = .store ty x y) (hw : Region.wanted o (yielded ops a.tmps) = true) (hd : o.dst = none) (hx : a.eval x = .pointer (some ⟨b, 0, none⟩)) (hy : a.eval y = .agg cs) (hX : X = .cells cs t (0, 0))
    (hr : StB b c X Y w0 w) (hg : w0.heap[b]? = some (.cells c0 t (0, 0))) (hs : c0.size = cs.size) (hi : (P.info? ty).map (·.size) = some cs.size) (h1 : ∀ v ∈ cs.toList, v.oneCell' = true) (hne : b ≠ c)
    (hF : ∀ w', b < w'.heap.size → w'.heap[b]? = some X → F undef w') : wpList P ops (Rs.endQ (StepB b c X Y) F o a w) [o] a w := by
  obtain ⟨c1, hg1, hs1⟩ := hr.was hg hX hs
  refine wpList_store_whole ty x y ho hw b hx cs hy c1 t hg1 hs1 hi h1 (wpList_nil ⟨rfl, StB.left hg1 hX hne, put_defers _ _ _, ?_⟩)
  rw [hd]
  refine hF _ ?_ ?_
  · have := (Array.getElem?_eq_some_iff.1 hg1).1
    simpa using this
  · rw [setRow_heap w b c1 cs t (0, 0) hg1, hX]
theorem ob_right {P : Program} {ops : Array Oper} {F : Value → World → Prop} {a : Act} {w w0 : World} {o : Oper} {b c : Nat} {X Y : Obj} (ty : TypeId) (x y : Operand) (cs c0 : Array Value) (t : TypeId)
    (ho : o.op = .store ty x y) (hw : Region.wanted o (yielded ops a.tmps) = true) (hd : o.dst = none) (hx : a.eval x = .pointer (some ⟨c, 0, none⟩)) (hy : a.eval y = .agg cs) (hY : Y = .cells cs t (0, 0))
    (hr : StB b c X Y w0 w) (hg : w0.heap[c]? = some (.cells c0 t (0, 0))) (hs : c0.size = cs.size) (hi : (P.info? ty).map (·.size) = some cs.size) (h1 : ∀ v ∈ cs.toList, v.oneCell' = true) (hne : b ≠ c)
    (hF : ∀ w', c < w'.heap.size → w'.heap[c]? = some Y → F undef w') : wpList P ops (Rs.endQ (StepB b c X Y) F o a w) [o] a w := by
  obtain ⟨c1, hg1, hs1⟩ := hr.was2 hg hY hs
  refine wpList_store_whole ty x y ho hw c hx cs hy c1 t hg1 hs1 hi h1 (wpList_nil ⟨rfl, StB.right hg1 hY hne, put_defers _ _ _, ?_⟩)
  rw [hd]
  refine hF _ ?_ ?_
  · have := (Array.getElem?_eq_some_iff.1 hg1).1
    simpa using this
  · rw [setRow_heap w c c1 cs t (0, 0) hg1, hY]
end Go.Proofs.YtlhbpflcffjhmaaGreat
