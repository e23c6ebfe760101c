/- What stays of what stays; what is appended behind. Plain laws. -/
import Derived.Test.YtlgopjfnknjgjaaD4
namespace Go.Proofs.Ytlgopjfnknjgjaa

theorem gI_iff (us : List IT) (i : Nat) : goesF (us.map nkOf) i = true ↔ ∃ x, us[i]? = some x ∧ x.key ≠ [] ∧ ∃ (k : Nat) (y : IT), us[k]? = some y ∧ (x.n < y.n ∨ (y.n = x.n ∧ i < k)) ∧ y.key = x.key := by
  rw [goes_same]
  unfold goesR
  rw [List.getElem?_map]
  cases hx : us[i]? with
  | none => simp
  | some x =>
    simp only [Option.map_some, Bool.and_eq_true, List.any_eq_true]
    constructor
    · rintro ⟨h1, k, _, hk⟩
      rw [List.getElem?_map] at hk
      cases hy : us[k]? with
      | none => rw [hy] at hk; cases hk
      | some y =>
        rw [hy] at hk
        simp only [Option.map_some, nkOf, Bool.or_eq_true, Bool.and_eq_true, decide_eq_true_eq] at hk
        refine ⟨x, rfl, fun h => ?_, k, y, hy, hk.1.imp of_decide_eq_true (fun h => ⟨of_decide_eq_true h.1, h.2⟩), of_decide_eq_true hk.2⟩
        simp only [nkOf, h] at h1
        cases h1
    · rintro ⟨x', e, h1, k, y, hy, h2, h3⟩
      cases e
      refine ⟨?_, k, List.mem_range.2 ?_, ?_⟩
      · simp only [nkOf]
        cases h : x.key with
        | nil => exact absurd h h1
        | cons _ _ => rfl
      · rw [List.length_map]; exact (List.getElem?_eq_some_iff.1 hy).1
      · rw [List.getElem?_map, hy]
        simp only [Option.map_some, nkOf, Bool.or_eq_true, Bool.and_eq_true, decide_eq_true_eq]
        exact ⟨h2.imp decide_eq_true (fun h => ⟨decide_eq_true h.1, h.2⟩), decide_eq_true h3⟩
/-- The places that are picked, rising. -/
def spots {α : Type} (p : Nat → Bool) (l : List α) : List Nat := (List.range l.length).filter p
theorem spots_map {α : Type} [Inhabited α] (p : Nat → Bool) (l : List α) : pickF p l = (spots p l).map fun i => l[i]! := by
  unfold pickF spots
  have : ∀ r : List Nat, (∀ i ∈ r, i < l.length) → r.filterMap (fun i => l[i]?) = r.map fun i => l[i]! := by
    intro r
    induction r with
    | nil => intro _; rfl
    | cons i r ih =>
      intro h
      have hi := h i (List.mem_cons_self ..)
      rw [List.filterMap_cons, List.getElem?_eq_getElem hi, List.map_cons, ih fun j hj => h j (List.mem_cons_of_mem _ hj), getElem!_pos l i hi]
  exact this _ fun i hi => List.mem_range.1 (List.mem_filter.1 hi).1
theorem spots_lt {α : Type} (p : Nat → Bool) (l : List α) : (spots p l).Pairwise (· < ·) := List.Pairwise.filter _ List.pairwise_lt_range
instance : Inhabited IT := ⟨⟨0, 0, [], .slice none 0 0⟩⟩
/-- What is picked, at a place: where it stood. -/
theorem pick_at {p : Nat → Bool} {l : List IT} {a : Nat} {x : IT} (h : (pickF p l)[a]? = some x) : ∃ i, (spots p l)[a]? = some i ∧ l[i]? = some x ∧ p i = true := by
  rw [spots_map, List.getElem?_map] at h
  cases hs : (spots p l)[a]? with
  | none => rw [hs] at h; cases h
  | some i =>
    rw [hs] at h
    have hm := List.mem_of_getElem? hs
    have hi := List.mem_range.1 (List.mem_filter.1 hm).1
    simp only [Option.map_some, Option.some.injEq] at h
    rw [getElem!_pos l i hi] at h
    exact ⟨i, rfl, by rw [List.getElem?_eq_getElem hi, h], (List.mem_filter.1 hm).2⟩
theorem spots_mono {α : Type} {p : Nat → Bool} {l : List α} {a b i j : Nat} (ha : (spots p l)[a]? = some i) (hb : (spots p l)[b]? = some j) (h : a < b) : i < j := by
  obtain ⟨la, ea⟩ := List.getElem?_eq_some_iff.1 ha
  obtain ⟨lb, eb⟩ := List.getElem?_eq_some_iff.1 hb
  rw [← ea, ← eb]
  exact List.pairwise_iff_getElem.1 (spots_lt p l) a b la lb h
/-- Of what stays none goes. -/
theorem stays_none (us : List IT) (i : Nat) : goesF ((staysI us).map nkOf) i = false := by
  cases h : goesF ((staysI us).map nkOf) i with
  | false => rfl
  | true =>
    obtain ⟨x, hx, hk, k, y, hy, hc, he⟩ := (gI_iff _ _).1 h
    obtain ⟨a, ha, hla, hpa⟩ := pick_at hx
    obtain ⟨b, hb, hlb, _⟩ := pick_at hy
    have : goesF (us.map nkOf) a = true := (gI_iff _ _).2 ⟨x, hla, hk, b, y, hlb, hc.imp id fun h => ⟨h.1, spots_mono ha hb h.2⟩, he⟩
    rw [this] at hpa
    cases hpa
theorem pick_none {α : Type} {p : Nat → Bool} {l : List α} (h : ∀ i, p i = false) : pickF p l = [] := by
  unfold pickF
  rw [List.filter_eq_nil_iff.2 fun i _ => by rw [h i]; exact Bool.false_ne_true]
  rfl
theorem pick_every {p : Nat → Bool} {l : List IT} (h : ∀ i, p i = true) : pickF p l = l := by
  rw [spots_map]
  unfold spots
  rw [List.filter_eq_self.2 fun i _ => h i]
  refine List.ext_getElem (by simp) fun i h1 h2 => ?_
  rw [List.getElem_map, List.getElem_range, getElem!_pos l i h2]
theorem doubles_stays (us : List IT) : doublesF ((staysI us).map nkOf) = [] := by
  unfold doublesF; rw [pick_none fun i => stays_none us i]; rfl
theorem stays_stays (us : List IT) : staysI (staysI us) = staysI us := by
  show pickF _ _ = _
  exact pick_every fun i => by rw [stays_none]; rfl

/-! Appended behind. -/
/-- An item whose key stands among the newer ones. -/
def newer (it : List IT) (x : IT) : Bool := !x.key.isEmpty && it.any fun y => decide (y.key = x.key)
theorem goes_front {q it : List IT} (hn : ∀ x ∈ q, ∀ y ∈ it, x.n < y.n) {i : Nat} (hi : i < q.length) : goesF ((q ++ it).map nkOf) i = (goesF (q.map nkOf) i || newer it q[i]) := by
  rw [Bool.eq_iff_iff, Bool.or_eq_true, gI_iff, gI_iff]
  have hq : (q ++ it)[i]? = some q[i] := by rw [List.getElem?_append_left hi, List.getElem?_eq_getElem hi]
  constructor
  · rintro ⟨x, hx, hk, k, y, hy, hc, he⟩
    rw [hq] at hx
    cases hx
    by_cases hkq : k < q.length
    · rw [List.getElem?_append_left hkq] at hy
      exact .inl ⟨_, List.getElem?_eq_getElem hi, hk, k, y, hy, hc, he⟩
    · rw [List.getElem?_append_right (by omega)] at hy
      right
      unfold newer
      rw [Bool.and_eq_true, List.any_eq_true]
      refine ⟨?_, y, List.mem_of_getElem? hy, decide_eq_true he⟩
      cases h : q[i].key with
      | nil => exact absurd h hk
      | cons _ _ => rfl
  · rintro (⟨x, hx, hk, k, y, hy, hc, he⟩ | h)
    · rw [List.getElem?_eq_getElem hi] at hx
      cases hx
      refine ⟨_, hq, hk, k, y, ?_, hc, he⟩
      rw [List.getElem?_append_left (List.getElem?_eq_some_iff.1 hy).1]
      exact hy
    · unfold newer at h
      rw [Bool.and_eq_true, List.any_eq_true] at h
      obtain ⟨h1, y, hy, he⟩ := h
      obtain ⟨j, hj, ej⟩ := List.getElem_of_mem hy
      refine ⟨_, hq, (fun e => by rw [e] at h1; cases h1), q.length + j, y, ?_, .inl (hn _ (List.getElem_mem hi) _ hy), of_decide_eq_true he⟩
      rw [List.getElem?_append_right (by omega), Nat.add_sub_cancel_left, List.getElem?_eq_getElem hj, ej]
theorem goes_back {q it : List IT} (hn : ∀ x ∈ q, ∀ y ∈ it, x.n < y.n) (j : Nat) : goesF ((q ++ it).map nkOf) (q.length + j) = goesF (it.map nkOf) j := by
  rw [Bool.eq_iff_iff, gI_iff, gI_iff]
  have hq : ∀ j, (q ++ it)[q.length + j]? = it[j]? := fun j => by rw [List.getElem?_append_right (by omega), Nat.add_sub_cancel_left]
  constructor
  · rintro ⟨x, hx, hk, k, y, hy, hc, he⟩
    rw [hq] at hx
    by_cases hkq : k < q.length
    · rw [List.getElem?_append_left hkq] at hy
      have := hn y (List.mem_of_getElem? hy) x (List.mem_of_getElem? hx)
      omega
    · obtain ⟨k', rfl⟩ : ∃ k', k = q.length + k' := ⟨k - q.length, by omega⟩
      rw [hq] at hy
      exact ⟨x, hx, hk, k', y, hy, hc.imp id fun h => ⟨h.1, by omega⟩, he⟩
  · rintro ⟨x, hx, hk, k, y, hy, hc, he⟩
    exact ⟨x, (hq j).trans hx, hk, q.length + k, y, (hq k).trans hy, hc.imp id fun h => ⟨h.1, by omega⟩, he⟩
theorem filterMap_same {α β : Type} {f g : α → Option β} : ∀ {l : List α}, (∀ x ∈ l, f x = g x) → l.filterMap f = l.filterMap g
  | [], _ => rfl
  | x :: l, h => by
    rw [List.filterMap_cons, List.filterMap_cons, h x (List.mem_cons_self ..), filterMap_same fun y hy => h y (List.mem_cons_of_mem _ hy)]
/-- Picked of two rows, one behind the other. -/
theorem pick_append {α : Type} (p : Nat → Bool) (l m : List α) : pickF p (l ++ m) = pickF p l ++ pickF (fun j => p (l.length + j)) m := by
  unfold pickF
  rw [List.length_append, List.range_add, List.filter_append, List.filterMap_append]
  congr 1
  · refine filterMap_same fun i hi => ?_
    rw [List.getElem?_append_left (List.mem_range.1 (List.mem_filter.1 hi).1)]
  · rw [List.filter_map, List.filterMap_map]
    refine filterMap_same fun i _ => ?_
    show (l ++ m)[l.length + i]? = _
    rw [List.getElem?_append_right (by omega), Nat.add_sub_cancel_left]
theorem pick_congr {p r : Nat → Bool} {l : List IT} (h : ∀ i, i < l.length → p i = r i) : pickF p l = pickF r l := pickK_congr h
theorem pick_filter (p : Nat → Bool) (f : IT → Bool) (l : List IT) : pickF (fun i => p i && f l[i]!) l = (pickF p l).filter f := by
  rw [spots_map, spots_map, List.filter_map]
  congr 1
  unfold spots
  rw [List.filter_filter]
  refine List.filter_congr fun i _ => ?_
  rw [Bool.and_comm]; rfl
theorem stays_append {q it : List IT} (hn : ∀ x ∈ q, ∀ y ∈ it, x.n < y.n) : staysI (q ++ it) = (staysI q).filter (fun x => !newer it x) ++ staysI it := by
  show pickF _ _ = (pickF _ _).filter _ ++ pickF _ _
  rw [pick_append]
  congr 1
  · rw [← pick_filter]
    exact pick_congr fun i hi => by rw [goes_front hn hi, getElem!_pos q i hi, Bool.not_or]
  · exact pick_congr fun j _ => by rw [goes_back hn]
/-- Compacting what stayed and what came behind is compacting all. -/
theorem stays_twice {q it : List IT} (hn : ∀ x ∈ q, ∀ y ∈ it, x.n < y.n) : staysI (staysI q ++ it) = staysI (q ++ it) := by
  rw [stays_append hn, stays_append (q := staysI q) (fun x hx => hn x (pickK_mem hx)), stays_stays]

/-! What goes goes again. -/
theorem insN_sub (x : Nat) : ∀ {b a : List Nat}, b.Pairwise (· ≤ ·) → a.Sublist b → (insN x a).Sublist (insN x b)
  | [], a, _, h => by
    cases h; exact List.Sublist.refl _
  | y :: r, a, hb, h => by
    rw [List.pairwise_cons] at hb
    cases h with
    | cons _ h =>
      by_cases hy : y ≤ x
      · show (insN x a).Sublist (if y ≤ x then y :: insN x r else x :: y :: r)
        rw [if_pos hy]
        exact (insN_sub x hb.2 h).cons y
      · show (insN x a).Sublist (if y ≤ x then y :: insN x r else x :: y :: r)
        rw [if_neg hy]
        have e : insN x a = x :: a := by
          cases a with
          | nil => rfl
          | cons z a =>
            have := hb.1 z (h.subset (List.mem_cons_self ..))
            unfold insN
            rw [if_neg (by omega)]
        rw [e]
        exact (h.cons y).cons_cons x
    | cons_cons _ h =>
      rename_i a
      show (if y ≤ x then y :: insN x a else x :: y :: a).Sublist (if y ≤ x then y :: insN x r else x :: y :: r)
      by_cases hy : y ≤ x
      · rw [if_pos hy, if_pos hy]; exact (insN_sub x hb.2 h).cons_cons y
      · rw [if_neg hy, if_neg hy]; exact (h.cons_cons y).cons_cons x
theorem insN_skip (x : Nat) : ∀ b : List Nat, b.Sublist (insN x b)
  | [] => List.nil_sublist _
  | y :: r => by
    unfold insN
    split
    · exact (insN_skip x r).cons_cons y
    · exact (List.Sublist.refl _).cons x
def sortR (l : List Nat) : List Nat := l.foldr insN []
theorem sortR_law (l : List Nat) : (sortR l).Perm l ∧ (sortR l).Pairwise (· ≤ ·) := by
  induction l with
  | nil => exact ⟨List.Perm.refl _, List.Pairwise.nil⟩
  | cons x l ih => exact ⟨(insN_perm x _).trans (ih.1.cons x), insN_sorted x _ ih.2⟩
theorem sortR_eq (l : List Nat) : sortR l = sortN l := sorted_sortN (sortR_law l).1 (sortR_law l).2
theorem sort_sub {a b : List Nat} (h : a.Sublist b) : (sortN a).Sublist (sortN b) := by
  rw [← sortR_eq, ← sortR_eq]
  induction h with
  | slnil => exact List.Sublist.refl _
  | cons x _ ih => exact ih.trans (insN_skip x _)
  | cons_cons x _ ih => exact insN_sub x (sortR_law _).2 ih
theorem pick_sub {α : Type} {p r : Nat → Bool} {l : List α} (h : ∀ i, i < l.length → p i = true → r i = true) : (pickF p l).Sublist (pickF r l) := by
  unfold pickF
  refine List.Sublist.filterMap _ ?_
  have : (List.range l.length).filter p = ((List.range l.length).filter r).filter p := by
    rw [List.filter_filter]
    refine List.filter_congr fun i hi => ?_
    cases hp : p i with
    | false => rfl
    | true => rw [h i (List.mem_range.1 hi) hp]; rfl
  rw [this]
  exact List.filter_sublist
theorem doubles_sub {q it : List IT} (hn : ∀ x ∈ q, ∀ y ∈ it, x.n < y.n) : (doublesF (q.map nkOf)).Sublist (doublesF ((q ++ it).map nkOf)) := by
  unfold doublesF
  refine sort_sub (List.Sublist.map _ ?_)
  rw [List.map_append, pick_append]
  refine List.Sublist.trans (pick_sub fun i hi h => ?_) (List.sublist_append_left _ _)
  rw [List.length_map] at hi
  rw [← List.map_append, goes_front hn hi, h]; rfl

/-! A row within a row, sought from the left. -/
def seekF : List Nat → Nat → List Nat → Nat
  | _, j, [] => j
  | d, j, y :: r => seekF d (if d[j]? = some y then j + 1 else j) r
theorem seekF_snoc (d : List Nat) : ∀ (l : List Nat) (j y : Nat), seekF d j (l ++ [y]) = if d[seekF d j l]? = some y then seekF d j l + 1 else seekF d j l
  | [], _, _ => rfl
  | _ :: l, _, y => seekF_snoc d l _ y
theorem seekF_le (d : List Nat) : ∀ (l : List Nat) (j : Nat), j ≤ d.length → seekF d j l ≤ d.length
  | [], _, h => h
  | y :: l, j, h => by
    refine seekF_le d l _ ?_
    split
    · rename_i e
      exact (List.getElem?_eq_some_iff.1 e).1
    · exact h
theorem seekF_all (d : List Nat) : ∀ (l : List Nat) (j : Nat), j ≤ d.length → (d.drop j).Sublist l → seekF d j l = d.length
  | [], j, hj, h => by
    have := List.eq_nil_of_length_eq_zero (Nat.le_zero.1 h.length_le)
    have : d.length - j = 0 := by rw [← List.length_drop, this]; rfl
    show j = d.length
    omega
  | y :: l, j, hj, h => by
    show seekF d (if d[j]? = some y then j + 1 else j) l = _
    by_cases e : d[j]? = some y
    · rw [if_pos e]
      obtain ⟨hjl, ej⟩ := List.getElem?_eq_some_iff.1 e
      refine seekF_all d l (j + 1) hjl ?_
      rw [List.drop_eq_getElem_cons hjl] at h
      exact List.Sublist.trans (List.Sublist.refl _) (by
        cases h with
        | cons _ h => exact (List.sublist_cons_self _ _).trans h
        | cons_cons _ h => exact h)
    · rw [if_neg e]
      refine seekF_all d l j hj ?_
      by_cases hjl : j < d.length
      · rw [List.drop_eq_getElem_cons hjl] at h ⊢
        cases h with
        | cons _ h => exact h
        | cons_cons _ h => exact absurd (List.getElem?_eq_getElem hjl) e
      · rw [List.drop_eq_nil_of_le (by omega)]; exact List.nil_sublist _
end Go.Proofs.Ytlgopjfnknjgjaa
