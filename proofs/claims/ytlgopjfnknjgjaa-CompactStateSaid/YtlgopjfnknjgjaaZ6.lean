/- What everybody knows behind items, and behind what stays of them. Plain laws. -/
import Derived.Test.YtlgopjfnknjgjaaZ4
namespace Go.Proofs.Ytlgopjfnknjgjaa
open Go.RowKit

/-- Of each key: its place and its number, as the statement's walk gathers them. -/
structure StOf (l : List NK) (T : List (List UInt8 × Nat × Nat)) : Prop where
  nd : (T.map (·.1)).Nodup
  sound : ∀ t ∈ T, t.1 ≠ [] ∧ lastF l t.1 = some t.2
  full : ∀ k m n, k ≠ [] → lastF l k = some (m, n) → (k, m, n) ∈ T
theorem st_nil : StOf [] [] := ⟨List.Pairwise.nil, (fun _ h => by cases h), (fun k m n _ h => by cases h)⟩
theorem st_skip {l : List NK} {T : List (List UInt8 × Nat × Nat)} {x : NK} (h : StOf l T) (hx : x.2 = []) : StOf (l ++ [x]) T :=
  ⟨h.nd, fun t ht => ⟨(h.sound t ht).1, by rw [lastF_snoc, if_neg (fun e => (h.sound t ht).1 (e.symm.trans hx))]; exact (h.sound t ht).2⟩,
    fun k m n hk hl => h.full k m n hk (by rwa [lastF_snoc, if_neg (fun e => hk (e.symm.trans hx))] at hl)⟩
theorem st_none {l : List NK} {T : List (List UInt8 × Nat × Nat)} {k : List UInt8} (h : StOf l T) (hk : k ≠ []) (hn : ∀ t ∈ T, t.1 ≠ k) : lastF l k = none := by
  cases hl : lastF l k with
  | none => rfl
  | some p => exact absurd rfl (hn _ (h.full k p.1 p.2 hk hl))
theorem st_new {l : List NK} {T : List (List UInt8 × Nat × Nat)} {x : NK} (h : StOf l T) (hx : x.2 ≠ []) (hn : ∀ t ∈ T, t.1 ≠ x.2) : StOf (l ++ [x]) (T ++ [(x.2, l.length, x.1)]) := by
  have hl := st_none h hx hn
  refine ⟨?_, fun t ht => ?_, fun k m n hk hm => ?_⟩
  · rw [List.map_append, List.nodup_append]
    refine ⟨h.nd, by simp, fun a ha b hb e => ?_⟩
    obtain ⟨t, ht, rfl⟩ := List.mem_map.1 ha
    simp only [List.map_cons, List.map_nil, List.mem_singleton] at hb
    exact hn t ht (e.trans hb)
  · rcases List.mem_append.1 ht with ht | ht
    · exact ⟨(h.sound t ht).1, by rw [lastF_snoc, if_neg (fun e => hn t ht e.symm)]; exact (h.sound t ht).2⟩
    · rw [List.mem_singleton] at ht; subst ht
      exact ⟨hx, by rw [lastF_snoc, if_pos rfl, hl]⟩
  · rw [lastF_snoc] at hm
    by_cases e : x.2 = k
    · subst e
      rw [if_pos rfl, hl] at hm
      simp only [Option.some.injEq, Prod.mk.injEq] at hm
      obtain ⟨rfl, rfl⟩ := hm
      exact List.mem_append_right _ (List.mem_singleton.2 rfl)
    · rw [if_neg e] at hm
      exact List.mem_append_left _ (h.full k m n hk hm)
theorem st_keep {l : List NK} {T : List (List UInt8 × Nat × Nat)} {x : NK} {m n : Nat} (h : StOf l T) (hl : lastF l x.2 = some (m, n)) (hgt : ¬ n ≤ x.1) : StOf (l ++ [x]) T := by
  have e : ∀ k, lastF (l ++ [x]) k = lastF l k := fun k => by
    rw [lastF_snoc]
    by_cases e : x.2 = k
    · subst e; rw [if_pos rfl, hl]
      show (if n ≤ x.1 then some (l.length, x.1) else some (m, n)) = _
      rw [if_neg hgt]
    · rw [if_neg e]
  exact ⟨h.nd, fun t ht => by rw [e]; exact h.sound t ht, fun k m n hk hm => h.full k m n hk (by rwa [e] at hm)⟩
theorem st_set {l : List NK} {T : List (List UInt8 × Nat × Nat)} {x : NK} {m n j : Nat} (h : StOf l T) (hj : T[j]? = some (x.2, m, n)) (hle : n ≤ x.1) : StOf (l ++ [x]) (T.set j (x.2, l.length, x.1)) := by
  obtain ⟨hjl, ej⟩ := List.getElem?_eq_some_iff.1 hj
  have hs := h.sound _ (List.mem_of_getElem? hj)
  have hkeys : (T.set j (x.2, l.length, x.1)).map (·.1) = T.map (·.1) := by
    rw [List.map_set]
    refine List.ext_getElem? fun i => ?_
    rw [List.getElem?_set]
    split
    · rename_i e; subst e
      rw [if_pos (by rw [List.length_map]; exact hjl), List.getElem?_map, hj]; rfl
    · rfl
  have hl2 : lastF (l ++ [x]) x.2 = some (l.length, x.1) := by
    rw [lastF_snoc, if_pos rfl, hs.2]
    show (if n ≤ x.1 then some (l.length, x.1) else some (m, n)) = _
    rw [if_pos hle]
  have huniq : ∀ i t, T[i]? = some t → t.1 = x.2 → i = j := fun i t hi ht => by
    obtain ⟨hil, ei⟩ := List.getElem?_eq_some_iff.1 hi
    refine (List.getElem_inj (xs := T.map (·.1)) (h₀ := by simpa using hil) (h₁ := by simpa using hjl) h.nd).1 ?_
    rw [List.getElem_map, List.getElem_map, ei, ej, ht]
  refine ⟨by rw [hkeys]; exact h.nd, fun t ht => ?_, fun k m' n' hk hm => ?_⟩
  · obtain ⟨i, hil, rfl⟩ := List.getElem_of_mem ht
    rw [List.length_set] at hil
    rw [List.getElem_set]
    split
    · exact ⟨hs.1, hl2⟩
    · rename_i hne
      have hs2 := h.sound T[i] (List.getElem_mem hil)
      refine ⟨hs2.1, ?_⟩
      rw [lastF_snoc, if_neg (fun e => hne (huniq i _ (List.getElem?_eq_getElem hil) e.symm).symm)]
      exact hs2.2
  · by_cases e : x.2 = k
    · subst e
      rw [hl2] at hm
      simp only [Option.some.injEq, Prod.mk.injEq] at hm
      obtain ⟨rfl, rfl⟩ := hm
      exact List.mem_iff_getElem?.2 ⟨j, by rw [List.getElem?_set_self hjl]⟩
    · rw [lastF_snoc, if_neg e] at hm
      obtain ⟨i, hi⟩ := List.mem_iff_getElem?.1 (h.full k m' n' hk hm)
      refine List.mem_iff_getElem?.2 ⟨i, ?_⟩
      rw [List.getElem?_set_ne (fun e2 => e ?_)]
      · exact hi
      · subst e2
        rw [hj] at hi
        simp only [Option.some.injEq, Prod.mk.injEq] at hi
        exact hi.1

/-! What stays. -/
theorem pick_of {p : Nat → Bool} {l : List IT} {i : Nat} {x : IT} (hx : l[i]? = some x) (hp : p i = true) : x ∈ pickF p l := by
  unfold pickF
  exact List.mem_filterMap.2 ⟨i, List.mem_filter.2 ⟨List.mem_range.2 (List.getElem?_eq_some_iff.1 hx).1, hp⟩, hx⟩
theorem nkz_at {l : List IT} {i : Nat} {p : NK} (h : (l.map nkOf)[i]? = some p) : ∃ x, l[i]? = some x ∧ nkOf x = p := by
  rw [List.getElem?_map] at h
  cases hx : l[i]? with
  | none => rw [hx] at h; cases h
  | some x => rw [hx] at h; exact ⟨x, rfl, by simpa using h⟩
theorem stay_place {q : List IT} {i m n : Nat} {x : IT} (hx : q[i]? = some x) (hk : x.key ≠ []) (hl : lastF (q.map nkOf) x.key = some (m, n)) : (goesF (q.map nkOf) i = false ↔ i = m) := by
  unfold goesF
  rw [List.getElem?_map, hx]
  simp only [Option.map_some, nkOf, hl]
  have : x.key.isEmpty = false := by cases h : x.key with | nil => exact absurd h hk | cons _ _ => rfl
  rw [this]
  simp only [Bool.not_false, Bool.true_and, decide_eq_false_iff_not]
  constructor
  · intro h
    have := Classical.not_not.1 h
    exact (Option.some.inj this).symm
  · rintro rfl h; exact h rfl
/-- Of each key the newest number is told by what stays. -/
theorem stay_last {q : List IT} {k : List UInt8} {m n : Nat} (hk : k ≠ []) (hl : lastF (q.map nkOf) k = some (m, n)) : ∃ m', lastF ((staysI q).map nkOf) k = some (m', n) := by
  rcases lastF_law (q.map nkOf) k with ⟨e, _⟩ | ⟨m1, n1, e, hb⟩
  · rw [e] at hl; cases hl
  rw [hl] at e
  simp only [Option.some.injEq, Prod.mk.injEq] at e
  obtain ⟨rfl, rfl⟩ := e
  obtain ⟨x, hx, hnk⟩ := nkz_at hb.at_
  simp only [nkOf, Prod.mk.injEq] at hnk
  obtain ⟨hn, rfl⟩ := hnk
  have hst : x ∈ staysI q := pick_of hx (by rw [(stay_place hx hk hl).2 rfl]; rfl)
  rcases lastF_law ((staysI q).map nkOf) x.key with ⟨_, hno⟩ | ⟨m2, n2, e2, hb2⟩
  · obtain ⟨j, hj⟩ := List.mem_iff_getElem?.1 hst
    exact absurd (by rw [List.getElem?_map, hj]; rfl) (hno j x.n)
  · refine ⟨m2, ?_⟩
    obtain ⟨y, hy, hyk⟩ := nkz_at hb2.at_
    simp only [nkOf, Prod.mk.injEq] at hyk
    obtain ⟨i, _, hi, hp⟩ := pick_at hy
    have hi2 : i = m := (stay_place hi (by rw [hyk.2]; exact hk) (by rw [hyk.2]; exact hl)).1 (by simpa using hp)
    subst hi2
    rw [hx] at hi
    cases hi
    rw [e2, ← hyk.1, hn]
theorem stay_some {q : List IT} {k : List UInt8} {m n : Nat} (hl : lastF ((staysI q).map nkOf) k = some (m, n)) : ∃ m', ∃ n', lastF (q.map nkOf) k = some (m', n') := by
  rcases lastF_law ((staysI q).map nkOf) k with ⟨e, _⟩ | ⟨m1, n1, e, hb⟩
  · rw [e] at hl; cases hl
  obtain ⟨y, hy, hyk⟩ := nkz_at hb.at_
  simp only [nkOf, Prod.mk.injEq] at hyk
  obtain ⟨i, _, hi, _⟩ := pick_at hy
  rcases lastF_law (q.map nkOf) k with ⟨_, hno⟩ | ⟨m2, n2, e2, _⟩
  · exact absurd (by rw [List.getElem?_map, hi]; simp [nkOf, hyk.2]) (hno i y.n)
  · exact ⟨m2, n2, e2⟩
theorem state_keeps {q : List IT} {T T' : List (List UInt8 × Nat × Nat)} (h : StOf (q.map nkOf) T) (h' : StOf ((staysI q).map nkOf) T') : ∀ t ∈ T, ∃ m', (t.1, m', t.2.2) ∈ T' := fun t ht => by
  obtain ⟨h1, h2⟩ := h.sound t ht
  obtain ⟨m', hm'⟩ := stay_last h1 h2
  exact ⟨m', h'.full _ _ _ h1 hm'⟩
theorem mem_key {T : List (List UInt8 × Nat × Nat)} {k : List UInt8} : k ∈ T.map (·.1) ↔ ∃ t ∈ T, t.1 = k := List.mem_map
theorem state_same_len {q : List IT} {T T' : List (List UInt8 × Nat × Nat)} (h : StOf (q.map nkOf) T) (h' : StOf ((staysI q).map nkOf) T') : T.length = T'.length := by
  have : (T.map (·.1)).Perm (T'.map (·.1)) := by
    rw [List.perm_ext_iff_of_nodup h.nd h'.nd]
    intro k
    constructor
    · intro hk
      obtain ⟨t, ht, rfl⟩ := mem_key.1 hk
      obtain ⟨m', hm'⟩ := state_keeps h h' t ht
      exact mem_key.2 ⟨_, hm', rfl⟩
    · intro hk
      obtain ⟨t, ht, rfl⟩ := mem_key.1 hk
      obtain ⟨h1, h2⟩ := h'.sound t ht
      obtain ⟨m', n', h3⟩ := stay_some h2
      exact mem_key.2 ⟨_, h.full _ _ _ h1 h3, rfl⟩
  simpa using this.length_eq
/-- Of what stays no two have one key. -/
theorem stays_once {q : List IT} {i j : Nat} {x y : IT} (hi : (staysI q)[i]? = some x) (hj : (staysI q)[j]? = some y) (hk : x.key ≠ []) (e : x.key = y.key) : i = j := by
  obtain ⟨a, ha, hla, hpa⟩ := pick_at hi
  obtain ⟨b, hb, hlb, hpb⟩ := pick_at hj
  rcases lastF_law (q.map nkOf) x.key with ⟨_, hno⟩ | ⟨m, n, hl, _⟩
  · exact absurd (by rw [List.getElem?_map, hla]; rfl) (hno a x.n)
  · have h1 : a = m := (stay_place hla hk hl).1 (by simpa using hpa)
    have h2 : b = m := (stay_place hlb (by rw [← e]; exact hk) (by rw [← e]; exact hl)).1 (by simpa using hpb)
    subst h1
    subst h2
    rcases Nat.lt_trichotomy i j with h | h | h
    · exact absurd (spots_mono ha hb h) (Nat.lt_irrefl _)
    · exact h
    · exact absurd (spots_mono hb ha h) (Nat.lt_irrefl _)
def keyOfI (x : IT) : List UInt8 := x.key
/-- The keys that are told, in order. -/
def keysI (l : List IT) : List (List UInt8) := (l.filter fun x => !x.key.isEmpty).map keyOfI
def bareI (l : List IT) : Nat := (l.filter fun x => x.key.isEmpty).length
theorem keysI_yes {l : List IT} {k : Nat} (hk : k < l.length) (h : l[k].key ≠ []) : keysI (l.take (k + 1)) = keysI (l.take k) ++ [l[k].key] := by
  unfold keysI
  rw [List.take_succ_eq_append_getElem hk, List.filter_append, List.map_append, List.filter_cons_of_pos (by cases e : l[k].key with | nil => exact absurd e h | cons _ _ => rfl)]
  rfl
theorem keysI_no {l : List IT} {k : Nat} (hk : k < l.length) (h : l[k].key = []) : keysI (l.take (k + 1)) = keysI (l.take k) := by
  unfold keysI
  rw [List.take_succ_eq_append_getElem hk, List.filter_append, List.map_append, List.filter_cons_of_neg (by rw [h]; decide)]
  simp
theorem bareI_yes {l : List IT} {k : Nat} (hk : k < l.length) (h : l[k].key = []) : bareI (l.take (k + 1)) = bareI (l.take k) + 1 := by
  unfold bareI
  rw [List.take_succ_eq_append_getElem hk, List.filter_append, List.length_append, List.filter_cons_of_pos (by rw [h]; rfl)]
  rfl
theorem bareI_no {l : List IT} {k : Nat} (hk : k < l.length) (h : l[k].key ≠ []) : bareI (l.take (k + 1)) = bareI (l.take k) := by
  unfold bareI
  rw [List.take_succ_eq_append_getElem hk, List.filter_append, List.length_append, List.filter_cons_of_neg (by cases e : l[k].key with | nil => exact absurd e h | cons _ _ => simp)]
  rfl
theorem bareI_le (l : List IT) (k : Nat) : bareI (l.take k) ≤ k := by
  unfold bareI
  have := List.length_filter_le (fun x : IT => x.key.isEmpty) (l.take k)
  have := List.length_take_le k l
  omega
theorem keysI_notin {q : List IT} {k : Nat} (hk : k < (staysI q).length) (h : (staysI q)[k].key ≠ []) : (staysI q)[k].key ∉ keysI ((staysI q).take k) := by
  intro hm
  unfold keysI at hm
  obtain ⟨x, hx, e⟩ := List.mem_map.1 hm
  obtain ⟨hx, _⟩ := List.mem_filter.1 hx
  obtain ⟨i, hi⟩ := List.mem_iff_getElem?.1 hx
  obtain ⟨hil, ei⟩ := List.getElem?_eq_some_iff.1 hi
  have hik : i < k := by rw [List.length_take] at hil; omega
  rw [List.getElem?_take_of_lt hik] at hi
  have := stays_once (List.getElem?_eq_getElem hk) hi h e.symm
  omega
theorem keysI_nodup (q : List IT) : (keysI (staysI q)).Nodup := by
  have : ∀ k, k ≤ (staysI q).length → (keysI ((staysI q).take k)).Nodup := by
    intro k
    induction k with
    | zero => intro _; exact List.Pairwise.nil
    | succ k ih =>
      intro hk
      have hk' : k < (staysI q).length := hk
      by_cases h : (staysI q)[k].key = []
      · rw [keysI_no hk' h]; exact ih (Nat.le_of_lt hk')
      · rw [keysI_yes hk' h, List.nodup_append]
        exact ⟨ih (Nat.le_of_lt hk'), by simp, fun a ha b hb e => by
          rw [List.mem_singleton] at hb
          subst hb; subst e
          exact keysI_notin hk' h ha⟩
  have h := this _ (Nat.le_refl _)
  rwa [List.take_length] at h
theorem keys_len {q : List IT} {T' : List (List UInt8 × Nat × Nat)} (h' : StOf ((staysI q).map nkOf) T') : (keysI (staysI q)).length = T'.length := by
  have : (keysI (staysI q)).Perm (T'.map (·.1)) := by
    rw [List.perm_ext_iff_of_nodup (keysI_nodup q) h'.nd]
    intro k
    constructor
    · intro hk
      obtain ⟨x, hx, rfl⟩ := List.mem_map.1 hk
      obtain ⟨hx, hne⟩ := List.mem_filter.1 hx
      have hk0 : x.key ≠ [] := by intro e; rw [e] at hne; cases hne
      obtain ⟨i, hi⟩ := List.mem_iff_getElem?.1 hx
      rcases lastF_law ((staysI q).map nkOf) x.key with ⟨_, hno⟩ | ⟨m, n, hl, _⟩
      · exact absurd (by rw [List.getElem?_map, hi]; rfl) (hno i x.n)
      · exact mem_key.2 ⟨_, h'.full _ _ _ hk0 hl, rfl⟩
    · intro hk
      obtain ⟨t, ht, rfl⟩ := mem_key.1 hk
      obtain ⟨h1, h2⟩ := h'.sound t ht
      rcases lastF_law ((staysI q).map nkOf) t.1 with ⟨e, _⟩ | ⟨m, n, _, hb⟩
      · rw [e] at h2; cases h2
      · obtain ⟨x, hx, hxk⟩ := nkz_at hb.at_
        simp only [nkOf, Prod.mk.injEq] at hxk
        refine List.mem_map.2 ⟨x, List.mem_filter.2 ⟨List.mem_of_getElem? hx, ?_⟩, hxk.2⟩
        rw [hxk.2]
        cases e : t.1 with
        | nil => exact absurd e h1
        | cons _ _ => rfl
  simpa using this.length_eq
theorem bare_same (q : List IT) : bareI (staysI q) = bareI q := by
  unfold bareI staysI
  rw [← pick_filter (fun i => !goesF (q.map nkOf) i) (fun x => x.key.isEmpty) q]
  have e1 : pickF (fun i => (!goesF (q.map nkOf) i) && (q[i]!).key.isEmpty) q = pickF (fun i => true && (q[i]!).key.isEmpty) q := pick_congr fun i hi => by
    rw [getElem!_pos q i hi]
    cases h : q[i].key.isEmpty with
    | false => simp
    | true =>
      have : goesF (q.map nkOf) i = false := by
        unfold goesF
        rw [List.getElem?_map, List.getElem?_eq_getElem hi]
        simp only [Option.map_some, nkOf, h, Bool.not_true, Bool.false_and]
      rw [this]; rfl
  rw [e1, pick_filter (fun _ => true) (fun x => x.key.isEmpty) q, pick_every fun _ => rfl]
theorem len_pick {α : Type} (p : Nat → Bool) (l : List α) : (pickF p l).length = ((List.range l.length).filter p).length := by
  unfold pickF
  have : ∀ r : List Nat, (∀ i ∈ r, i < l.length) → (r.filterMap fun i => l[i]?).length = r.length := by
    intro r
    induction r with
    | nil => intro _; rfl
    | cons i r ih =>
      intro h
      rw [List.filterMap_cons, List.getElem?_eq_getElem (h i (List.mem_cons_self ..))]
      simp [ih fun j hj => h j (List.mem_cons_of_mem _ hj)]
  exact this _ fun i hi => List.mem_range.1 (List.mem_filter.1 hi).1
theorem filter_both {α : Type} (p : α → Bool) : ∀ l : List α, (l.filter fun x => !p x).length + (l.filter p).length = l.length
  | [] => rfl
  | x :: l => by
    have := filter_both p l
    cases h : p x
    · rw [List.filter_cons_of_pos (by rw [h]; rfl), List.filter_cons_of_neg (by rw [h]; decide)]; simp; omega
    · rw [List.filter_cons_of_neg (by rw [h]; decide), List.filter_cons_of_pos h]; simp; omega
theorem both_all (q : List IT) : (staysI q).length + (doublesF (q.map nkOf)).length = q.length := by
  unfold staysI doublesF
  rw [(sortN_law _).1.length_eq, List.length_map, len_pick, len_pick, List.length_map]
  have := filter_both (goesF (q.map nkOf)) (List.range q.length)
  rw [List.length_range] at this
  exact this
theorem doubles_rise (l : List NK) {i : Nat} (h : i + 1 < (doublesF l).length) : (doublesF l)[i] ≤ (doublesF l)[i + 1] := by
  have := (sortN_law ((pickF (goesF l) l).map (·.1))).2
  exact List.pairwise_iff_getElem.1 this i (i + 1) (by unfold doublesF at h; omega) h (Nat.lt_succ_self i)
end Go.Proofs.Ytlgopjfnknjgjaa
