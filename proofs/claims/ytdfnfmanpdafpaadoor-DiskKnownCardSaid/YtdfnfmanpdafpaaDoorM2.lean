/- Maps told by their entries: ranging over them; an entry that is taken and stored into. (Of any program.) -/
import Derived.Test.YtdfnfmanpdafpaaDoorM1
import Derived.Maps.RangeWalk
import Derived.Maps.OwnSet
namespace Go.Proofs.YtdfnfmanpdafpaaDoor
open Go.RowKit Go.MapKept Go.ChangeMaps

/-- A range over map b whose state lies in block r; left: the entries that are still to come. -/
def RangeE (w : World) (r b : Nat) (d : TypeDesc) (E left : List (Value × Value)) : Prop :=
  ∃ es clock since seen c0, w.heap[b]? = some (.map es clock) ∧ Stamped es clock ∧ (∀ x ∈ es.toList, IsKey d x.key) ∧ es.toList.map (fun x => (x.key, x.val)) = E ∧
    w.heap[r]? = some (.mapIter (some b) since seen c0) ∧ (∀ x ∈ es.toList, x.born < since) ∧ since ≤ c0 ∧ since ≤ clock ∧ (leftOf es seen).toList.map (fun x => (x.key, x.val)) = left
theorem RangeE.map {w : World} {r b : Nat} {d : TypeDesc} {E left : List (Value × Value)} (h : RangeE w r b d E left) : MapE w b d E := by
  obtain ⟨es, clock, since, seen, c0, h1, h2, h3, h4, _⟩ := h
  exact ⟨es, clock, h1, h2, h3, h4⟩
theorem RangeE.lt {w : World} {r b : Nat} {d : TypeDesc} {E left : List (Value × Value)} (h : RangeE w r b d E left) : r < w.heap.size := by
  obtain ⟨es, clock, since, seen, c0, _, _, _, _, h5, _⟩ := h
  exact (Array.getElem?_eq_some_iff.1 h5).1
theorem RangeE.ne {w : World} {r b : Nat} {d : TypeDesc} {E left : List (Value × Value)} (h : RangeE w r b d E left) : r ≠ b := by
  obtain ⟨es, clock, since, seen, c0, h1, _, _, _, h5, _⟩ := h
  intro e
  rw [e, h1] at h5
  cases h5
theorem RangeE.sub {w : World} {r b : Nat} {d : TypeDesc} {E left : List (Value × Value)} (h : RangeE w r b d E left) : left.Sublist E := by
  obtain ⟨es, clock, since, seen, c0, h1, _, _, h4, h5, _, _, _, h9⟩ := h
  rw [← h4, ← h9]
  refine List.Sublist.map _ ?_
  unfold leftOf
  rw [Array.toList_filter]
  exact List.filter_sublist
theorem RangeE.ext {w w' : World} {r b : Nat} {d : TypeDesc} {E left : List (Value × Value)} (h : RangeE w r b d E left) (hx : Ext w w') : RangeE w' r b d E left := by
  obtain ⟨es, clock, since, seen, c0, h1, h2, h3, h4, h5, rest⟩ := h
  exact ⟨es, clock, since, seen, c0, by rw [hx.block b (Array.getElem?_eq_some_iff.1 h1).1]; exact h1, h2, h3, h4, by rw [hx.block r (Array.getElem?_eq_some_iff.1 h5).1]; exact h5, rest⟩
theorem RangeE.grown {w w' : World} {r b : Nat} {d : TypeDesc} {E left : List (Value × Value)} {row : Option Nat} (h : RangeE w r b d E left) (hg : w.grownBy w' row) (hb : row ≠ some b) (hr : row ≠ some r) : RangeE w' r b d E left := by
  obtain ⟨es, clock, since, seen, c0, h1, h2, h3, h4, h5, rest⟩ := h
  exact ⟨es, clock, since, seen, c0, by rw [hg.block b (Array.getElem?_eq_some_iff.1 h1).1 (Ne.symm hb)]; exact h1, h2, h3, h4, by rw [hg.block r (Array.getElem?_eq_some_iff.1 h5).1 (Ne.symm hr)]; exact h5, rest⟩
theorem RangeE.but {w w' : World} {r b c : Nat} {d : TypeDesc} {E left : List (Value × Value)} (h : RangeE w r b d E left) (hg : But c w w') (hb : b ≠ c) (hr : r ≠ c) : RangeE w' r b d E left := by
  obtain ⟨es, clock, since, seen, c0, h1, h2, h3, h4, h5, rest⟩ := h
  exact ⟨es, clock, since, seen, c0, by rw [hg.block b hb]; exact h1, h2, h3, h4, by rw [hg.block r hr]; exact h5, rest⟩
theorem MapE.grown {w w' : World} {b : Nat} {d : TypeDesc} {E : List (Value × Value)} {row : Option Nat} (h : MapE w b d E) (hg : w.grownBy w' row) (hb : row ≠ some b) : MapE w' b d E := by
  obtain ⟨es, clock, h1, h2⟩ := h
  exact ⟨es, clock, by rw [hg.block b (Array.getElem?_eq_some_iff.1 h1).1 (Ne.symm hb)]; exact h1, h2⟩
theorem But.grown {b : Nat} {w w' : World} (h : But b w w') : w.grownBy w' (some b) := ⟨h.os, h.tape, h.output, by rw [h.size]; exact Nat.le_refl _, fun k _ hk => h.block k (fun e => hk (by rw [e]))⟩
theorem but_drew {b : Nat} {w : World} : But b w w.drew := ⟨rfl, rfl, rfl, rfl, Nat.le_succ _, fun _ _ => rfl⟩

/-- One of a row whose stamps differ, struck. -/
theorem strike_perm {α : Type} (f : α → Nat) : ∀ {l : List α} {e : α}, (l.map f).Nodup → e ∈ l → l.Perm (e :: l.filter fun x => !(f x == f e))
  | x :: l, e, hn, he => by
    rw [List.map_cons, List.nodup_cons] at hn
    by_cases h : f x = f e
    · have hx : x = e := by
        rcases List.mem_cons.1 he with rfl | he
        · rfl
        · exact absurd (List.mem_map.2 ⟨e, he, h.symm⟩) hn.1
      subst hx
      have e1 : (x :: l).filter (fun y => !(f y == f x)) = l := by
        rw [List.filter_cons_of_neg (by simp)]
        exact List.filter_eq_self.2 fun y hy => by
          have : f y ≠ f x := fun e => hn.1 (List.mem_map.2 ⟨y, hy, e⟩)
          simpa using this
      rw [e1]
    · have he' : e ∈ l := by
        rcases List.mem_cons.1 he with rfl | he
        · exact absurd rfl h
        · exact he
      rw [List.filter_cons_of_pos (by simpa using h)]
      exact ((strike_perm f hn.2 he').cons x).trans (List.Perm.swap _ _ _)
theorem left_push (es : Array MapEntry) (seen : Array Nat) (e : MapEntry) : (leftOf es (seen.push e.born)).toList = ((leftOf es seen).toList).filter fun x => !(x.born == e.born) := by
  unfold leftOf
  rw [Array.toList_filter, Array.toList_filter, List.filter_filter]
  refine List.filter_congr fun x _ => ?_
  rw [contains_push, Bool.not_or, Bool.and_comm]

section
variable {P : Program}
theorem MapE.range {w : World} {b : Nat} {d : TypeDesc} {E : List (Value × Value)} (h : MapE w b d E) {t k e : TypeId} (ht : P.underlying t = some (.map k e)) :
    ∃ w', (Instr.range t (.map (some b))).run P w = .ok (.pointer (some ⟨w.heap.size, 0, none⟩)) w' ∧ RangeE w' w.heap.size b d E E ∧ Ext w w' := by
  have hlt := h.lt
  obtain ⟨es, clock, hb, hs, hk, rfl⟩ := h
  refine ⟨_, run_range_map w t k e b es clock ht hb, ⟨es, clock, clock, #[], clock, ((MapKept.heap_alloc w _).2 b hlt).trans hb, hs, hk, rfl, (MapKept.heap_alloc w _).1, hs.1, Nat.le_refl _, Nat.le_refl _, ?_⟩, (Ext.refl w).alloc _⟩
  have e1 : leftOf es #[] = es := by unfold leftOf; exact Array.filter_eq_self.2 (by simp)
  rw [e1]
theorem RangeE.next {w : World} {r b : Nat} {d : TypeDesc} {E left : List (Value × Value)} (h : RangeE w r b d E left) (ty : TypeId) :
    (left = [] ∧ (Instr.next (.pointer (some ⟨r, 0, none⟩)) false ty).run P w = .ok (.tuple #[.bool false]) w) ∨
    ∃ k v left' w', left.Perm ((k, v) :: left') ∧ (k, v) ∈ E ∧ (Instr.next (.pointer (some ⟨r, 0, none⟩)) false ty).run P w = .ok (.tuple #[.bool true, k, v]) w' ∧ RangeE w' r b d E left' ∧ But r w w' ∧ (Instr.entry (.pointer (some ⟨r, 0, none⟩))).run P w' = .ok (.tuple #[k, v]) w' := by
  have hne := h.ne
  obtain ⟨es, clock, since, seen, c0, hb, hs, hk, hE, hr, hold, hsc, hsl, hl⟩ := h
  rcases run_next_at (P := P) w ty r b since c0 seen es clock hr hb hold hsc with ⟨h0, hrun⟩ | ⟨e, he, w1, hw1, hrun⟩
  · refine .inl ⟨?_, hrun⟩
    rw [← hl]
    have : (leftOf es seen).toList = [] := List.eq_nil_of_length_eq_zero (by rw [Array.length_toList]; exact h0)
    rw [this]; rfl
  · have hm := mem_left he
    have hb1 : w1.heap[b]? = some (.map es clock) := by rcases hw1 with rfl | rfl <;> exact hb
    have hr1 : w1.heap[r]? = some (.mapIter (some b) since seen c0) := by rcases hw1 with rfl | rfl <;> exact hr
    have hb2 : (setBlock w1 r (.mapIter (some b) since (seen.push e.born) clock)).heap[b]? = some (.map es clock) := ((but_set (b := r)).block b (Ne.symm hne)).trans hb1
    have hr2 : (setBlock w1 r (.mapIter (some b) since (seen.push e.born) clock)).heap[r]? = some (.mapIter (some b) since (seen.push e.born) clock) := by
      unfold setBlock
      exact Array.getElem?_setIfInBounds_self_of_lt (Array.getElem?_eq_some_iff.1 hr1).1
    refine .inr ⟨e.key, e.val, (leftOf es (seen.push e.born)).toList.map (fun x => (x.key, x.val)), _, ?_, ?_, hrun, ⟨es, clock, since, seen.push e.born, clock, hb2, hs, hk, hE, hr2, hold, hsl, hsl, rfl⟩, ?_, run_entry_at (P := P) _ r b since seen es clock e hr2 hb2 hm.1 hs.2.1⟩
    · rw [← hl, left_push]
      refine List.Perm.map (fun x : MapEntry => (x.key, x.val)) (strike_perm MapEntry.born ?_ he)
      refine List.Nodup.sublist (List.Sublist.map _ ?_) hs.2.1
      unfold leftOf
      rw [Array.toList_filter]
      exact List.filter_sublist
    · rw [← hE]; exact List.mem_map.2 ⟨e, hm.1, rfl⟩
    · rcases hw1 with rfl | rfl
      · exact but_set
      · exact but_drew.trans but_set
/-- A store under a key that has come up already. -/
theorem RangeE.put {w : World} {r b : Nat} {d : TypeDesc} {E left : List (Value × Value)} (h : RangeE w r b d E left) {t k e : TypeId} (ht : P.underlying t = some (.map k e)) (hd : P.underlying k = some d) {key u v : Value} {j : Nat} (hj : E[j]? = some (key, u)) (hn : ∀ p ∈ left, p.1 ≠ key) :
    ∃ w', (Instr.mapUpdate t (.map (some b)) key v).run P w = .ok () w' ∧ But b w w' ∧ RangeE w' r b d (E.set j (key, v)) left := by
  have hne := h.ne
  obtain ⟨es, clock, since, seen, c0, hb, hs, hks, hE, hr, hold, hsc, hsl, hl⟩ := h
  have hnd : (E.map (·.1)).Nodup := by rw [← hE, List.map_map]; exact hs.2.2
  have hx : ∃ x, es[j]? = some x ∧ x.key = key ∧ x.val = u := by
    rw [← hE, List.getElem?_map] at hj
    cases hx : es.toList[j]? with
    | none => rw [hx] at hj; cases hj
    | some x =>
      rw [hx] at hj
      simp only [Option.map_some, Option.some.injEq, Prod.mk.injEq] at hj
      exact ⟨x, by simpa using hx, hj.1, hj.2⟩
  obtain ⟨x, hxj, hxk, hxu⟩ := hx
  have hk : IsKey d key := by rw [← hxk]; exact hks x (Array.mem_toList_iff.2 (Array.mem_of_getElem? hxj))
  rcases findNow_spec hk es.toList 0 hks with ⟨h1, h2⟩ | ⟨j', x', h1, h2, h3⟩
  · exact absurd hxk (h2 x (Array.mem_toList_iff.2 (Array.mem_of_getElem? hxj)))
  · have hj' : es[j']? = some x' := by simpa using h2
    have hjj : j' = j := by
      have l1 : j' < (es.toList.map (·.key)).length := by rw [List.length_map, Array.length_toList]; exact (Array.getElem?_eq_some_iff.1 hj').1
      have l2 : j < (es.toList.map (·.key)).length := by rw [List.length_map, Array.length_toList]; exact (Array.getElem?_eq_some_iff.1 hxj).1
      refine (List.getElem_inj (xs := es.toList.map (·.key)) (h₀ := l1) (h₁ := l2) hs.2.2).1 ?_
      have a1 : (es.toList.map (·.key))[j']? = some x'.key := by rw [List.getElem?_map, h2]; rfl
      have a2 : (es.toList.map (·.key))[j]? = some x.key := by rw [List.getElem?_map]; simp [hxj]
      rw [List.getElem?_eq_getElem l1] at a1
      rw [List.getElem?_eq_getElem l2] at a2
      rw [Option.some.inj a1, Option.some.inj a2, hxk, h3]
    subst hjj
    have hkey : ∀ e', es[j']? = some e' → ({ e' with key := key, val := v } : MapEntry).key = e'.key := fun e' he' => by rw [hj'] at he'; cases he'; exact h3.symm
    have hborn : (es.modify j' fun e => { e with key := key, val := v }).toList.map (·.born) = es.toList.map (·.born) := by
      apply List.ext_getElem?
      intro i
      simp only [List.getElem?_map, Array.getElem?_toList, Array.getElem?_modify]
      by_cases hij : j' = i
      · subst hij; rw [if_pos rfl, hj']; rfl
      · rw [if_neg hij]
    refine ⟨setBlock w b (.map (es.modify j' fun e => { e with key := key, val := v }) clock), ?_, but_set, _, clock, since, seen, c0, heap_setBlock_same hb _, stamped_modify hs _ _ (fun _ _ => rfl) (fun e' _ he' => hkey e' he'), isKey_modify hks _ _ hkey, ?_, (heap_setBlock_other hb _ hne).trans hr, ?_, hsc, hsl, ?_⟩
    · simp only [Instr.mapUpdate, Sem.run_bind, run_underlying ht, Go.MapKept.run_getObj_map hb, Go.MapKept.run_checkKey hd hk, Go.MapKept.run_findKey hd h1, Result.andThen]; simp [hj', h3, run_keyThatStays hk, Go.MapKept.run_setObj_map _ hb, setBlock]
    · rw [map_modify_set es j' x' hj' key v, hE]
    · intro y hy
      have : y.born ∈ (es.modify j' fun e => { e with key := key, val := v }).toList.map (·.born) := List.mem_map.2 ⟨y, hy, rfl⟩
      rw [hborn] at this
      obtain ⟨z, hz, e⟩ := List.mem_map.1 this
      rw [← e]; exact hold z hz
    · -- the entries that are left are others
      rw [← hl]
      have hseen : seen.contains x'.born = true := by
        cases hc : seen.contains x'.born with
        | true => rfl
        | false =>
          refine absurd h3 (hn (x'.key, x'.val) ?_)
          rw [← hl]
          refine List.mem_map.2 ⟨x', ?_, rfl⟩
          unfold leftOf
          rw [Array.toList_filter, List.mem_filter]
          exact ⟨Array.mem_toList_iff.2 (Array.mem_of_getElem? hj'), by rw [hc]; rfl⟩
      unfold leftOf
      rw [Array.toList_filter, Array.toList_filter]
      have hset : (es.modify j' fun e => { e with key := key, val := v }).toList = es.toList.set j' { x' with key := key, val := v } := by
        apply List.ext_getElem?
        intro i
        simp only [Array.getElem?_toList, Array.getElem?_modify, List.getElem?_set]
        by_cases hij : j' = i
        · subst hij; rw [if_pos rfl, if_pos rfl, hj', if_pos (by rw [Array.length_toList]; exact (Array.getElem?_eq_some_iff.1 hj').1)]; rfl
        · rw [if_neg hij, if_neg hij]
      rw [hset]
      have key2 : ∀ (l : List MapEntry) (i : Nat), l[i]? = some x' → (l.set i { x' with key := key, val := v }).filter (fun e => !seen.contains e.born) = l.filter (fun e => !seen.contains e.born) := by
        intro l
        induction l with
        | nil => intro i h; cases h
        | cons y l ih =>
          intro i hi
          cases i with
          | zero =>
            simp only [List.getElem?_cons_zero, Option.some.injEq] at hi
            subst hi
            rw [List.set_cons_zero, List.filter_cons_of_neg (by simp only [hseen]; decide), List.filter_cons_of_neg (by rw [hseen]; decide)]
          | succ i =>
            rw [List.set_cons_succ, List.filter_cons, List.filter_cons, ih i (by simpa using hi)]
      rw [key2 _ _ h2]

/-- An entry that is taken, to be stored into. -/
def EntryAt (w : World) (b : Nat) (d : TypeDesc) (E : List (Value × Value)) (j st : Nat) : Prop :=
  ∃ es clock, w.heap[b]? = some (.map es clock) ∧ Stamped es clock ∧ (∀ x ∈ es.toList, IsKey d x.key) ∧ es.toList.map (fun x => (x.key, x.val)) = E ∧ ∃ x, es[j]? = some x ∧ x.born = st
theorem EntryAt.map {w : World} {b : Nat} {d : TypeDesc} {E : List (Value × Value)} {j st : Nat} (h : EntryAt w b d E j st) : MapE w b d E := by
  obtain ⟨es, clock, h1, h2, h3, h4, _⟩ := h
  exact ⟨es, clock, h1, h2, h3, h4⟩
theorem EntryAt.ext {w w' : World} {b : Nat} {d : TypeDesc} {E : List (Value × Value)} {j st : Nat} (h : EntryAt w b d E j st) (hx : Ext w w') : EntryAt w' b d E j st := by
  obtain ⟨es, clock, h1, h2⟩ := h
  exact ⟨es, clock, by rw [hx.block b (Array.getElem?_eq_some_iff.1 h1).1]; exact h1, h2⟩
theorem EntryAt.grown {w w' : World} {b : Nat} {d : TypeDesc} {E : List (Value × Value)} {j st : Nat} {row : Option Nat} (h : EntryAt w b d E j st) (hg : w.grownBy w' row) (hb : row ≠ some b) : EntryAt w' b d E j st := by
  obtain ⟨es, clock, h1, h2⟩ := h
  exact ⟨es, clock, by rw [hg.block b (Array.getElem?_eq_some_iff.1 h1).1 (Ne.symm hb)]; exact h1, h2⟩
theorem MapE.entry {w : World} {b : Nat} {d : TypeDesc} {E : List (Value × Value)} (h : MapE w b d E) {t k e : TypeId} (ht : P.underlying t = some (.map k e)) (hd : P.underlying k = some d) {z : Value} (hz : ∀ w, (zeroValue e).run P w = .ok z w) {key : Value} (hk : IsKey d key) :
    ∃ w' st, But b w w' ∧
      (((∀ p ∈ E, p.1 ≠ key) ∧ (Instr.mapEntry t (.map (some b)) key).run P w = .ok (.tuple #[z, goInt (st : Nat)]) w' ∧ EntryAt w' b d (E ++ [(key, z)]) E.length st) ∨
       ∃ (j : Nat) (u : Value), E[j]? = some (key, u) ∧ (Instr.mapEntry t (.map (some b)) key).run P w = .ok (.tuple #[u, goInt (st : Nat)]) w' ∧ EntryAt w' b d E j st) := by
  obtain ⟨es, clock, hb, hs, hks, rfl⟩ := h
  rcases findNow_spec hk es.toList 0 hks with ⟨h1, h2⟩ | ⟨j, x, h1, h2, h3⟩
  · refine ⟨setBlock w b (.map (es.push { key, val := z, born := clock }) (clock + 1)), clock, but_set, .inl ⟨fun p hp => ?_, ?_, _, _, heap_setBlock_same hb _, stamped_push hs h2, ?_, by simp, _, by rw [List.length_map, Array.length_toList]; exact Array.getElem?_push_size, rfl⟩⟩
    · obtain ⟨x, hx, rfl⟩ := List.mem_map.1 hp
      exact h2 x hx
    · simp only [Instr.mapEntry, Sem.run_bind, run_underlying ht, Go.MapKept.run_getObj_map hb, Go.MapKept.run_checkKey hd hk, Go.MapKept.run_findKey hd h1, Result.andThen, hz]; simp [Go.MapKept.run_setObj_map _ hb, setBlock]
    · intro x hx
      simp only [Array.toList_push, List.mem_append, List.mem_singleton] at hx
      rcases hx with hx | rfl
      · exact hks x hx
      · exact hk
  · have hj : es[j]? = some x := by simpa using h2
    have hkey : ∀ e', es[j]? = some e' → ({ e' with key := key } : MapEntry).key = e'.key := fun e' he' => by rw [hj] at he'; cases he'; exact h3.symm
    have hset : (es.modify j fun e => { e with key := key }).toList.map (fun x => (x.key, x.val)) = es.toList.map (fun x => (x.key, x.val)) := by
      apply List.ext_getElem?
      intro i
      simp only [List.getElem?_map, Array.getElem?_toList, Array.getElem?_modify]
      by_cases hij : j = i
      · subst hij; rw [if_pos rfl, hj]; simp [h3]
      · rw [if_neg hij]
    refine ⟨setBlock w b (.map (es.modify j fun e => { e with key := key }) clock), x.born, but_set, .inr ⟨j, x.val, ?_, ?_, _, _, heap_setBlock_same hb _, stamped_modify hs _ _ (fun _ _ => rfl) (fun e' _ he' => hkey e' he'), isKey_modify hks _ _ hkey, hset, { x with key := key }, ?_, rfl⟩⟩
    · rw [List.getElem?_map, h2]; simp [h3]
    · simp only [Instr.mapEntry, Sem.run_bind, run_underlying ht, Go.MapKept.run_getObj_map hb, Go.MapKept.run_checkKey hd hk, Go.MapKept.run_findKey hd h1, Result.andThen]; simp [hj, h3, run_keyThatStays hk, Go.MapKept.run_setObj_map _ hb, setBlock]
    · rw [Array.getElem?_modify, if_pos rfl, hj]; rfl
theorem EntryAt.store {w : World} {b : Nat} {d : TypeDesc} {E : List (Value × Value)} {j st : Nat} (h : EntryAt w b d E j st) (t : TypeId) (v : Value) {key u : Value} (hj : E[j]? = some (key, u)) :
    ∃ w', (Instr.entryStore t (.map (some b)) (goInt (st : Nat)) v).run P w = .ok () w' ∧ But b w w' ∧ MapE w' b d (E.set j (key, v)) := by
  obtain ⟨es, clock, hb, hs, hks, rfl, x, hx, rfl⟩ := h
  have hfi : es.findIdx? (fun e => (e.born : Int) == (x.born : Int)) = some j := by
    rw [Array.findIdx?_eq_some_iff_getElem]
    obtain ⟨hjl, ej⟩ := Array.getElem?_eq_some_iff.1 hx
    refine ⟨hjl, by rw [ej]; simp, fun i hij => ?_⟩
    have l1 : i < (es.toList.map (·.born)).length := by rw [List.length_map, Array.length_toList]; omega
    have l2 : j < (es.toList.map (·.born)).length := by rw [List.length_map, Array.length_toList]; omega
    intro he
    have he2 : es[i].born = x.born := by
      have := of_decide_eq_true (by simpa using he : decide ((es[i].born : Int) = (x.born : Int)) = true)
      omega
    have : i = j := (List.getElem_inj (xs := es.toList.map (·.born)) (h₀ := l1) (h₁ := l2) hs.2.1).1 (by simp [he2, ej])
    omega
  have hkey : x.key = key := by
    rw [List.getElem?_map] at hj
    simp [hx] at hj
    exact hj.1
  have hset : (es.modify j fun e => { e with val := v }).toList.map (fun x => (x.key, x.val)) = (es.toList.map (fun x => (x.key, x.val))).set j (key, v) := by
    apply List.ext_getElem?
    intro i
    simp only [List.getElem?_map, Array.getElem?_toList, Array.getElem?_modify, List.getElem?_set, List.length_map]
    by_cases hji : j = i
    · subst hji
      rw [if_pos rfl, if_pos rfl, hx, if_pos (by rw [Array.length_toList]; exact (Array.getElem?_eq_some_iff.1 hx).1)]
      simp [hkey]
    · rw [if_neg hji, if_neg hji]
  refine ⟨setBlock w b (.map (es.modify j fun e => { e with val := v }) clock), ?_, but_set, _, _, heap_setBlock_same hb _, stamped_modify hs _ _ (fun _ _ => rfl) (fun _ _ _ => rfl), isKey_modify hks _ _ (fun _ _ => rfl), hset⟩
  simp only [Instr.entryStore, Sem.run_bind, Go.MapKept.run_getObj_map hb, Result.andThen, goInt, asInt, asIntOf]
  simp [hfi, Go.MapKept.run_setObj_map _ hb, setBlock]

/-! At the operation, for the walk -/
theorem wpList_rangeE {ops : Array Oper} {Q : Exit → Act → World → Prop} {a : Act} {w : World} {rest : List Oper} {o : Oper} (hg : o.guard = none) (m : Operand) (t : TypeId) (hop : o.op = Op.range t m)
    {k e : TypeId} {d : TypeDesc} (ht : P.underlying t = some (.map k e)) {b : Nat} {E : List (Value × Value)} (hm : a.eval m = .map (some b)) (h : MapE w b d E)
    (hK : ∀ w', RangeE w' w.heap.size b d E E → Ext w w' → wpList P ops Q rest (a.put o.dst (.pointer (some ⟨w.heap.size, 0, none⟩))) w') : wpList P ops Q (o :: rest) a w := by
  refine wpList_plain hg fun K' hK' => ?_
  obtain ⟨w', hrun, r1, r2⟩ := h.range ht
  unfold Oper.wp
  simp [execOp, hop, hm, hrun, Result.andThen]
  exact hK' _ _ (hK w' r1 r2)
theorem wpList_nextE {ops : Array Oper} {Q : Exit → Act → World → Prop} {a : Act} {w : World} {rest : List Oper} {o : Oper} (hg : o.guard = none) (it : Operand) (hop : o.op = Op.next it false)
    {r b : Nat} {d : TypeDesc} {E left : List (Value × Value)} (hit : a.eval it = .pointer (some ⟨r, 0, none⟩)) (h : RangeE w r b d E left)
    (hDone : left = [] → wpList P ops Q rest (a.put o.dst (.tuple #[.bool false])) w)
    (hMore : ∀ k v left' w', left.Perm ((k, v) :: left') → (k, v) ∈ E → RangeE w' r b d E left' → But r w w' → (Instr.entry (.pointer (some ⟨r, 0, none⟩))).run P w' = .ok (.tuple #[k, v]) w' → wpList P ops Q rest (a.put o.dst (.tuple #[.bool true, k, v])) w') :
    wpList P ops Q (o :: rest) a w := by
  refine wpList_plain hg fun K' hK' => ?_
  unfold Oper.wp
  rcases h.next (P := P) o.type with ⟨h0, hrun⟩ | ⟨k, v, left', w', h1, h2, hrun, h3, h4, h5⟩
  · simp [execOp, hop, hit, hrun, Result.andThen]
    exact hK' _ _ (hDone h0)
  · simp [execOp, hop, hit, hrun, Result.andThen]
    exact hK' _ _ (hMore k v left' w' h1 h2 h3 h4 h5)
theorem wpList_putR {ops : Array Oper} {Q : Exit → Act → World → Prop} {a : Act} {w : World} {rest : List Oper} {o : Oper} (hg : o.guard = none) (m x v : Operand) (t : TypeId) (hop : o.op = .mapUpdate t m x v)
    {k e : TypeId} {d : TypeDesc} (ht : P.underlying t = some (.map k e)) (hd : P.underlying k = some d) {r b j : Nat} {E left : List (Value × Value)} {u : Value} (hm : a.eval m = .map (some b)) (h : RangeE w r b d E left) (hj : E[j]? = some (a.eval x, u)) (hn : ∀ p ∈ left, p.1 ≠ a.eval x)
    (hK : ∀ w', But b w w' → RangeE w' r b d (E.set j (a.eval x, a.eval v)) left → wpList P ops Q rest (a.put o.dst undef) w') : wpList P ops Q (o :: rest) a w := by
  refine wpList_plain hg fun K' hK' => ?_
  obtain ⟨w', hrun, r1, r2⟩ := h.put ht hd hj hn (v := a.eval v)
  unfold Oper.wp
  simp [execOp, hop, hm, hrun, Result.andThen]
  exact hK' _ _ (hK w' r1 r2)
theorem wpList_entryE {ops : Array Oper} {Q : Exit → Act → World → Prop} {a : Act} {w : World} {rest : List Oper} {o : Oper} (hg : o.guard = none) (m x : Operand) (t : TypeId) (hop : o.op = .mapEntry t m x)
    {k e : TypeId} {d : TypeDesc} (ht : P.underlying t = some (.map k e)) (hd : P.underlying k = some d) {z : Value} (hz : ∀ w, (zeroValue e).run P w = .ok z w) {b : Nat} {E : List (Value × Value)} (hm : a.eval m = .map (some b)) (h : MapE w b d E) (hk : IsKey d (a.eval x))
    (hNew : ∀ w' st, But b w w' → (∀ p ∈ E, p.1 ≠ a.eval x) → EntryAt w' b d (E ++ [(a.eval x, z)]) E.length st → wpList P ops Q rest (a.put o.dst (.tuple #[z, goInt (st : Nat)])) w')
    (hOld : ∀ w' st j u, But b w w' → E[j]? = some (a.eval x, u) → EntryAt w' b d E j st → wpList P ops Q rest (a.put o.dst (.tuple #[u, goInt (st : Nat)])) w') : wpList P ops Q (o :: rest) a w := by
  refine wpList_plain hg fun K' hK' => ?_
  unfold Oper.wp
  obtain ⟨w', st, hb, ⟨hn, hrun, h1⟩ | ⟨j, u, hj, hrun, h1⟩⟩ := h.entry ht hd hz hk
  · simp [execOp, hop, hm, hrun, Result.andThen]
    exact hK' _ _ (hNew w' st hb hn h1)
  · simp [execOp, hop, hm, hrun, Result.andThen]
    exact hK' _ _ (hOld w' st j u hb hj h1)
theorem wpList_estore {ops : Array Oper} {Q : Exit → Act → World → Prop} {a : Act} {w : World} {rest : List Oper} {o : Oper} (hg : o.guard = none) (m s v : Operand) (t : TypeId) (hop : o.op = .entryStore t m s v)
    {d : TypeDesc} {b j st : Nat} {E : List (Value × Value)} {key u : Value} (hm : a.eval m = .map (some b)) (hs : a.eval s = goInt (st : Nat)) (h : EntryAt w b d E j st) (hj : E[j]? = some (key, u))
    (hK : ∀ w', But b w w' → MapE w' b d (E.set j (key, a.eval v)) → wpList P ops Q rest (a.put o.dst undef) w') : wpList P ops Q (o :: rest) a w := by
  refine wpList_plain hg fun K' hK' => ?_
  obtain ⟨w', hrun, r1, r2⟩ := h.store t (a.eval v) hj (P := P)
  unfold Oper.wp
  simp [execOp, hop, hm, hs, hrun, Result.andThen]
  exact hK' _ _ (hK w' r1 r2)
end
theorem RangeE.left_eq {w : World} {r b : Nat} {d : TypeDesc} {E left : List (Value × Value)} (h : RangeE w r b d E left) : w.rangeLeft b r = left.length := by
  obtain ⟨es, clock, since, seen, c0, h1, _, _, _, h5, _, _, _, h9⟩ := h
  simp only [World.rangeLeft, h1, h5]
  rw [← h9, List.length_map, Array.length_toList]

section
variable {P : Program}
theorem MapE.len {w : World} {b : Nat} {d : TypeDesc} {E : List (Value × Value)} (h : MapE w b d E) {t k e : TypeId} (ht : P.underlying t = some (.map k e)) (ty : TypeId) :
    (Builtin.len_ #[t] ty #[.map (some b)]).run P w = .ok (.int .i64 (E.length : Nat)) w := by
  obtain ⟨es, clock, hb, _, _, rfl⟩ := h
  have hl : (es.toList.map fun x => (x.key, x.val)).length = es.size := by rw [List.length_map, Array.length_toList]
  rw [hl]
  simp [Builtin.len_, run_underlying ht, Go.MapKept.run_getObj_map hb, goInt, Result.andThen]
theorem MapE.known {w : World} {b : Nat} {d : TypeDesc} {E : List (Value × Value)} (h : MapE w b d E) {t k e : TypeId} (ht : P.underlying t = some (.map k e)) (hd : P.underlying k = some d) {z : Value} (hz : (zeroValue e).run P w = .ok z w) {key v : Value} (hm : (key, v) ∈ E) :
    (Instr.lookup t (.map (some b)) key false).run P w = .ok v w ∧ (Instr.lookup t (.map (some b)) key true).run P w = .ok (.tuple #[v, .bool true]) w := by
  obtain ⟨i, hi⟩ := List.mem_iff_getElem?.1 hm
  rcases h.look (P := P) ht hd hz (h.keys.1 _ hm) with ⟨h1, _⟩ | ⟨j, u, hj, h1, h2⟩
  · exact absurd rfl (h1 _ hm)
  · have e1 : (E.map (·.1))[i]? = some key := by rw [List.getElem?_map, hi]; rfl
    have e2 : (E.map (·.1))[j]? = some key := by rw [List.getElem?_map, hj]; rfl
    have : i = j := (List.getElem?_inj (List.getElem?_eq_some_iff.1 e1).1 h.keys.2).1 (e1.trans e2.symm)
    subst this
    rw [hi] at hj
    simp only [Option.some.injEq, Prod.mk.injEq, true_and] at hj
    subst hj
    exact ⟨h1, h2⟩
theorem MapE.unknown {w : World} {b : Nat} {d : TypeDesc} {E : List (Value × Value)} (h : MapE w b d E) {t k e : TypeId} (ht : P.underlying t = some (.map k e)) (hd : P.underlying k = some d) {z : Value} (hz : (zeroValue e).run P w = .ok z w) {key : Value} (hk : IsKey d key) (hm : ∀ p ∈ E, p.1 ≠ key) :
    (Instr.lookup t (.map (some b)) key false).run P w = .ok z w ∧ (Instr.lookup t (.map (some b)) key true).run P w = .ok (.tuple #[z, .bool false]) w := by
  rcases h.look (P := P) ht hd hz hk with ⟨_, h1, h2⟩ | ⟨j, u, hj, _⟩
  · exact ⟨h1, h2⟩
  · exact absurd rfl (hm _ (List.mem_of_getElem? hj))
theorem wpList_lenE {ops : Array Oper} {Q : Exit → Act → World → Prop} {a : Act} {w : World} {rest : List Oper} {o : Oper} (m : Operand) (t : TypeId) (hop : o.op = Op.call { callee := Callee.builtin Builtin.len, args := #[m], argTypes := #[t] }) (hw : Region.wanted o (yielded ops a.tmps) = true)
    {k e : TypeId} {d : TypeDesc} (ht : P.underlying t = some (.map k e)) {b : Nat} {E : List (Value × Value)} (hm : a.eval m = .map (some b)) (h : MapE w b d E) {n : Nat} (hn : E.length = n)
    (hK : wpList P ops Q rest (a.put o.dst (.int .i64 n)) w) : wpList P ops Q (o :: rest) a w := by
  subst hn
  exact wpList_val hw (by simp [execOp, hop, resolve, invoke, builtin, hm, h.len ht o.type, Result.andThen]) hK
end
end Go.Proofs.YtdfnfmanpdafpaaDoor
