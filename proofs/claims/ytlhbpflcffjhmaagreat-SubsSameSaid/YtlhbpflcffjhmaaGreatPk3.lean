/- Maps told by their entries: ranging over them; an entry that is taken and stored into. (Of any program.)
Boxes that a function makes as it begins.
A predicate in typed memory; a turn that leaves all but some blocks and the rows of one type. (Of any seat that holds api.Constraint.)
A row of the call's own, sorted: the sort's words (at structs) and the row's.
A row of the call's own with one element replaced.
Compaction, element by element: what slices.Compact does in its loop.
clear at the end of a row of the call's own.
What slices.Compact's inner loop keeps; cells of a row of the call's own that may be written; cells of zero. (Of any program.)
What slices.DeleteFunc's loop keeps. (Of any program.)
What the rows of values and of constraints are, by the type table.
Rows of one's own: small laws of worlds that grow.
Regions, plainly: cuts, spans, what is in a region, one without another; what predicates ask of names. No program is in sight. -/
import Derived.Maps.RangeWalk
import Derived.Maps.OwnSet
import Derived.Shelf.SlSortCmp.SmallK
import Derived.Shelf.SlSortCmp.PivotK
import Derived.Sort.OwnSorted
import Derived.Lib.SliceRun
import Derived.Deep.MidRow
import Derived.Test.YtlhbpflcffjhmaaGreatProg
import Derived.KernelRfl
import Derived.WalkKit
import Derived.OwnWalk
import GoSem.Op.String
import Derived.Sort.Walk0
import Derived.Test.YtlhbpflcffjhmaaGreatPk2
import Derived.Test.YtlhbpflcffjhmaaGreatPk1
namespace Go.Proofs.YtlhbpflcffjhmaaGreat
open Go.RowKit Go.MapKept Go.ChangeMaps

/-- A range over map b whose state lies in block r; left: the entries that are still to come. -/
def RangeE (w : World) (r b : Nat) (d : TypeDesc) (E left : List (Value × Value)) : Prop :=
  ∃ es clock since seen c0, w.heap[b]? = some (.map es clock) ∧ Stamped es clock ∧ (∀ x ∈ es.toList, IsKey d x.key) ∧ es.toList.map (fun x => (x.key, x.val)) = E ∧
    w.heap[r]? = some (.mapIter (some b) since seen c0) ∧ (∀ x ∈ es.toList, x.born < since) ∧ since ≤ c0 ∧ since ≤ clock ∧ (leftOf es seen).toList.map (fun x => (x.key, x.val)) = left
theorem RangeE.map {w : World} {r b : Nat} {d : TypeDesc} {E left : List (Value × Value)} (h : RangeE w r b d E left) : MapE w b d E := by
  obtain ⟨es, clock, since, seen, c0, h1, h2, h3, h4, _⟩ := h
  exact ⟨es, clock, h1, h2, h3, h4⟩
theorem RangeE.lt {w : World} {r b : Nat} {d : TypeDesc} {E left : List (Value × Value)} (h : RangeE w r b d E left) : r < w.heap.size := by
  obtain ⟨es, clock, since, seen, c0, _, _, _, _, h5, _⟩ := h
  exact (Array.getElem?_eq_some_iff.1 h5).1
theorem RangeE.ne {w : World} {r b : Nat} {d : TypeDesc} {E left : List (Value × Value)} (h : RangeE w r b d E left) : r ≠ b := by
  obtain ⟨es, clock, since, seen, c0, h1, _, _, _, h5, _⟩ := h
  intro e
  rw [e, h1] at h5
  cases h5
theorem RangeE.sub {w : World} {r b : Nat} {d : TypeDesc} {E left : List (Value × Value)} (h : RangeE w r b d E left) : left.Sublist E := by
  obtain ⟨es, clock, since, seen, c0, h1, _, _, h4, h5, _, _, _, h9⟩ := h
  rw [← h4, ← h9]
  refine List.Sublist.map _ ?_
  unfold leftOf
  rw [Array.toList_filter]
  exact List.filter_sublist
theorem RangeE.ext {w w' : World} {r b : Nat} {d : TypeDesc} {E left : List (Value × Value)} (h : RangeE w r b d E left) (hx : Ext w w') : RangeE w' r b d E left := by
  obtain ⟨es, clock, since, seen, c0, h1, h2, h3, h4, h5, rest⟩ := h
  exact ⟨es, clock, since, seen, c0, by rw [hx.block b (Array.getElem?_eq_some_iff.1 h1).1]; exact h1, h2, h3, h4, by rw [hx.block r (Array.getElem?_eq_some_iff.1 h5).1]; exact h5, rest⟩
theorem RangeE.grown {w w' : World} {r b : Nat} {d : TypeDesc} {E left : List (Value × Value)} {row : Option Nat} (h : RangeE w r b d E left) (hg : w.grownBy w' row) (hb : row ≠ some b) (hr : row ≠ some r) : RangeE w' r b d E left := by
  obtain ⟨es, clock, since, seen, c0, h1, h2, h3, h4, h5, rest⟩ := h
  exact ⟨es, clock, since, seen, c0, by rw [hg.block b (Array.getElem?_eq_some_iff.1 h1).1 (Ne.symm hb)]; exact h1, h2, h3, h4, by rw [hg.block r (Array.getElem?_eq_some_iff.1 h5).1 (Ne.symm hr)]; exact h5, rest⟩
theorem RangeE.but {w w' : World} {r b c : Nat} {d : TypeDesc} {E left : List (Value × Value)} (h : RangeE w r b d E left) (hg : But c w w') (hb : b ≠ c) (hr : r ≠ c) : RangeE w' r b d E left := by
  obtain ⟨es, clock, since, seen, c0, h1, h2, h3, h4, h5, rest⟩ := h
  exact ⟨es, clock, since, seen, c0, by rw [hg.block b hb]; exact h1, h2, h3, h4, by rw [hg.block r hr]; exact h5, rest⟩
theorem MapE.grown {w w' : World} {b : Nat} {d : TypeDesc} {E : List (Value × Value)} {row : Option Nat} (h : MapE w b d E) (hg : w.grownBy w' row) (hb : row ≠ some b) : MapE w' b d E := by
  obtain ⟨es, clock, h1, h2⟩ := h
  exact ⟨es, clock, by rw [hg.block b (Array.getElem?_eq_some_iff.1 h1).1 (Ne.symm hb)]; exact h1, h2⟩
theorem But.grown {b : Nat} {w w' : World} (h : But b w w') : w.grownBy w' (some b) := ⟨h.os, h.tape, h.output, by rw [h.size]; exact Nat.le_refl _, fun k _ hk => h.block k (fun e => hk (by rw [e]))⟩
theorem but_drew {b : Nat} {w : World} : But b w w.drew := ⟨rfl, rfl, rfl, rfl, Nat.le_succ _, fun _ _ => rfl⟩

/-- One of a row whose stamps differ, struck. -/
theorem strike_perm {α : Type} (f : α → Nat) : ∀ {l : List α} {e : α}, (l.map f).Nodup → e ∈ l → l.Perm (e :: l.filter fun x => !(f x == f e))
  | x :: l, e, hn, he => by
    rw [List.map_cons, List.nodup_cons] at hn
    by_cases h : f x = f e
    · have hx : x = e := by
        rcases List.mem_cons.1 he with rfl | he
        · rfl
        · exact absurd (List.mem_map.2 ⟨e, he, h.symm⟩) hn.1
      subst hx
      have e1 : (x :: l).filter (fun y => !(f y == f x)) = l := by
        rw [List.filter_cons_of_neg (by simp)]
        exact List.filter_eq_self.2 fun y hy => by
          have : f y ≠ f x := fun e => hn.1 (List.mem_map.2 ⟨y, hy, e⟩)
          simpa using this
      rw [e1]
    · have he' : e ∈ l := by
        rcases List.mem_cons.1 he with rfl | he
        · exact absurd rfl h
        · exact he
      rw [List.filter_cons_of_pos (by simpa using h)]
      exact ((strike_perm f hn.2 he').cons x).trans (List.Perm.swap _ _ _)
theorem left_push (es : Array MapEntry) (seen : Array Nat) (e : MapEntry) : (leftOf es (seen.push e.born)).toList = ((leftOf es seen).toList).filter fun x => !(x.born == e.born) := by
  unfold leftOf
  rw [Array.toList_filter, Array.toList_filter, List.filter_filter]
  refine List.filter_congr fun x _ => ?_
  rw [contains_push, Bool.not_or, Bool.and_comm]

section
variable {P : Program}
theorem MapE.range {w : World} {b : Nat} {d : TypeDesc} {E : List (Value × Value)} (h : MapE w b d E) {t k e : TypeId} (ht : P.underlying t = some (.map k e)) :
    ∃ w', (Instr.range t (.map (some b))).run P w = .ok (.pointer (some ⟨w.heap.size, 0, none⟩)) w' ∧ RangeE w' w.heap.size b d E E ∧ Ext w w' := by
  have hlt := h.lt
  obtain ⟨es, clock, hb, hs, hk, rfl⟩ := h
  refine ⟨_, run_range_map w t k e b es clock ht hb, ⟨es, clock, clock, #[], clock, ((MapKept.heap_alloc w _).2 b hlt).trans hb, hs, hk, rfl, (MapKept.heap_alloc w _).1, hs.1, Nat.le_refl _, Nat.le_refl _, ?_⟩, (Ext.refl w).alloc _⟩
  have e1 : leftOf es #[] = es := by unfold leftOf; exact Array.filter_eq_self.2 (by simp)
  rw [e1]
theorem RangeE.next {w : World} {r b : Nat} {d : TypeDesc} {E left : List (Value × Value)} (h : RangeE w r b d E left) (ty : TypeId) :
    (left = [] ∧ (Instr.next (.pointer (some ⟨r, 0, none⟩)) false ty).run P w = .ok (.tuple #[.bool false]) w) ∨
    ∃ k v left' w', left.Perm ((k, v) :: left') ∧ (k, v) ∈ E ∧ (Instr.next (.pointer (some ⟨r, 0, none⟩)) false ty).run P w = .ok (.tuple #[.bool true, k, v]) w' ∧ RangeE w' r b d E left' ∧ But r w w' ∧ (Instr.entry (.pointer (some ⟨r, 0, none⟩))).run P w' = .ok (.tuple #[k, v]) w' := by
  have hne := h.ne
  obtain ⟨es, clock, since, seen, c0, hb, hs, hk, hE, hr, hold, hsc, hsl, hl⟩ := h
  rcases run_next_at (P := P) w ty r b since c0 seen es clock hr hb hold hsc with ⟨h0, hrun⟩ | ⟨e, he, w1, hw1, hrun⟩
  · refine .inl ⟨?_, hrun⟩
    rw [← hl]
    have : (leftOf es seen).toList = [] := List.eq_nil_of_length_eq_zero (by rw [Array.length_toList]; exact h0)
    rw [this]; rfl
  · have hm := mem_left he
    have hb1 : w1.heap[b]? = some (.map es clock) := by rcases hw1 with rfl | rfl <;> exact hb
    have hr1 : w1.heap[r]? = some (.mapIter (some b) since seen c0) := by rcases hw1 with rfl | rfl <;> exact hr
    have hb2 : (setBlock w1 r (.mapIter (some b) since (seen.push e.born) clock)).heap[b]? = some (.map es clock) := ((but_set (b := r)).block b (Ne.symm hne)).trans hb1
    have hr2 : (setBlock w1 r (.mapIter (some b) since (seen.push e.born) clock)).heap[r]? = some (.mapIter (some b) since (seen.push e.born) clock) := by
      unfold setBlock
      exact Array.getElem?_setIfInBounds_self_of_lt (Array.getElem?_eq_some_iff.1 hr1).1
    refine .inr ⟨e.key, e.val, (leftOf es (seen.push e.born)).toList.map (fun x => (x.key, x.val)), _, ?_, ?_, hrun, ⟨es, clock, since, seen.push e.born, clock, hb2, hs, hk, hE, hr2, hold, hsl, hsl, rfl⟩, ?_, run_entry_at (P := P) _ r b since seen es clock e hr2 hb2 hm.1 hs.2.1⟩
    · rw [← hl, left_push]
      refine List.Perm.map (fun x : MapEntry => (x.key, x.val)) (strike_perm MapEntry.born ?_ he)
      refine List.Nodup.sublist (List.Sublist.map _ ?_) hs.2.1
      unfold leftOf
      rw [Array.toList_filter]
      exact List.filter_sublist
    · rw [← hE]; exact List.mem_map.2 ⟨e, hm.1, rfl⟩
    · rcases hw1 with rfl | rfl
      · exact but_set
      · exact but_drew.trans but_set
/-- A store under a key that has come up already. -/
theorem RangeE.put {w : World} {r b : Nat} {d : TypeDesc} {E left : List (Value × Value)} (h : RangeE w r b d E left) {t k e : TypeId} (ht : P.underlying t = some (.map k e)) (hd : P.underlying k = some d) {key u v : Value} {j : Nat} (hj : E[j]? = some (key, u)) (hn : ∀ p ∈ left, p.1 ≠ key) :
    ∃ w', (Instr.mapUpdate t (.map (some b)) key v).run P w = .ok () w' ∧ But b w w' ∧ RangeE w' r b d (E.set j (key, v)) left := by
  have hne := h.ne
  obtain ⟨es, clock, since, seen, c0, hb, hs, hks, hE, hr, hold, hsc, hsl, hl⟩ := h
  have hnd : (E.map (·.1)).Nodup := by rw [← hE, List.map_map]; exact hs.2.2
  have hx : ∃ x, es[j]? = some x ∧ x.key = key ∧ x.val = u := by
    rw [← hE, List.getElem?_map] at hj
    cases hx : es.toList[j]? with
    | none => rw [hx] at hj; cases hj
    | some x =>
      rw [hx] at hj
      simp only [Option.map_some, Option.some.injEq, Prod.mk.injEq] at hj
      exact ⟨x, by simpa using hx, hj.1, hj.2⟩
  obtain ⟨x, hxj, hxk, hxu⟩ := hx
  have hk : IsKey d key := by rw [← hxk]; exact hks x (Array.mem_toList_iff.2 (Array.mem_of_getElem? hxj))
  rcases findNow_spec hk es.toList 0 hks with ⟨h1, h2⟩ | ⟨j', x', h1, h2, h3⟩
  · exact absurd hxk (h2 x (Array.mem_toList_iff.2 (Array.mem_of_getElem? hxj)))
  · have hj' : es[j']? = some x' := by simpa using h2
    have hjj : j' = j := by
      have l1 : j' < (es.toList.map (·.key)).length := by rw [List.length_map, Array.length_toList]; exact (Array.getElem?_eq_some_iff.1 hj').1
      have l2 : j < (es.toList.map (·.key)).length := by rw [List.length_map, Array.length_toList]; exact (Array.getElem?_eq_some_iff.1 hxj).1
      refine (List.getElem_inj (xs := es.toList.map (·.key)) (h₀ := l1) (h₁ := l2) hs.2.2).1 ?_
      have a1 : (es.toList.map (·.key))[j']? = some x'.key := by rw [List.getElem?_map, h2]; rfl
      have a2 : (es.toList.map (·.key))[j]? = some x.key := by rw [List.getElem?_map]; simp [hxj]
      rw [List.getElem?_eq_getElem l1] at a1
      rw [List.getElem?_eq_getElem l2] at a2
      rw [Option.some.inj a1, Option.some.inj a2, hxk, h3]
    subst hjj
    have hkey : ∀ e', es[j']? = some e' → ({ e' with key := key, val := v } : MapEntry).key = e'.key := fun e' he' => by rw [hj'] at he'; cases he'; exact h3.symm
    have hborn : (es.modify j' fun e => { e with key := key, val := v }).toList.map (·.born) = es.toList.map (·.born) := by
      apply List.ext_getElem?
      intro i
      simp only [List.getElem?_map, Array.getElem?_toList, Array.getElem?_modify]
      by_cases hij : j' = i
      · subst hij; rw [if_pos rfl, hj']; rfl
      · rw [if_neg hij]
    refine ⟨setBlock w b (.map (es.modify j' fun e => { e with key := key, val := v }) clock), ?_, but_set, _, clock, since, seen, c0, heap_setBlock_same hb _, stamped_modify hs _ _ (fun _ _ => rfl) (fun e' _ he' => hkey e' he'), isKey_modify hks _ _ hkey, ?_, (heap_setBlock_other hb _ hne).trans hr, ?_, hsc, hsl, ?_⟩
    · simp only [Instr.mapUpdate, Sem.run_bind, run_underlying ht, Go.MapKept.run_getObj_map hb, Go.MapKept.run_checkKey hd hk, Go.MapKept.run_findKey hd h1, Result.andThen]; simp [hj', h3, run_keyThatStays hk, Go.MapKept.run_setObj_map _ hb, setBlock]
    · rw [map_modify_set es j' x' hj' key v, hE]
    · intro y hy
      have : y.born ∈ (es.modify j' fun e => { e with key := key, val := v }).toList.map (·.born) := List.mem_map.2 ⟨y, hy, rfl⟩
      rw [hborn] at this
      obtain ⟨z, hz, e⟩ := List.mem_map.1 this
      rw [← e]; exact hold z hz
    · -- the entries that are left are others
      rw [← hl]
      have hseen : seen.contains x'.born = true := by
        cases hc : seen.contains x'.born with
        | true => rfl
        | false =>
          refine absurd h3 (hn (x'.key, x'.val) ?_)
          rw [← hl]
          refine List.mem_map.2 ⟨x', ?_, rfl⟩
          unfold leftOf
          rw [Array.toList_filter, List.mem_filter]
          exact ⟨Array.mem_toList_iff.2 (Array.mem_of_getElem? hj'), by rw [hc]; rfl⟩
      unfold leftOf
      rw [Array.toList_filter, Array.toList_filter]
      have hset : (es.modify j' fun e => { e with key := key, val := v }).toList = es.toList.set j' { x' with key := key, val := v } := by
        apply List.ext_getElem?
        intro i
        simp only [Array.getElem?_toList, Array.getElem?_modify, List.getElem?_set]
        by_cases hij : j' = i
        · subst hij; rw [if_pos rfl, if_pos rfl, hj', if_pos (by rw [Array.length_toList]; exact (Array.getElem?_eq_some_iff.1 hj').1)]; rfl
        · rw [if_neg hij, if_neg hij]
      rw [hset]
      have key2 : ∀ (l : List MapEntry) (i : Nat), l[i]? = some x' → (l.set i { x' with key := key, val := v }).filter (fun e => !seen.contains e.born) = l.filter (fun e => !seen.contains e.born) := by
        intro l
        induction l with
        | nil => intro i h; cases h
        | cons y l ih =>
          intro i hi
          cases i with
          | zero =>
            simp only [List.getElem?_cons_zero, Option.some.injEq] at hi
            subst hi
            rw [List.set_cons_zero, List.filter_cons_of_neg (by simp only [hseen]; decide), List.filter_cons_of_neg (by rw [hseen]; decide)]
          | succ i =>
            rw [List.set_cons_succ, List.filter_cons, List.filter_cons, ih i (by simpa using hi)]
      rw [key2 _ _ h2]

/-- An entry that is taken, to be stored into. -/
def EntryAt (w : World) (b : Nat) (d : TypeDesc) (E : List (Value × Value)) (j st : Nat) : Prop :=
  ∃ es clock, w.heap[b]? = some (.map es clock) ∧ Stamped es clock ∧ (∀ x ∈ es.toList, IsKey d x.key) ∧ es.toList.map (fun x => (x.key, x.val)) = E ∧ ∃ x, es[j]? = some x ∧ x.born = st
theorem EntryAt.map {w : World} {b : Nat} {d : TypeDesc} {E : List (Value × Value)} {j st : Nat} (h : EntryAt w b d E j st) : MapE w b d E := by
  obtain ⟨es, clock, h1, h2, h3, h4, _⟩ := h
  exact ⟨es, clock, h1, h2, h3, h4⟩
theorem EntryAt.ext {w w' : World} {b : Nat} {d : TypeDesc} {E : List (Value × Value)} {j st : Nat} (h : EntryAt w b d E j st) (hx : Ext w w') : EntryAt w' b d E j st := by
  obtain ⟨es, clock, h1, h2⟩ := h
  exact ⟨es, clock, by rw [hx.block b (Array.getElem?_eq_some_iff.1 h1).1]; exact h1, h2⟩
theorem EntryAt.grown {w w' : World} {b : Nat} {d : TypeDesc} {E : List (Value × Value)} {j st : Nat} {row : Option Nat} (h : EntryAt w b d E j st) (hg : w.grownBy w' row) (hb : row ≠ some b) : EntryAt w' b d E j st := by
  obtain ⟨es, clock, h1, h2⟩ := h
  exact ⟨es, clock, by rw [hg.block b (Array.getElem?_eq_some_iff.1 h1).1 (Ne.symm hb)]; exact h1, h2⟩
theorem MapE.entry {w : World} {b : Nat} {d : TypeDesc} {E : List (Value × Value)} (h : MapE w b d E) {t k e : TypeId} (ht : P.underlying t = some (.map k e)) (hd : P.underlying k = some d) {z : Value} (hz : ∀ w, (zeroValue e).run P w = .ok z w) {key : Value} (hk : IsKey d key) :
    ∃ w' st, But b w w' ∧
      (((∀ p ∈ E, p.1 ≠ key) ∧ (Instr.mapEntry t (.map (some b)) key).run P w = .ok (.tuple #[z, goInt (st : Nat)]) w' ∧ EntryAt w' b d (E ++ [(key, z)]) E.length st) ∨
       ∃ (j : Nat) (u : Value), E[j]? = some (key, u) ∧ (Instr.mapEntry t (.map (some b)) key).run P w = .ok (.tuple #[u, goInt (st : Nat)]) w' ∧ EntryAt w' b d E j st) := by
  obtain ⟨es, clock, hb, hs, hks, rfl⟩ := h
  rcases findNow_spec hk es.toList 0 hks with ⟨h1, h2⟩ | ⟨j, x, h1, h2, h3⟩
  · refine ⟨setBlock w b (.map (es.push { key, val := z, born := clock }) (clock + 1)), clock, but_set, .inl ⟨fun p hp => ?_, ?_, _, _, heap_setBlock_same hb _, stamped_push hs h2, ?_, by simp, _, by rw [List.length_map, Array.length_toList]; exact Array.getElem?_push_size, rfl⟩⟩
    · obtain ⟨x, hx, rfl⟩ := List.mem_map.1 hp
      exact h2 x hx
    · simp only [Instr.mapEntry, Sem.run_bind, run_underlying ht, Go.MapKept.run_getObj_map hb, Go.MapKept.run_checkKey hd hk, Go.MapKept.run_findKey hd h1, Result.andThen, hz]; simp [Go.MapKept.run_setObj_map _ hb, setBlock]
    · intro x hx
      simp only [Array.toList_push, List.mem_append, List.mem_singleton] at hx
      rcases hx with hx | rfl
      · exact hks x hx
      · exact hk
  · have hj : es[j]? = some x := by simpa using h2
    have hkey : ∀ e', es[j]? = some e' → ({ e' with key := key } : MapEntry).key = e'.key := fun e' he' => by rw [hj] at he'; cases he'; exact h3.symm
    have hset : (es.modify j fun e => { e with key := key }).toList.map (fun x => (x.key, x.val)) = es.toList.map (fun x => (x.key, x.val)) := by
      apply List.ext_getElem?
      intro i
      simp only [List.getElem?_map, Array.getElem?_toList, Array.getElem?_modify]
      by_cases hij : j = i
      · subst hij; rw [if_pos rfl, hj]; simp [h3]
      · rw [if_neg hij]
    refine ⟨setBlock w b (.map (es.modify j fun e => { e with key := key }) clock), x.born, but_set, .inr ⟨j, x.val, ?_, ?_, _, _, heap_setBlock_same hb _, stamped_modify hs _ _ (fun _ _ => rfl) (fun e' _ he' => hkey e' he'), isKey_modify hks _ _ hkey, hset, { x with key := key }, ?_, rfl⟩⟩
    · rw [List.getElem?_map, h2]; simp [h3]
    · simp only [Instr.mapEntry, Sem.run_bind, run_underlying ht, Go.MapKept.run_getObj_map hb, Go.MapKept.run_checkKey hd hk, Go.MapKept.run_findKey hd h1, Result.andThen]; simp [hj, h3, run_keyThatStays hk, Go.MapKept.run_setObj_map _ hb, setBlock]
    · rw [Array.getElem?_modify, if_pos rfl, hj]; rfl
theorem EntryAt.store {w : World} {b : Nat} {d : TypeDesc} {E : List (Value × Value)} {j st : Nat} (h : EntryAt w b d E j st) (t : TypeId) (v : Value) {key u : Value} (hj : E[j]? = some (key, u)) :
    ∃ w', (Instr.entryStore t (.map (some b)) (goInt (st : Nat)) v).run P w = .ok () w' ∧ But b w w' ∧ MapE w' b d (E.set j (key, v)) := by
  obtain ⟨es, clock, hb, hs, hks, rfl, x, hx, rfl⟩ := h
  have hfi : es.findIdx? (fun e => (e.born : Int) == (x.born : Int)) = some j := by
    rw [Array.findIdx?_eq_some_iff_getElem]
    obtain ⟨hjl, ej⟩ := Array.getElem?_eq_some_iff.1 hx
    refine ⟨hjl, by rw [ej]; simp, fun i hij => ?_⟩
    have l1 : i < (es.toList.map (·.born)).length := by rw [List.length_map, Array.length_toList]; omega
    have l2 : j < (es.toList.map (·.born)).length := by rw [List.length_map, Array.length_toList]; omega
    intro he
    have he2 : es[i].born = x.born := by
      have := of_decide_eq_true (by simpa using he : decide ((es[i].born : Int) = (x.born : Int)) = true)
      omega
    have : i = j := (List.getElem_inj (xs := es.toList.map (·.born)) (h₀ := l1) (h₁ := l2) hs.2.1).1 (by simp [he2, ej])
    omega
  have hkey : x.key = key := by
    rw [List.getElem?_map] at hj
    simp [hx] at hj
    exact hj.1
  have hset : (es.modify j fun e => { e with val := v }).toList.map (fun x => (x.key, x.val)) = (es.toList.map (fun x => (x.key, x.val))).set j (key, v) := by
    apply List.ext_getElem?
    intro i
    simp only [List.getElem?_map, Array.getElem?_toList, Array.getElem?_modify, List.getElem?_set, List.length_map]
    by_cases hji : j = i
    · subst hji
      rw [if_pos rfl, if_pos rfl, hx, if_pos (by rw [Array.length_toList]; exact (Array.getElem?_eq_some_iff.1 hx).1)]
      simp [hkey]
    · rw [if_neg hji, if_neg hji]
  refine ⟨setBlock w b (.map (es.modify j fun e => { e with val := v }) clock), ?_, but_set, _, _, heap_setBlock_same hb _, stamped_modify hs _ _ (fun _ _ => rfl) (fun _ _ _ => rfl), isKey_modify hks _ _ (fun _ _ => rfl), hset⟩
  simp only [Instr.entryStore, Sem.run_bind, Go.MapKept.run_getObj_map hb, Result.andThen, goInt, asInt, asIntOf]
  simp [hfi, Go.MapKept.run_setObj_map _ hb, setBlock]

/-! At the operation, for the walk -/
theorem wpList_rangeE {ops : Array Oper} {Q : Exit → Act → World → Prop} {a : Act} {w : World} {rest : List Oper} {o : Oper} (hg : o.guard = none) (m : Operand) (t : TypeId) (hop : o.op = Op.range t m)
    {k e : TypeId} {d : TypeDesc} (ht : P.underlying t = some (.map k e)) {b : Nat} {E : List (Value × Value)} (hm : a.eval m = .map (some b)) (h : MapE w b d E)
    (hK : ∀ w', RangeE w' w.heap.size b d E E → Ext w w' → wpList P ops Q rest (a.put o.dst (.pointer (some ⟨w.heap.size, 0, none⟩))) w') : wpList P ops Q (o :: rest) a w := by
  refine wpList_plain hg fun K' hK' => ?_
  obtain ⟨w', hrun, r1, r2⟩ := h.range ht
  unfold Oper.wp
  simp [execOp, hop, hm, hrun, Result.andThen]
  exact hK' _ _ (hK w' r1 r2)
theorem wpList_nextE {ops : Array Oper} {Q : Exit → Act → World → Prop} {a : Act} {w : World} {rest : List Oper} {o : Oper} (hg : o.guard = none) (it : Operand) (hop : o.op = Op.next it false)
    {r b : Nat} {d : TypeDesc} {E left : List (Value × Value)} (hit : a.eval it = .pointer (some ⟨r, 0, none⟩)) (h : RangeE w r b d E left)
    (hDone : left = [] → wpList P ops Q rest (a.put o.dst (.tuple #[.bool false])) w)
    (hMore : ∀ k v left' w', left.Perm ((k, v) :: left') → (k, v) ∈ E → RangeE w' r b d E left' → But r w w' → (Instr.entry (.pointer (some ⟨r, 0, none⟩))).run P w' = .ok (.tuple #[k, v]) w' → wpList P ops Q rest (a.put o.dst (.tuple #[.bool true, k, v])) w') :
    wpList P ops Q (o :: rest) a w := by
  refine wpList_plain hg fun K' hK' => ?_
  unfold Oper.wp
  rcases h.next (P := P) o.type with ⟨h0, hrun⟩ | ⟨k, v, left', w', h1, h2, hrun, h3, h4, h5⟩
  · simp [execOp, hop, hit, hrun, Result.andThen]
    exact hK' _ _ (hDone h0)
  · simp [execOp, hop, hit, hrun, Result.andThen]
    exact hK' _ _ (hMore k v left' w' h1 h2 h3 h4 h5)
theorem wpList_putR {ops : Array Oper} {Q : Exit → Act → World → Prop} {a : Act} {w : World} {rest : List Oper} {o : Oper} (hg : o.guard = none) (m x v : Operand) (t : TypeId) (hop : o.op = .mapUpdate t m x v)
    {k e : TypeId} {d : TypeDesc} (ht : P.underlying t = some (.map k e)) (hd : P.underlying k = some d) {r b j : Nat} {E left : List (Value × Value)} {u : Value} (hm : a.eval m = .map (some b)) (h : RangeE w r b d E left) (hj : E[j]? = some (a.eval x, u)) (hn : ∀ p ∈ left, p.1 ≠ a.eval x)
    (hK : ∀ w', But b w w' → RangeE w' r b d (E.set j (a.eval x, a.eval v)) left → wpList P ops Q rest (a.put o.dst undef) w') : wpList P ops Q (o :: rest) a w := by
  refine wpList_plain hg fun K' hK' => ?_
  obtain ⟨w', hrun, r1, r2⟩ := h.put ht hd hj hn (v := a.eval v)
  unfold Oper.wp
  simp [execOp, hop, hm, hrun, Result.andThen]
  exact hK' _ _ (hK w' r1 r2)
theorem wpList_entryE {ops : Array Oper} {Q : Exit → Act → World → Prop} {a : Act} {w : World} {rest : List Oper} {o : Oper} (hg : o.guard = none) (m x : Operand) (t : TypeId) (hop : o.op = .mapEntry t m x)
    {k e : TypeId} {d : TypeDesc} (ht : P.underlying t = some (.map k e)) (hd : P.underlying k = some d) {z : Value} (hz : ∀ w, (zeroValue e).run P w = .ok z w) {b : Nat} {E : List (Value × Value)} (hm : a.eval m = .map (some b)) (h : MapE w b d E) (hk : IsKey d (a.eval x))
    (hNew : ∀ w' st, But b w w' → (∀ p ∈ E, p.1 ≠ a.eval x) → EntryAt w' b d (E ++ [(a.eval x, z)]) E.length st → wpList P ops Q rest (a.put o.dst (.tuple #[z, goInt (st : Nat)])) w')
    (hOld : ∀ w' st j u, But b w w' → E[j]? = some (a.eval x, u) → EntryAt w' b d E j st → wpList P ops Q rest (a.put o.dst (.tuple #[u, goInt (st : Nat)])) w') : wpList P ops Q (o :: rest) a w := by
  refine wpList_plain hg fun K' hK' => ?_
  unfold Oper.wp
  obtain ⟨w', st, hb, ⟨hn, hrun, h1⟩ | ⟨j, u, hj, hrun, h1⟩⟩ := h.entry ht hd hz hk
  · simp [execOp, hop, hm, hrun, Result.andThen]
    exact hK' _ _ (hNew w' st hb hn h1)
  · simp [execOp, hop, hm, hrun, Result.andThen]
    exact hK' _ _ (hOld w' st j u hb hj h1)
theorem wpList_estore {ops : Array Oper} {Q : Exit → Act → World → Prop} {a : Act} {w : World} {rest : List Oper} {o : Oper} (hg : o.guard = none) (m s v : Operand) (t : TypeId) (hop : o.op = .entryStore t m s v)
    {d : TypeDesc} {b j st : Nat} {E : List (Value × Value)} {key u : Value} (hm : a.eval m = .map (some b)) (hs : a.eval s = goInt (st : Nat)) (h : EntryAt w b d E j st) (hj : E[j]? = some (key, u))
    (hK : ∀ w', But b w w' → MapE w' b d (E.set j (key, a.eval v)) → wpList P ops Q rest (a.put o.dst undef) w') : wpList P ops Q (o :: rest) a w := by
  refine wpList_plain hg fun K' hK' => ?_
  obtain ⟨w', hrun, r1, r2⟩ := h.store t (a.eval v) hj (P := P)
  unfold Oper.wp
  simp [execOp, hop, hm, hs, hrun, Result.andThen]
  exact hK' _ _ (hK w' r1 r2)
end
theorem RangeE.left_eq {w : World} {r b : Nat} {d : TypeDesc} {E left : List (Value × Value)} (h : RangeE w r b d E left) : w.rangeLeft b r = left.length := by
  obtain ⟨es, clock, since, seen, c0, h1, _, _, _, h5, _, _, _, h9⟩ := h
  simp only [World.rangeLeft, h1, h5]
  rw [← h9, List.length_map, Array.length_toList]

section
variable {P : Program}
theorem MapE.len {w : World} {b : Nat} {d : TypeDesc} {E : List (Value × Value)} (h : MapE w b d E) {t k e : TypeId} (ht : P.underlying t = some (.map k e)) (ty : TypeId) :
    (Builtin.len_ #[t] ty #[.map (some b)]).run P w = .ok (.int .i64 (E.length : Nat)) w := by
  obtain ⟨es, clock, hb, _, _, rfl⟩ := h
  have hl : (es.toList.map fun x => (x.key, x.val)).length = es.size := by rw [List.length_map, Array.length_toList]
  rw [hl]
  simp [Builtin.len_, run_underlying ht, Go.MapKept.run_getObj_map hb, goInt, Result.andThen]
theorem MapE.known {w : World} {b : Nat} {d : TypeDesc} {E : List (Value × Value)} (h : MapE w b d E) {t k e : TypeId} (ht : P.underlying t = some (.map k e)) (hd : P.underlying k = some d) {z : Value} (hz : (zeroValue e).run P w = .ok z w) {key v : Value} (hm : (key, v) ∈ E) :
    (Instr.lookup t (.map (some b)) key false).run P w = .ok v w ∧ (Instr.lookup t (.map (some b)) key true).run P w = .ok (.tuple #[v, .bool true]) w := by
  obtain ⟨i, hi⟩ := List.mem_iff_getElem?.1 hm
  rcases h.look (P := P) ht hd hz (h.keys.1 _ hm) with ⟨h1, _⟩ | ⟨j, u, hj, h1, h2⟩
  · exact absurd rfl (h1 _ hm)
  · have e1 : (E.map (·.1))[i]? = some key := by rw [List.getElem?_map, hi]; rfl
    have e2 : (E.map (·.1))[j]? = some key := by rw [List.getElem?_map, hj]; rfl
    have : i = j := (List.getElem?_inj (List.getElem?_eq_some_iff.1 e1).1 h.keys.2).1 (e1.trans e2.symm)
    subst this
    rw [hi] at hj
    simp only [Option.some.injEq, Prod.mk.injEq, true_and] at hj
    subst hj
    exact ⟨h1, h2⟩
theorem MapE.unknown {w : World} {b : Nat} {d : TypeDesc} {E : List (Value × Value)} (h : MapE w b d E) {t k e : TypeId} (ht : P.underlying t = some (.map k e)) (hd : P.underlying k = some d) {z : Value} (hz : (zeroValue e).run P w = .ok z w) {key : Value} (hk : IsKey d key) (hm : ∀ p ∈ E, p.1 ≠ key) :
    (Instr.lookup t (.map (some b)) key false).run P w = .ok z w ∧ (Instr.lookup t (.map (some b)) key true).run P w = .ok (.tuple #[z, .bool false]) w := by
  rcases h.look (P := P) ht hd hz hk with ⟨_, h1, h2⟩ | ⟨j, u, hj, _⟩
  · exact ⟨h1, h2⟩
  · exact absurd rfl (hm _ (List.mem_of_getElem? hj))
theorem wpList_lenE {ops : Array Oper} {Q : Exit → Act → World → Prop} {a : Act} {w : World} {rest : List Oper} {o : Oper} (m : Operand) (t : TypeId) (hop : o.op = Op.call { callee := Callee.builtin Builtin.len, args := #[m], argTypes := #[t] }) (hw : Region.wanted o (yielded ops a.tmps) = true)
    {k e : TypeId} {d : TypeDesc} (ht : P.underlying t = some (.map k e)) {b : Nat} {E : List (Value × Value)} (hm : a.eval m = .map (some b)) (h : MapE w b d E) {n : Nat} (hn : E.length = n)
    (hK : wpList P ops Q rest (a.put o.dst (.int .i64 n)) w) : wpList P ops Q (o :: rest) a w := by
  subst hn
  exact wpList_val hw (by simp [execOp, hop, resolve, invoke, builtin, hm, h.len ht o.type, Result.andThen]) hK
end
end Go.Proofs.YtlhbpflcffjhmaaGreat

namespace Go.Proofs.YtlhbpflcffjhmaaGreat
open Go.RowKit

theorem block_later {w w' : World} {b : Nat} {o : Obj} (h : w.heap[b]? = some o) (hx : Ext w w') : w'.heap[b]? = some o :=
  (hx.block b (Array.getElem?_eq_some_iff.1 h).1).trans h
theorem boxes1 (w : World) (a : Obj) : Ext w (w.alloc a) ∧ (w.alloc a).heap[w.heap.size]? = some a :=
  ⟨(Ext.refl w).alloc _, heap_alloc_new w a⟩
theorem boxes2 (w : World) (a b : Obj) : Ext w ((w.alloc a).alloc b) ∧ ((w.alloc a).alloc b).heap[w.heap.size]? = some a ∧ ((w.alloc a).alloc b).heap[w.heap.size + 1]? = some b := by
  refine ⟨((Ext.refl w).alloc _).alloc _, block_later (heap_alloc_new w a) ((Ext.refl _).alloc _), ?_⟩
  have h := heap_alloc_new (w.alloc a) b
  rw [World.size_alloc] at h; exact h
theorem boxes3 (w : World) (a b c : Obj) : Ext w (((w.alloc a).alloc b).alloc c) ∧ (((w.alloc a).alloc b).alloc c).heap[w.heap.size]? = some a ∧ (((w.alloc a).alloc b).alloc c).heap[w.heap.size + 1]? = some b ∧ (((w.alloc a).alloc b).alloc c).heap[w.heap.size + 1 + 1]? = some c := by
  obtain ⟨h1, h2, h3⟩ := boxes2 w a b
  have hx : Ext ((w.alloc a).alloc b) (((w.alloc a).alloc b).alloc c) := (Ext.refl _).alloc _
  refine ⟨h1.trans hx, block_later h2 hx, block_later h3 hx, ?_⟩
  have h := heap_alloc_new ((w.alloc a).alloc b) c
  rw [World.size_alloc, World.size_alloc] at h; exact h
theorem boxes4 (w : World) (a b c d : Obj) : Ext w ((((w.alloc a).alloc b).alloc c).alloc d) ∧ ((((w.alloc a).alloc b).alloc c).alloc d).heap[w.heap.size]? = some a ∧ ((((w.alloc a).alloc b).alloc c).alloc d).heap[w.heap.size + 1]? = some b ∧ ((((w.alloc a).alloc b).alloc c).alloc d).heap[w.heap.size + 1 + 1]? = some c ∧ ((((w.alloc a).alloc b).alloc c).alloc d).heap[w.heap.size + 1 + 1 + 1]? = some d := by
  obtain ⟨h1, h2, h3, h4⟩ := boxes3 w a b c
  have hx : Ext (((w.alloc a).alloc b).alloc c) ((((w.alloc a).alloc b).alloc c).alloc d) := (Ext.refl _).alloc _
  refine ⟨h1.trans hx, block_later h2 hx, block_later h3 hx, block_later h4 hx, ?_⟩
  have h := heap_alloc_new (((w.alloc a).alloc b).alloc c) d
  rw [World.size_alloc, World.size_alloc, World.size_alloc] at h; exact h
end Go.Proofs.YtlhbpflcffjhmaaGreat

namespace Go.Proofs.YtlhbpflcffjhmaaGreat
open Go.RowKit

/-- A predicate in rows of the types of predicates, all of them from block b on. -/
def PredT (b : Nat) (w : World) (h : Value) (p : List C) : Prop := ∃ us : List CS, us.map CS.c = p ∧ w.ownsRow b 64 7 h us.length (us.flatMap csC) ∧ ∀ x ∈ us, SetO b w x
theorem PredT.pred {b : Nat} {w : World} {h : Value} {p : List C} (k : PredT b w h p) : PredR w h p := by
  obtain ⟨us, rfl, h1, h2⟩ := k
  exact PredR.mk us (Row.of_own h1) fun x hx => (h2 x hx).set
theorem PredT.ext {b : Nat} {w w' : World} {h : Value} {p : List C} (k : PredT b w h p) (hx : Ext w w') : PredT b w' h p := by
  obtain ⟨us, e, h1, h2⟩ := k
  exact ⟨us, e, own_ext h1 hx, fun x hm => (h2 x hm).ext hx⟩
theorem PredT.low {b c : Nat} {w : World} {h : Value} {p : List C} (k : PredT b w h p) (hb : c ≤ b) : PredT c w h p := by
  obtain ⟨us, e, h1, h2⟩ := k
  exact ⟨us, e, own_low h1 hb, fun x hm => own_low (h2 x hm) hb⟩
theorem PredT.none (b : Nat) (w : World) : PredT b w (.slice none 0 0) [] := ⟨[], rfl, own_none _ _ _ _, fun _ h => by cases h⟩
theorem PredT.of {b : Nat} {w : World} {h : Value} {us : List CS} (h1 : w.ownsRow b 64 7 h us.length (us.flatMap csC)) (h2 : ∀ x ∈ us, SetO b w x) : PredT b w h (us.map CS.c) := ⟨us, rfl, h1, h2⟩

/-- The blocks of M may turn, and those rows of type T that lie from base on; all else stays. -/
structure TurnT (M : Nat → Prop) (T : TypeId) (base : Nat) (w w' : World) : Prop where
  os : w'.os = w.os
  tape : w'.tape = w.tape
  output : w'.output = w.output
  size : w.heap.size ≤ w'.heap.size
  block : ∀ k, k < w.heap.size → ¬ M k → (base ≤ k → ∀ cs fr, w.heap[k]? ≠ some (.cells cs T fr)) → w'.heap[k]? = w.heap[k]?
variable {M : Nat → Prop} {T : TypeId} {base : Nat}
theorem TurnT.refl (M : Nat → Prop) (T : TypeId) (base : Nat) (w : World) : TurnT M T base w w := ⟨rfl, rfl, rfl, Nat.le_refl _, fun _ _ _ _ => rfl⟩
theorem TurnT.trans {a b c : World} (h : TurnT M T base a b) (k : TurnT M T base b c) : TurnT M T base a c :=
  ⟨k.os.trans h.os, k.tape.trans h.tape, k.output.trans h.output, Nat.le_trans h.size k.size, fun i hi hM hT => by
    have e := h.block i hi hM hT
    rw [← e]
    exact k.block i (Nat.lt_of_lt_of_le hi h.size) hM fun hb cs fr => by rw [e]; exact hT hb cs fr⟩
theorem TurnT.mono {N : Nat → Prop} {w w' : World} (h : TurnT M T base w w') (hMN : ∀ k, M k → N k) : TurnT N T base w w' := ⟨h.os, h.tape, h.output, h.size, fun k hk hN hT => h.block k hk (fun hm => hN (hMN k hm)) hT⟩
theorem TurnT.of_ext {w w' : World} (h : Ext w w') : TurnT M T base w w' := ⟨h.os, h.tape, h.output, h.size, fun k hk _ _ => h.block k hk⟩
theorem TurnT.of_grown {w w' : World} {row : Option Nat} (hg : w.grownBy w' row) (h : ∀ k, row = some k → M k ∨ (base ≤ k ∧ ∃ cs fr, w.heap[k]? = some (.cells cs T fr))) : TurnT M T base w w' :=
  ⟨hg.os, hg.tape, hg.output, hg.size, fun k hk hM hT => hg.block k hk fun e => by
    rcases h k e.symm with h | ⟨h1, cs, fr, h2⟩
    · exact hM h
    · exact hT h1 cs fr h2⟩
theorem TurnT.of_row {w w' : World} {b size n : Nat} {v : Value} {xs : List Value} (ho : w.ownsRow b T size v n xs) (hb : base ≤ b) (hg : w.grownBy w' v.ownBlock) : TurnT M T base w w' := by
  refine TurnT.of_grown hg fun k hk => .inr ?_
  refine ⟨Nat.le_trans hb (own_base ho k hk), ?_⟩
  rcases ho.2 with ⟨rfl, _⟩ | ⟨g, cap, cur, rfl, _, hg, _⟩
  · simp [Value.ownBlock] at hk
  · simp only [Value.ownBlock, Option.some.injEq] at hk
    subst hk
    exact ⟨_, _, hg⟩
theorem But.ofM {w w' : World} {b : Nat} (h : But b w w') (hM : M b) : TurnT M T base w w' :=
  ⟨h.os, h.tape, h.output, by rw [h.size]; exact Nat.le_refl _, fun k _ hk _ => h.block k fun e => hk (e ▸ hM)⟩
/-- A block that is new turns. -/
theorem TurnT.skip {a b c : World} (h : TurnT M T base a b) {row : Option Nat} (hg : b.grownBy c row) (hr : ∀ k, row = some k → a.heap.size ≤ k) : TurnT M T base a c :=
  ⟨hg.os.trans h.os, hg.tape.trans h.tape, hg.output.trans h.output, Nat.le_trans h.size hg.size, fun i hi hM hT => (hg.block i (Nat.lt_of_lt_of_le hi h.size) fun e => by have := hr i e.symm; omega).trans (h.block i hi hM hT)⟩
theorem TurnT.ext {W w w' : World} (h : TurnT M T base w w') (hx : Ext W w) (hb : W.heap.size ≤ base) (hM : ∀ k, M k → W.heap.size ≤ k) : Ext W w' :=
  ⟨h.os.trans hx.os, h.tape.trans hx.tape, h.output.trans hx.output, Nat.le_trans hx.size h.size, fun k hk =>
    (h.block k (Nat.lt_of_lt_of_le hk hx.size) (fun hm => by have := hM k hm; omega) (fun hb2 => by omega)).trans (hx.block k hk)⟩
theorem TurnT.heap {w w' : World} (h : TurnT M T base w w') {k : Nat} {o : Obj} (ho : w.heap[k]? = some o) (hM : ¬ M k) (hT : ∀ cs fr, o ≠ .cells cs T fr) : w'.heap[k]? = some o :=
  (h.block k (Array.getElem?_eq_some_iff.1 ho).1 hM fun _ cs fr e => hT cs fr (Option.some.inj (ho.symm.trans e))).trans ho
theorem TurnT.box {w w' : World} (h : TurnT M T base w w') {k : Nat} {cs : Array Value} {t : TypeId} {fr : Nat × Nat} (ho : w.heap[k]? = some (.cells cs t fr)) (hM : ¬ M k) (hT : t ≠ T) : w'.heap[k]? = some (.cells cs t fr) :=
  h.heap ho hM fun _ _ e => by cases e; exact hT rfl
theorem TurnT.own {w w' : World} (h : TurnT M T base w w') {b size n : Nat} {e : TypeId} {v : Value} {xs : List Value} (ho : w.ownsRow b e size v n xs) (hM : ∀ k, v.ownBlock = some k → ¬ M k) (hT : e ≠ T) : w'.ownsRow b e size v n xs := by
  obtain ⟨h1, h2⟩ := ho
  refine ⟨h1, ?_⟩
  rcases h2 with h2 | ⟨g, cap, cur, hv, hg, hh, r⟩
  · exact .inl h2
  · exact .inr ⟨g, cap, cur, hv, hg, h.box hh (hM g (by rw [hv]; rfl)) hT, r⟩
/-- No row is a map. -/
theorem own_noMap {w : World} {b size n k : Nat} {e : TypeId} {v : Value} {xs : List Value} (ho : w.ownsRow b e size v n xs) (hk : v.ownBlock = some k) {es : Array MapEntry} {c : Nat} : w.heap[k]? ≠ some (.map es c) := by
  rcases ho.2 with ⟨rfl, _⟩ | ⟨g, cap, cur, rfl, _, hg, _⟩
  · simp [Value.ownBlock] at hk
  · simp only [Value.ownBlock, Option.some.injEq] at hk
    subst hk
    rw [hg]; exact fun h => by cases h
theorem PredT.turn {b : Nat} {w w' : World} {h : Value} {p : List C} (k : PredT b w h p) (ht : TurnT M T base w w') (hM : ∀ q, M q → (∃ es c, w.heap[q]? = some (.map es c)) ∨ q < b) (h1 : 64 ≠ T) (h2 : 61 ≠ T) : PredT b w' h p := by
  obtain ⟨us, e, p1, p2⟩ := k
  have key : ∀ {e : TypeId} {size n : Nat} {v : Value} {xs : List Value}, w.ownsRow b e size v n xs → ∀ q, v.ownBlock = some q → ¬ M q := fun ho q hq hm => by
    rcases hM q hm with ⟨es, c, hh⟩ | hl
    · exact own_noMap ho hq hh
    · have := own_base ho q hq; omega
  exact ⟨us, e, ht.own p1 (key p1) h1, fun x hx => ht.own (p2 x hx) (key (p2 x hx)) h2⟩
theorem MapE.turn {w w' : World} (h : TurnT M T base w w') {b : Nat} {d : TypeDesc} {E : List (Value × Value)} (hm : MapE w b d E) (hM : ¬ M b) : MapE w' b d E := by
  obtain ⟨es, clock, h1, h2⟩ := hm
  exact ⟨es, clock, h.heap h1 hM (fun _ _ e => by cases e), h2⟩
end Go.Proofs.YtlhbpflcffjhmaaGreat

namespace Go.Proofs.YtlhbpflcffjhmaaGreat
open Go.RowKit Go.Sort

theorem flatK_eq {α : Type} [Inhabited α] (enc : α → List Value) (k : Nat) (hk0 : 0 < k) (hk : ∀ x, (enc x).length = k) (l : List α) : flatK enc k l.toArray = (l.flatMap enc).toArray := by
  have hl := flat_len enc k hk l
  apply Array.ext
  · simp only [size_flatK, List.size_toArray, hl]
  · intro t h1 h2
    have h1' : t < l.length * k := by simpa using h1
    have hd : t / k < l.length := by rw [Nat.div_lt_iff_lt_mul hk0]; exact h1'
    have hm : t % k < k := Nat.mod_lt _ hk0
    have hg := flat_get enc k hk l (t / k) hd (t % k) hm
    have e : t / k * k + t % k = t := by rw [Nat.mul_comm]; exact Nat.div_add_mod t k
    rw [e] at hg
    have hf := get_flatK enc k l.toArray t (by simpa using h1')
    rw [getElem!_pos _ t h1] at hf
    rw [hf]
    have hx : (l.toArray)[t / k]! = l[t / k] := by rw [getElem!_pos _ _ (by simpa using hd)]; simp
    rw [hx]
    have h2' : t < (l.flatMap enc).length := by rw [hl]; exact h1'
    rw [List.getElem?_eq_getElem h2', List.getElem?_eq_getElem (by rw [hk]; exact hm)] at hg
    rw [getElem!_pos _ _ (by rw [hk]; exact hm)]
    have := Option.some.inj hg
    simp only [List.getElem_toArray]
    exact this.symm

theorem own_holds {w : World} {base g n cap size : Nat} {e : TypeId} {xs : List Value} (h : w.ownsRow base e size (.slice (some ⟨g, 0, none⟩) n cap) n xs) :
    ∃ cur, w.heap[g]? = some (.cells cur e (0, 0)) ∧ base ≤ g ∧ n ≤ cap ∧ cap ≤ maxLen ∧ cur.size = cap * size ∧ g < w.heap.size ∧ Holds id w g 0 xs.toArray := by
  obtain ⟨hl, h | ⟨g', cap', cur, e0, hb, hg, hn, hm, hs, ht⟩⟩ := h
  · cases h.1
  · injection e0 with e1 _ e3
    injection e1 with e1
    injection e1 with e1
    subst e1; subst e3
    refine ⟨cur, hg, hb, hn, hm, hs, (Array.getElem?_eq_some_iff.1 hg).1, fun j hj => ?_⟩
    have hj' : j < xs.length := by simpa using hj
    refine ⟨?_, by simp [World.frozen?, hg]⟩
    have e2 : (cur.toList.take (n * size))[j]? = xs[j]? := by rw [ht]
    rw [List.getElem?_take, if_pos (by omega), Array.getElem?_toList, List.getElem?_eq_getElem hj'] at e2
    simp only [World.cell?, hg, Nat.zero_add]
    simp only [Option.isSome_none, Bool.false_eq_true, if_false]
    rw [e2]
    simp [getElem!_pos, hj']

theorem grownBy_row {w : World} {g n : Nat} {os : Array Obj} (d : Array Value) : w.grownBy (grow (putRow id (Sort.ahead w n) g 0 d) os) (some g) := by
  refine ⟨rfl, rfl, rfl, by simp, fun k hk hne => ?_⟩
  rw [heap_grow_old _ _ (by simpa using hk)]
  have : g ≠ k := fun e => hne (by rw [e])
  simp [putRow, mapBlock, Sort.ahead, Array.getElem?_modify, this]

theorem take_put (cur : Array Value) (ts : List Value) (h : ts.length ≤ cur.size) : (putCells id 0 ts.toArray cur).toList.take ts.length = ts := by
  apply List.ext_getElem?
  intro j
  by_cases hj : j < ts.length
  · rw [List.getElem?_take_of_lt hj, Array.getElem?_toList]
    simp [putCells, hj, show j < cur.size by omega]
  · rw [List.getElem?_take_eq_none (by omega), List.getElem?_eq_none (by omega)]

theorem own_put {w : World} {base g n cap size m : Nat} {e : TypeId} {os : Array Obj} {xs ys : List Value} (h : w.ownsRow base e size (.slice (some ⟨g, 0, none⟩) n cap) n xs) (hy : ys.length = xs.length) :
    (grow (putRow id (Sort.ahead w m) g 0 ys.toArray) os).ownsRow base e size (.slice (some ⟨g, 0, none⟩) n cap) n ys := by
  have hl := h.1
  obtain ⟨cur, hg, hb, hn, hm, hs, hlt, _⟩ := own_holds h
  refine ⟨by omega, .inr ⟨g, cap, putCells id 0 ys.toArray cur, rfl, hb, ?_, hn, hm, by simp [putCells, hs], ?_⟩⟩
  · rw [heap_grow_old _ _ (by simpa using hlt)]
    simp [putRow, mapBlock, Sort.ahead, Array.getElem?_modify, hg, onCells]
  · rw [← hl, ← hy]
    have : n * size ≤ cap * size := Nat.mul_le_mul_right _ hn
    exact take_put cur ys (by omega)

/-- The sort, over any two structs' order: what stands behind it. -/
theorem own_sorted {α : Type} [Inhabited α] {w : World} {base g n cap k m : Nat} {e : TypeId} {os : Array Obj} (enc : α → List Value) (hk0 : 0 < k) (hk : ∀ x, (enc x).length = k) {l l' : List α}
    (h : w.ownsRow base e k (.slice (some ⟨g, 0, none⟩) n cap) n (l.flatMap enc)) (hll : l'.length = l.length) :
    (sortWorldK enc k w g 0 m l'.toArray os).ownsRow base e k (.slice (some ⟨g, 0, none⟩) n cap) n (l'.flatMap enc) ∧ w.grownBy (sortWorldK enc k w g 0 m l'.toArray os) (some g) := by
  unfold sortWorldK putRowK
  rw [flatK_eq enc k hk0 hk]
  exact ⟨own_put h (by rw [flat_len enc k hk, flat_len enc k hk, hll]), grownBy_row _⟩
theorem own_holdsK {α : Type} [Inhabited α] {w : World} {base g n cap k : Nat} {e : TypeId} (enc : α → List Value) (hk0 : 0 < k) (hk : ∀ x, (enc x).length = k) {l : List α}
    (h : w.ownsRow base e k (.slice (some ⟨g, 0, none⟩) n cap) n (l.flatMap enc)) : HoldsK enc k w g 0 l.toArray := by
  unfold HoldsK
  rw [flatK_eq enc k hk0 hk]
  obtain ⟨_, _, _, _, _, _, _, hH⟩ := own_holds h
  exact hH
/-- A list sorted by an order, in the sort's words and in mine. -/
theorem sorted_list {α : Type} [Inhabited α] {cf : α → α → Int} {l : List α} {d' : Array α} (hp : PermIn 0 l.toArray.size l.toArray d') (hs : SortedIn (ltOf cf) 0 l.toArray.size d') (hanti : ∀ a b, cf b a = - cf a b) :
    d'.toList.Perm l ∧ d'.toList.Pairwise fun a b => cf a b ≤ 0 := by
  have hsz : d'.size = l.length := by simpa using hp.1
  have h1 := hp.2.2
  have e1 : d'.extract 0 l.toArray.size = d' := by rw [List.size_toArray, ← hsz, Array.extract_size]
  have e2 : l.toArray.extract 0 l.toArray.size = l.toArray := by rw [Array.extract_size]
  rw [e1, e2] at h1
  refine ⟨h1, List.pairwise_iff_getElem.2 fun i j hi hj hij => ?_⟩
  have hj' : j < d'.size := by simpa using hj
  have hi' : i < d'.size := by simpa using hi
  have h2 := hs i j (Nat.zero_le _) hij (by simp; omega)
  rw [getElem!_pos d' j hj', getElem!_pos d' i hi'] at h2
  unfold ltOf at h2
  have h3 := of_decide_eq_false h2
  have h4 := hanti d'[i] d'[j]
  simp only [Array.getElem_toList]
  omega
end Go.Proofs.YtlhbpflcffjhmaaGreat

namespace Go.Proofs.YtlhbpflcffjhmaaGreat
open Go.RowKit Go.Sort

theorem flat_set {α : Type} (enc : α → List Value) (k : Nat) (hk : ∀ x, (enc x).length = k) (l : List α) (i : Nat) (hi : i < l.length) (x : α) :
    setMany (l.flatMap enc).toArray (i * k) (enc x) = ((l.set i x).flatMap enc).toArray := by
  have hl := flat_len enc k hk l
  have hl2 := flat_len enc k hk (l.set i x)
  rw [List.length_set] at hl2
  have hin : i * k + k ≤ l.length * k := by
    have : (i + 1) * k ≤ l.length * k := Nat.mul_le_mul_right _ hi
    rw [Nat.succ_mul] at this; exact this
  refine ext_get! (by simp only [size_setMany, List.size_toArray, hl, hl2]) fun t ht => ?_
  have ht' : t < l.length * k := by simpa [hl] using ht
  have hk0 : 0 < k := by
    rcases Nat.eq_zero_or_pos k with h | h
    · rw [h, Nat.mul_zero] at ht'; exact absurd ht' (Nat.not_lt_zero _)
    · exact h
  rw [get_setMany _ _ _ t (by simpa [hl] using ht'), hk]
  have hd : t / k < l.length := by rw [Nat.div_lt_iff_lt_mul hk0]; exact ht'
  have hm : t % k < k := Nat.mod_lt _ hk0
  have e : t / k * k + t % k = t := by rw [Nat.mul_comm]; exact Nat.div_add_mod t k
  have g1 := flat_get enc k hk l (t / k) hd (t % k) hm
  have g2 := flat_get enc k hk (l.set i x) (t / k) (by rw [List.length_set]; exact hd) (t % k) hm
  rw [e] at g1 g2
  have hds : t / k < (l.set i x).length := by rw [List.length_set]; exact hd
  have q2 : ((l.set i x).flatMap enc).toArray[t]! = (enc ((l.set i x)[t / k]'hds))[t % k]'(by rw [hk]; exact hm) := by
    rw [getElem!_pos _ t (by simp only [List.size_toArray, hl2]; exact ht')]
    rw [List.getElem?_eq_getElem (by rw [hl2]; exact ht'), List.getElem?_eq_getElem (by rw [hk]; exact hm)] at g2
    simpa using Option.some.inj g2
  have q1 : (l.flatMap enc).toArray[t]! = (enc l[t / k])[t % k]'(by rw [hk]; exact hm) := by
    rw [getElem!_pos _ t (by simp only [List.size_toArray, hl]; exact ht')]
    rw [List.getElem?_eq_getElem (by rw [hl]; exact ht'), List.getElem?_eq_getElem (by rw [hk]; exact hm)] at g1
    simpa using Option.some.inj g1
  rw [q2]
  by_cases hb : t / k = i
  · have hb2 := (blk_iff k i t hk0).2 hb
    rw [if_pos hb2]
    have em : t - i * k = t % k := by subst hb; omega
    rw [em, getElem!_pos _ _ (by rw [hk]; exact hm)]
    have hx : (l.set i x)[t / k]'(by rw [List.length_set]; exact hd) = x := by subst hb; simp
    simp only [hx]
  · rw [if_neg (fun h => hb ((blk_iff k i t hk0).1 h)), q1]
    have hx : (l.set i x)[t / k]'(by rw [List.length_set]; exact hd) = l[t / k] := by rw [List.getElem_set_ne (fun e => hb e.symm)]
    simp only [hx]

theorem own_set {α : Type} {w : World} {base g n cap k : Nat} {e : TypeId} (enc : α → List Value) (hk : ∀ x, (enc x).length = k) {l : List α}
    (h : w.ownsRow base e k (.slice (some ⟨g, 0, none⟩) n cap) n (l.flatMap enc)) (i : Nat) (hi : i < l.length) (x : α) :
    (w.setCells g (i * k) (enc x)).ownsRow base e k (.slice (some ⟨g, 0, none⟩) n cap) n ((l.set i x).flatMap enc) ∧ w.grownBy (w.setCells g (i * k) (enc x)) (some g) := by
  obtain ⟨cur, hg, hb, hn, hm, hs, hlt, hH⟩ := own_holds h
  have hl := flat_len enc k hk l
  have hin : i * k + k ≤ l.length * k := by
    have : (i + 1) * k ≤ l.length * k := Nat.mul_le_mul_right _ hi
    rw [Nat.succ_mul] at this; exact this
  have e1 : w.setCells g (i * k) (enc x) = putRow id w g 0 ((l.set i x).flatMap enc).toArray := by
    have h1 := setCells_putRow w g 0 (enc x) (i * k) (l.flatMap enc).toArray (by rw [hk]; simpa [hl] using hin)
    rw [putRow_self id w g 0 _ hH, Nat.zero_add] at h1
    rw [h1, flat_set enc k hk l i hi x]
  have e2 : putRow id w g 0 ((l.set i x).flatMap enc).toArray = grow (putRow id (Sort.ahead w 0) g 0 ((l.set i x).flatMap enc).toArray) #[] := by rw [grow_empty, Sort.ahead_zero]
  rw [e1, e2]
  exact ⟨own_put h (by rw [hl, flat_len enc k hk, List.length_set]), grownBy_row _⟩
end Go.Proofs.YtlhbpflcffjhmaaGreat

namespace Go.Proofs.YtlhbpflcffjhmaaGreat

section
variable {α : Type} [DecidableEq α]
/-- Equal neighbours, one kept. -/
def compE (l : List α) : List α := compL (fun a b => decide (a = b)) l
theorem compE_nil : compE ([] : List α) = [] := compL_nil _
theorem compE_one (x : α) : compE [x] = [x] := compL_one _ x
theorem compE_cons2 (x y : α) (r : List α) : compE (x :: y :: r) = if x = y then compE (x :: r) else x :: compE (y :: r) := by
  unfold compE
  rw [compL_cons2]
  by_cases h : x = y
  · rw [if_pos h, if_pos (decide_eq_true h)]
  · rw [if_neg h, if_neg (by simpa using h)]
theorem compE_snoc : ∀ (n : Nat) (m : List α), m.length = n → ∀ x y : α, compE (m ++ [x, y]) = if x = y then compE (m ++ [x]) else compE (m ++ [x]) ++ [y]
  | _, [], _, x, y => by
    rw [List.nil_append, List.nil_append, compE_cons2, compE_one, compE_one]
    by_cases h : x = y
    · rw [if_pos h, if_pos h]
    · rw [if_neg h, if_neg h]; rfl
  | _, [a], _, x, y => by
    show compE (a :: x :: [y]) = if x = y then compE (a :: x :: []) else compE (a :: x :: []) ++ [y]
    rw [compE_cons2, compE_cons2 a x []]
    by_cases hax : a = x
    · subst hax
      rw [if_pos rfl, if_pos rfl, compE_cons2, compE_one, compE_one]
      by_cases h : a = y
      · rw [if_pos h, if_pos h]
      · rw [if_neg h, if_neg h]; rfl
    · rw [if_neg hax, if_neg hax, compE_cons2, compE_one, compE_one]
      by_cases h : x = y
      · rw [if_pos h, if_pos h]
      · rw [if_neg h, if_neg h]; rfl
  | n + 1, a :: b :: m, h, x, y => by
    show compE (a :: b :: (m ++ [x, y])) = if x = y then compE (a :: b :: (m ++ [x])) else compE (a :: b :: (m ++ [x])) ++ [y]
    rw [compE_cons2, compE_cons2]
    have hlen : (a :: m).length = n := by simp at h ⊢; omega
    have hlen2 : (b :: m).length = n := by simp at h ⊢; omega
    by_cases hab : a = b
    · rw [if_pos hab, if_pos hab]
      exact compE_snoc n (a :: m) hlen x y
    · rw [if_neg hab, if_neg hab]
      have := compE_snoc n (b :: m) hlen2 x y
      rw [List.cons_append, List.cons_append] at this
      rw [this]
      by_cases h : x = y
      · rw [if_pos h, if_pos h]
      · rw [if_neg h, if_neg h]; rfl
/-- One more element read. -/
theorem compE_take {l : List α} {n : Nat} (h : n + 1 < l.length) : compE (l.take (n + 2)) = if l[n + 1] = l[n] then compE (l.take (n + 1)) else compE (l.take (n + 1)) ++ [l[n + 1]] := by
  have e1 : l.take (n + 1) = l.take n ++ [l[n]] := by rw [List.take_succ_eq_append_getElem (by omega)]
  have e2 : l.take (n + 2) = l.take n ++ [l[n], l[n + 1]] := by
    rw [List.take_succ_eq_append_getElem h, e1, List.append_assoc]; rfl
  rw [e2, e1, compE_snoc _ _ rfl]
  by_cases hh : l[n] = l[n + 1]
  · rw [if_pos hh, if_pos hh.symm]
  · rw [if_neg hh, if_neg (fun e => hh e.symm)]
theorem compE_len : ∀ (n : Nat) (l : List α), l.length ≤ n → (compE l).length ≤ l.length
  | _, [], _ => by rw [compE_nil]; exact Nat.le_refl _
  | _, [x], _ => by rw [compE_one]; exact Nat.le_refl _
  | n + 1, x :: y :: r, h => by
    rw [compE_cons2]
    split
    · have := compE_len n (x :: r) (by simp at h ⊢; omega)
      simp only [List.length_cons] at this ⊢; omega
    · have := compE_len n (y :: r) (by simp at h ⊢; omega)
      simp only [List.length_cons] at this ⊢; omega
end
end Go.Proofs.YtlhbpflcffjhmaaGreat

namespace Go.Proofs.YtlhbpflcffjhmaaGreat
open Go.RowKit Go.Sort

theorem own_cut_set {w : World} {base g n cap k i : Nat} {e : TypeId} {xs : List Value} (h : w.ownsRow base e k (.slice (some ⟨g, 0, none⟩) n cap) n xs) (hi : i ≤ n) (vs : List Value) (hv : i * k + vs.length ≤ n * k) :
    (w.setCells g (i * k) vs).ownsRow base e k (.slice (some ⟨g, 0, none⟩) i cap) i (xs.take (i * k)) ∧ w.grownBy (w.setCells g (i * k) vs) (some g) := by
  obtain ⟨cur, hg, hb, hn, hm, hs, hlt, hH⟩ := own_holds h
  have hl := h.1
  have h1 := setCells_putRow w g 0 vs (i * k) xs.toArray (by simpa [hl] using hv)
  rw [putRow_self id w g 0 _ hH, Nat.zero_add] at h1
  have hik : i * k ≤ n * k := Nat.mul_le_mul_right _ hi
  have hys : (setMany xs.toArray (i * k) vs).toList.length = xs.length := by rw [Array.length_toList, size_setMany, List.size_toArray]
  have e2 : putRow id w g 0 (setMany xs.toArray (i * k) vs) = grow (putRow id (Sort.ahead w 0) g 0 (setMany xs.toArray (i * k) vs).toList.toArray) #[] := by rw [grow_empty, Sort.ahead_zero, Array.toArray_toList]
  have hp := own_put (m := 0) (os := #[]) h hys
  rw [h1, e2]
  refine ⟨?_, grownBy_row _⟩
  obtain ⟨cur', hg', hb', hn', hm', hs', _, _⟩ := own_holds hp
  refine ⟨by rw [List.length_take]; omega, .inr ⟨g, cap, cur', rfl, hb', hg', by omega, hm', hs', ?_⟩⟩
  rcases hp.2 with ⟨h0, _⟩ | ⟨g2, cap2, cur2, e0, _, hg2, _, _, _, ht2⟩
  · cases h0
  · injection e0 with e1 _ e3
    injection e1 with e1
    injection e1 with e1
    subst e1; subst e3
    have ec : cur' = cur2 := by rw [hg'] at hg2; cases hg2; rfl
    subst ec
    have e5 : cur'.toList.take (i * k) = (cur'.toList.take (n * k)).take (i * k) := by rw [List.take_take, Nat.min_eq_left hik]
    rw [e5, ht2]
    apply List.ext_getElem?
    intro t
    by_cases ht : t < i * k
    · rw [List.getElem?_take_of_lt ht, List.getElem?_take_of_lt ht, Array.getElem?_toList]
      have htx : t < xs.length := by omega
      have hg3 := get_setMany vs (i * k) xs.toArray t (by simpa using htx)
      rw [if_neg (by omega)] at hg3
      rw [getElem!_pos _ t (by simpa using htx), getElem!_pos _ t (by simpa using htx)] at hg3
      rw [Array.getElem?_eq_getElem (by simpa using htx), List.getElem?_eq_getElem htx, hg3]
      simp
    · rw [List.getElem?_take_eq_none (by omega), List.getElem?_take_eq_none (by omega)]

variable {P : Program}
theorem run_clear_many (w : World) (t e ty : TypeId) (z : Value) (vs : List Value) (ht : P.underlying t = some (.slice e)) (hv : ∀ w, (zeroValue e).run P w = .ok z w) (b o n c : Nat) (hn : 0 < n)
    (hz : (Builtin.zeroCells z.cells n).toList = vs) (h1 : ∀ v ∈ vs, v.oneCell' = true)
    (hc : ∀ j, j < vs.length → (w.cell? ⟨b, o + j, none⟩).isSome = true) (hf : ∀ j, j < vs.length → w.frozen? ⟨b, o + j, none⟩ = false) :
    (Builtin.clear_ #[t] ty #[.slice (some ⟨b, o, none⟩) n c]).run P w = .ok (.tuple #[]) (w.setCells b o vs) := by
  have hst := run_storeCells_cells (P := P) b o vs 0 w (by simpa using hc) (by simpa using hf) h1
  simp only [Nat.add_zero] at hst
  obtain ⟨m, rfl⟩ : ∃ m, n = m + 1 := ⟨n - 1, by omega⟩
  simp [Builtin.clear_, run_underlying ht, hv, hz, hst]
end Go.Proofs.YtlhbpflcffjhmaaGreat

namespace Go.Proofs.YtlhbpflcffjhmaaGreat
open Go.RowKit Go.Sort

section
variable {α : Type} [DecidableEq α]
/-- i elements have been read, k are kept at the row's head; what has not been read stands. -/
structure CompInv (l r : List α) (k i : Nat) : Prop where
  len : r.length = l.length
  pos : 1 ≤ k
  le : k + 1 ≤ i
  hi : i ≤ l.length
  tk : r.take k = compE (l.take i)
  dr : r.drop (i - 1) = l.drop (i - 1)
theorem CompInv.start {l : List α} {m : Nat} (h : m + 1 < l.length) (hc : compE (l.take (m + 1)) = l.take (m + 1)) (e : l[m + 1] = l[m]) : CompInv l l (m + 1) (m + 2) := by
  refine ⟨rfl, by omega, by omega, by omega, ?_, rfl⟩
  rw [compE_take h, if_pos e, hc]
theorem CompInv.at {l r : List α} {k i : Nat} (h : CompInv l r k i) (hi : i < l.length) : ∃ (h1 : i < r.length) (h2 : i - 1 < r.length), r[i] = l[i] ∧ r[i - 1] = l[i - 1]'(by omega) := by
  have hp := h.pos
  have hl := h.le
  have hn := h.len
  refine ⟨by omega, by omega, ?_, ?_⟩
  · have := congrArg (fun x => x[1]?) h.dr
    simp only [List.getElem?_drop] at this
    have e : i - 1 + 1 = i := by omega
    rw [e, List.getElem?_eq_getElem (by omega), List.getElem?_eq_getElem hi] at this
    exact Option.some.inj this
  · have := congrArg (fun x => x[0]?) h.dr
    simp only [List.getElem?_drop, Nat.add_zero] at this
    rw [List.getElem?_eq_getElem (by omega), List.getElem?_eq_getElem (by omega)] at this
    exact Option.some.inj this
theorem CompInv.drop {l r : List α} {k i : Nat} (h : CompInv l r k i) : r.drop i = l.drop i := by
  have := congrArg (fun x => x.drop 1) h.dr
  have hl := h.le
  have hp := h.pos
  simp only [List.drop_drop] at this
  have e : i - 1 + 1 = i := by omega
  rw [e] at this
  exact this
theorem comp_read {l : List α} {i : Nat} (h1 : 1 ≤ i) (hi : i < l.length) : compE (l.take (i + 1)) = if l[i] = l[i - 1] then compE (l.take i) else compE (l.take i) ++ [l[i]] := by
  obtain ⟨m, rfl⟩ : ∃ m, i = m + 1 := ⟨i - 1, by omega⟩
  exact compE_take hi
theorem CompInv.same {l r : List α} {k i : Nat} (h : CompInv l r k i) (hi : i < l.length) (e : l[i] = l[i - 1]) : CompInv l r k (i + 1) := by
  have hp := h.pos
  have hl := h.le
  refine ⟨h.len, hp, by omega, hi, ?_, ?_⟩
  · rw [comp_read (by omega) hi, if_pos e]; exact h.tk
  · exact h.drop
theorem CompInv.next {l r : List α} {k i : Nat} (h : CompInv l r k i) (hi : i < l.length) (e : l[i] ≠ l[i - 1]) : CompInv l (r.set k l[i]) (k + 1) (i + 1) := by
  have hp := h.pos
  have hl := h.le
  have hn := h.len
  refine ⟨by rw [List.length_set]; exact hn, by omega, by omega, hi, ?_, ?_⟩
  · rw [comp_read (by omega) hi, if_neg e, ← h.tk]
    have hk : k < r.length := by omega
    rw [List.take_succ_eq_append_getElem (by rw [List.length_set]; exact hk), List.getElem_set_self, List.take_set_of_le (Nat.le_refl k)]
  · show (r.set k l[i]).drop i = l.drop i
    rw [List.drop_set_of_lt (by omega)]
    exact h.drop
theorem CompInv.done {l r : List α} {k : Nat} (h : CompInv l r k l.length) : r.take k = compE l ∧ (compE l).length = k := by
  have := h.tk
  rw [List.take_length] at this
  refine ⟨this, ?_⟩
  rw [← this, List.length_take]
  have := h.le; have := h.len
  omega
end
theorem own_there {w : World} {base g n cap k : Nat} {e : TypeId} {xs : List Value} (h : w.ownsRow base e k (.slice (some ⟨g, 0, none⟩) n cap) n xs) (i m : Nat) (hi : i * k + m ≤ n * k) : w.there g (i * k) m := by
  obtain ⟨cur, hg, hb, hn, hm, hs, hlt, hH⟩ := own_holds h
  have hl := h.1
  intro j hj
  have := hH (i * k + j) (by simp [hl]; omega)
  rw [Nat.zero_add] at this
  exact ⟨by rw [this.1]; rfl, this.2⟩
theorem zero_one {z : Array Value} {n : Nat} (h : ∀ v ∈ z.toList, v.oneCell' = true) : ∀ v ∈ (Builtin.zeroCells z n).toList, v.oneCell' = true := by
  intro v hv
  unfold Builtin.zeroCells at hv
  rw [Array.toList_map, List.mem_map] at hv
  obtain ⟨i, hi, rfl⟩ := hv
  rcases Nat.eq_zero_or_pos z.size with h0 | h0
  · simp [h0] at hi
  · have hm : i % z.size < z.size := Nat.mod_lt _ h0
    rw [getElem!_pos z _ hm]
    exact h _ (by simp)
theorem zero_len (z : Array Value) (n : Nat) : (Builtin.zeroCells z n).toList.length = n * z.size := by rw [Array.length_toList, size_zeroCells]
variable {P : Program}
/-- 'clear(s[i:])' over a row of the call's own. -/
theorem run_clear_tail {w : World} {base g n cap k : Nat} {e : TypeId} {xs : List Value} (h : w.ownsRow base e k (.slice (some ⟨g, 0, none⟩) n cap) n xs) (t : TypeId) (z : Value) (hz : z.cells.size = k) (hz1 : ∀ v ∈ z.cells.toList, v.oneCell' = true)
    (ht : P.underlying t = some (.slice e)) (hv : ∀ w, (zeroValue e).run P w = .ok z w) (i c : Nat) (hi : i < n) (ty : TypeId) :
    (Builtin.clear_ #[t] ty #[.slice (some ⟨g, i * k, none⟩) (n - i) c]).run P w = .ok (.tuple #[]) (w.setCells g (i * k) (Builtin.zeroCells z.cells (n - i)).toList) := by
  have hlen : (Builtin.zeroCells z.cells (n - i)).toList.length = (n - i) * k := by rw [zero_len, hz]
  have hth := own_there h i ((n - i) * k) (by rw [← Nat.add_mul]; exact Nat.mul_le_mul_right _ (by omega))
  exact run_clear_many w t e ty z _ ht hv g (i * k) (n - i) c (by omega) rfl (zero_one hz1) (fun j hj => (hth j (by rw [← hlen]; exact hj)).1) (fun j hj => (hth j (by rw [← hlen]; exact hj)).2)
theorem own_clear_tail {w : World} {base g n cap k i : Nat} {e : TypeId} {xs : List Value} (h : w.ownsRow base e k (.slice (some ⟨g, 0, none⟩) n cap) n xs) (hi : i ≤ n) (z : Value) (hz : z.cells.size = k) :
    (w.setCells g (i * k) (Builtin.zeroCells z.cells (n - i)).toList).ownsRow base e k (.slice (some ⟨g, 0, none⟩) i cap) i (xs.take (i * k)) ∧ w.grownBy (w.setCells g (i * k) (Builtin.zeroCells z.cells (n - i)).toList) (some g) := by
  refine own_cut_set h hi _ ?_
  rw [zero_len, hz, ← Nat.add_mul]
  exact Nat.mul_le_mul_right _ (by omega)
end Go.Proofs.YtlhbpflcffjhmaaGreat

namespace Go.Proofs.YtlhbpflcffjhmaaGreat
open Go.RowKit Go.Sort

section
variable {α : Type} (p : α → Bool)
/-- i elements have been looked at, k are kept at the row's head; what has not been looked at stands. -/
structure DelInv (l r : List α) (k i : Nat) : Prop where
  len : r.length = l.length
  le : k + 1 ≤ i
  hi : i ≤ l.length
  tk : r.take k = (l.take i).filter fun x => !p x
  dr : r.drop i = l.drop i
theorem filter_take {l : List α} {i : Nat} (hi : i < l.length) : (l.take (i + 1)).filter (fun x => !p x) = if p l[i] then (l.take i).filter (fun x => !p x) else (l.take i).filter (fun x => !p x) ++ [l[i]] := by
  rw [List.take_succ_eq_append_getElem hi, List.filter_append]
  cases h : p l[i] <;> simp [h]
theorem DelInv.start {l : List α} {k : Nat} (h : k < l.length) (hc : ∀ x ∈ l.take k, p x = false) (e : p l[k] = true) : DelInv p l l k (k + 1) := by
  refine ⟨rfl, Nat.le_refl _, h, ?_, rfl⟩
  rw [filter_take p h, if_pos e]
  exact (List.filter_eq_self.2 fun x hx => by rw [hc x hx]; rfl).symm
variable {p}
theorem DelInv.at {l r : List α} {k i : Nat} (h : DelInv p l r k i) (hi : i < l.length) : ∃ h1 : i < r.length, r[i] = l[i] := by
  have hn := h.len
  refine ⟨by omega, ?_⟩
  have := congrArg (fun x => x[0]?) h.dr
  simp only [List.getElem?_drop, Nat.add_zero] at this
  rw [List.getElem?_eq_getElem (by omega), List.getElem?_eq_getElem (by omega)] at this
  exact Option.some.inj this
theorem DelInv.drop {l r : List α} {k i : Nat} (h : DelInv p l r k i) : r.drop (i + 1) = l.drop (i + 1) := by
  have := congrArg (fun x => x.drop 1) h.dr
  simp only [List.drop_drop] at this
  exact this
theorem DelInv.skip {l r : List α} {k i : Nat} (h : DelInv p l r k i) (hi : i < l.length) (e : p l[i] = true) : DelInv p l r k (i + 1) := by
  have hl := h.le
  refine ⟨h.len, by omega, hi, ?_, h.drop⟩
  rw [filter_take p hi, if_pos e]; exact h.tk
theorem DelInv.keep {l r : List α} {k i : Nat} (h : DelInv p l r k i) (hi : i < l.length) (e : p l[i] = false) : DelInv p l (r.set k l[i]) (k + 1) (i + 1) := by
  have hl := h.le
  have hn := h.len
  refine ⟨by rw [List.length_set]; exact hn, by omega, hi, ?_, ?_⟩
  · rw [filter_take p hi, if_neg (by rw [e]; decide), ← h.tk]
    have hk : k < r.length := by omega
    rw [List.take_succ_eq_append_getElem (by rw [List.length_set]; exact hk), List.getElem_set_self, List.take_set_of_le (Nat.le_refl k)]
  · rw [List.drop_set_of_lt (by omega)]
    exact h.drop
theorem DelInv.done {l r : List α} {k : Nat} (h : DelInv p l r k l.length) : r.take k = l.filter (fun x => !p x) ∧ (l.filter fun x => !p x).length = k := by
  have := h.tk
  rw [List.take_length] at this
  refine ⟨this, ?_⟩
  rw [← this, List.length_take]
  have := h.le; have := h.len; have := h.hi
  omega
theorem idx_start {l : List α} {i : Nat} (h : l.findIdx? p = some i) : ∃ hi : i < l.length, p l[i] = true ∧ ∀ x ∈ l.take i, p x = false := by
  obtain ⟨hi, h1, h2⟩ := List.findIdx?_eq_some_iff_getElem.1 h
  refine ⟨hi, h1, fun x hx => ?_⟩
  obtain ⟨j, hj, rfl⟩ := List.getElem_of_mem hx
  have hj2 : j < i := by simp at hj; omega
  rw [List.getElem_take]
  simpa using h2 j hj2
theorem del_none {l : List α} (h : l.findIdx? p = none) : l.filter (fun x => !p x) = l := by
  rw [List.filter_eq_self]
  intro x hx
  have := List.findIdx?_eq_none_iff.1 h x hx
  simpa using this
end
end Go.Proofs.YtlhbpflcffjhmaaGreat

namespace Go.Proofs.YtlhbpflcffjhmaaGreat
open Go.RowKit

theorem vC_one (l : List V) : ∀ u ∈ l.flatMap vC, u.oneCell' = true := by
  intro u hu
  obtain ⟨x, _, hx⟩ := List.mem_flatMap.1 hu
  simp only [vC, List.mem_cons, List.not_mem_nil, or_false] at hx
  rcases hx with rfl | rfl | rfl | rfl <;> rfl
theorem csC_one (l : List CS) (h : ∀ x ∈ l, x.h.oneCell' = true) : ∀ u ∈ l.flatMap csC, u.oneCell' = true := by
  intro u hu
  obtain ⟨x, hm, hx⟩ := List.mem_flatMap.1 hu
  simp only [csC, List.mem_cons, List.not_mem_nil, or_false] at hx
  rcases hx with rfl | rfl | rfl | rfl | rfl | rfl | rfl
  all_goals first | rfl | exact h x hm

theorem info28t : (Tryz.prog.info? 61).map (fun i => (i.zero, i.size, i.bytes)) = some (some (.agg #[.int .i64 0, .int .i64 0, .string ⟨#[]⟩, .bool false]), 4, 40) := by kernel_rfl
theorem info31t : (Tryz.prog.info? 64).map (fun i => (i.zero, i.size, i.bytes)) = some (some (.agg #[.string ⟨#[]⟩, .int .i64 0, .int .i64 0, .int .i64 0, .string ⟨#[]⟩, .bool false, .slice none 0 0]), 7, 88) := by kernel_rfl

theorem size28 : (Tryz.prog.info? 61).map (·.size) = some 4 := by kernel_rfl
theorem zero28 : ∀ w, (zeroValue 61).run Tryz.prog w = .ok (.agg #[.int .i64 0, .int .i64 0, .string ⟨#[]⟩, .bool false]) w := fun _ => by kernel_rfl
theorem zero31 : ∀ w, (zeroValue 64).run Tryz.prog w = .ok (.agg #[.string ⟨#[]⟩, .int .i64 0, .int .i64 0, .int .i64 0, .string ⟨#[]⟩, .bool false, .slice none 0 0]) w := fun _ => by kernel_rfl
theorem size31 : (Tryz.prog.info? 64).map (·.size) = some 7 := by kernel_rfl
end Go.Proofs.YtlhbpflcffjhmaaGreat

namespace Go.Proofs.YtlhbpflcffjhmaaGreat
open Go.RowKit

theorem own_row {w : World} {base size n : Nat} {e : TypeId} {v : Value} {xs : List Value} (h : w.ownsRow base e size v n xs) : Row w size v n xs := Row.of_own h
theorem own_drewN {w : World} {base size n : Nat} {e : TypeId} {v : Value} {xs : List Value} (q : Nat) (h : w.ownsRow base e size v n xs) : (w.drewN q).ownsRow base e size v n xs := h
theorem grown_drewN {w w' : World} {row : Option Nat} (q : Nat) (h : w.grownBy w' row) : w.grownBy (w'.drewN q) row := ⟨h.os, h.tape, h.output, h.size, h.block⟩
theorem own_some {w : World} {base size n : Nat} {e : TypeId} {v : Value} {xs : List Value} (h : w.ownsRow base e size v n xs) (hn : 0 < n) : v.ownBlock ≠ none := by
  rcases h.2 with ⟨rfl, e0⟩ | ⟨g, cap, cur, rfl, _⟩
  · omega
  · simp [Value.ownBlock]

end Go.Proofs.YtlhbpflcffjhmaaGreat

namespace Go.Proofs.YtlhbpflcffjhmaaGreat

/-- A place between values. -/
structure Cut where
  a : List UInt8
  e : Bool
deriving DecidableEq
def Cut.lt (x y : Cut) : Bool := !x.e && (y.e || Op.bytesLess x.a y.a)
structure Sp where
  lo : Cut
  hi : Cut
deriving DecidableEq
structure Rg where
  i : List Sp
  s : List Sp
  b : List Sp
  odd : Bool
deriving DecidableEq

def eightN : Nat → Nat → List UInt8
  | 0, _ => []
  | k + 1, n => eightN k (n / 256) ++ [UInt8.ofNat (n % 256)]
def eightF (n : Nat) : List UInt8 := eightN 8 n
theorem eightN_len : ∀ k n, (eightN k n).length = k
  | 0, _ => rfl
  | k + 1, n => by simp [eightN, eightN_len k]
/-- Bytes as a number, the highest first. -/
def wholeF (l : List UInt8) : Nat := l.foldl (fun n c => n * 256 + c.toNat) 0
theorem wholeF_snoc (l : List UInt8) (c : UInt8) : wholeF (l ++ [c]) = wholeF l * 256 + c.toNat := by simp [wholeF]
theorem wholeF_eight : ∀ (k n : Nat), n < 256 ^ k → wholeF (eightN k n) = n
  | 0, n, h => by simp at h; subst h; rfl
  | k + 1, n, h => by
    rw [eightN, wholeF_snoc, wholeF_eight k (n / 256) (by rw [Nat.pow_succ] at h; omega)]
    have : (UInt8.ofNat (n % 256)).toNat = n % 256 := by
      rw [UInt8.toNat_ofNat']; omega
    omega
theorem eight_wholeF : ∀ (k : Nat) (l : List UInt8), l.length = k → eightN k (wholeF l) = l
  | 0, l, h => by rw [List.length_eq_zero_iff.1 h]; rfl
  | k + 1, l, h => by
    have hne : l ≠ [] := by intro e; rw [e] at h; simp at h
    obtain ⟨p, c, rfl⟩ : ∃ p c, l = p ++ [c] := ⟨l.dropLast, l.getLast hne, (List.dropLast_concat_getLast hne).symm⟩
    have hp : p.length = k := by simpa using h
    have hc : c.toNat < 256 := c.toNat_lt
    rw [wholeF_snoc, eightN]
    have e1 : (wholeF p * 256 + c.toNat) / 256 = wholeF p := by omega
    have e2 : (wholeF p * 256 + c.toNat) % 256 = c.toNat := by omega
    rw [e1, e2, eight_wholeF k p hp]
    congr 2
    exact UInt8.toNat_inj.1 (by rw [UInt8.toNat_ofNat']; omega)
theorem wholeF_lt : ∀ (k : Nat) (l : List UInt8), l.length = k → wholeF l < 256 ^ k
  | 0, l, h => by rw [List.length_eq_zero_iff.1 h]; decide
  | k + 1, l, h => by
    have hne : l ≠ [] := by intro e; rw [e] at h; simp at h
    obtain ⟨p, c, rfl⟩ : ∃ p c, l = p ++ [c] := ⟨l.dropLast, l.getLast hne, (List.dropLast_concat_getLast hne).symm⟩
    have hp : p.length = k := by simpa using h
    have hc : c.toNat < 256 := c.toNat_lt
    have := wholeF_lt k p hp
    rw [wholeF_snoc, Nat.pow_succ]; omega

def numC (n : Int) : Cut := ⟨eightF (n + 9223372036854775808).toNat, false⟩
def endC : Cut := ⟨[], true⟩
def firstC (k : Int) : Cut := if k = 1 then numC (-9223372036854775808) else ⟨[], false⟩
def aroundV (v : V) : Cut × Cut :=
  if v.k = 1 then (if v.n = 9223372036854775807 then (numC v.n, endC) else (numC v.n, numC (v.n + 1)))
  else if v.k = 2 then (⟨v.s, false⟩, ⟨v.s ++ [0], false⟩)
  else if v.b then (⟨[0], false⟩, endC) else (⟨[], false⟩, ⟨[0], false⟩)
def atV (v : V) : Cut := (aroundV v).1
def pastR : List UInt8 → Cut
  | [] => endC
  | c :: r => if c = 255 then pastR r else ⟨(r.reverse) ++ [c + 1], false⟩
def pastF (s : List UInt8) : Cut := pastR s.reverse
def fullS (l : List Sp) : List Sp := l.filter fun x => Cut.lt x.lo x.hi
def ofL (c : C) : List Sp :=
  fullS (if c.op = 2 then [⟨(aroundV c.v).1, (aroundV c.v).2⟩]
  else if c.op = 3 then [⟨firstC c.v.k, (aroundV c.v).1⟩, ⟨(aroundV c.v).2, endC⟩]
  else if c.op = 4 then [⟨firstC c.v.k, (aroundV c.v).1⟩]
  else if c.op = 5 then [⟨firstC c.v.k, (aroundV c.v).2⟩]
  else if c.op = 6 then [⟨(aroundV c.v).2, endC⟩]
  else if c.op = 7 then [⟨(aroundV c.v).1, endC⟩]
  else if c.op = 8 then [⟨(aroundV c.v).1, pastF c.v.s⟩]
  else [])
def allR : Rg := ⟨[⟨firstC 1, endC⟩], [⟨firstC 2, endC⟩], [⟨firstC 3, endC⟩], true⟩
def noneR : Rg := ⟨[], [], [], false⟩
def minus1 (s out : Sp) : List Sp :=
  if !Cut.lt out.lo s.hi || !Cut.lt s.lo out.hi then [s]
  else fullS [⟨s.lo, if Cut.lt out.lo s.hi then out.lo else s.hi⟩, ⟨if Cut.lt s.lo out.hi then out.hi else s.lo, s.hi⟩]
def minusL (l m : List Sp) : List Sp := m.foldl (fun l out => l.flatMap fun s => minus1 s out) l
def Rg.minus (r q : Rg) : Rg := ⟨minusL r.i q.i, minusL r.s q.s, minusL r.b q.b, r.odd && !q.odd⟩
def Rg.and (r q : Rg) : Rg := r.minus (r.minus q)
def Rg.empty (r : Rg) : Bool := !r.odd && !(decide (0 < r.i.length) || decide (0 < r.s.length) || decide (0 < r.b.length))
def Rg.within (r q : Rg) : Bool := (r.minus q).empty
def inS (c : Cut) (x : Sp) : Bool := !Cut.lt c x.lo && Cut.lt c x.hi
def inL (c : Cut) (l : List Sp) : Bool := l.any (inS c)
def Rg.of (r : Rg) (k : Int) : List Sp := if k = 1 then r.i else if k = 2 then r.s else r.b
def Rg.has (r : Rg) (v : V) : Bool := if v.k < 1 ∨ 3 < v.k then r.odd else inL (atV v) (r.of v.k)
def setR (k : Int) (l : List Sp) : Rg := if k = 1 then ⟨l, [], [], false⟩ else if k = 2 then ⟨[], l, [], false⟩ else ⟨[], [], l, false⟩
def oneV (v : V) : Rg := setR v.k (ofL ⟨[], 2, v, []⟩)
def ofR (c : C) : Rg :=
  if !mayC c then noneR else if c.op = 1 then allR else if c.op = 9 then allR.minus (c.set.foldl (fun r v => r.minus (oneV v)) allR) else setR c.v.k (ofL c)
def askedF (p : List C) (name : List UInt8) : Rg := if !mayP p then noneR else p.foldl (fun r c => if c.name = name then r.and (ofR c) else r) allR
def someR (r : Rg) : V × Bool :=
  match r.i with
  | x :: _ => (⟨1, (wholeF x.lo.a : Int) - 9223372036854775808, [], false⟩, true)
  | [] => match r.s with
    | x :: _ => (⟨2, 0, x.lo.a, false⟩, true)
    | [] => match r.b with
      | x :: _ => (⟨3, 0, [], !x.lo.a.isEmpty⟩, true)
      | [] => (⟨0, 0, [], false⟩, r.odd)
def namesF (p : List C) : List (List UInt8) := sortU Lib.compareBytes (p.map C.name)
def noneF (p : List C) : Bool := (namesF p).any fun n => (askedF p n).empty
def coversF (p q : List C) : Bool := mayP p && mayP q && (noneF q || !(namesF p).any fun n => !decide (n ∈ namesF q) || !(askedF q n).within (askedF p n))

/-! The order of cuts -/
theorem bl_lt (x y : List UInt8) : Op.bytesLess x y = true ↔ Lib.compareBytes x y < 0 := by
  induction x generalizing y with
  | nil => cases y <;> simp [Op.bytesLess, Lib.compareBytes]
  | cons a x ih =>
    cases y with
    | nil => simp [Op.bytesLess, Lib.compareBytes]
    | cons b y =>
      simp only [Op.bytesLess, Lib.compareBytes]
      by_cases h1 : a < b
      · simp [h1]
      · by_cases h2 : b < a
        · have hne : ¬ a = b := by intro e; rw [e] at h2; exact absurd h2 (UInt8.lt_irrefl b)
          simp [h1, h2, hne]
        · have he : a = b := UInt8.le_antisymm (UInt8.not_lt.1 h2) (UInt8.not_lt.1 h1)
          subst he
          simp [ih y]
theorem cut_irr (x : Cut) : Cut.lt x x = false := by
  unfold Cut.lt
  cases hx : x.e <;> simp
  have := bl_lt x.a x.a
  rw [wo_bytes.refl] at this
  simp at this; exact this
theorem cut_trans {x y z : Cut} (h1 : Cut.lt x y = true) (h2 : Cut.lt y z = true) : Cut.lt x z = true := by
  unfold Cut.lt at *
  simp only [Bool.and_eq_true, Bool.not_eq_true', Bool.or_eq_true] at *
  refine ⟨h1.1, ?_⟩
  rcases h2.2 with h | h
  · exact .inl h
  · rcases h1.2 with h' | h'
    · rw [h2.1] at h'; cases h'
    · exact .inr ((bl_lt _ _).2 (wo_bytes.lt_trans ((bl_lt _ _).1 h') ((bl_lt _ _).1 h)))
/-- Of 'not ahead' likewise. -/
theorem cut_ntrans {x y z : Cut} (h1 : Cut.lt x y = false) (h2 : Cut.lt y z = false) : Cut.lt x z = false := by
  cases h : Cut.lt x z with
  | false => rfl
  | true =>
    exfalso
    unfold Cut.lt at h h1 h2
    simp only [Bool.and_eq_true, Bool.not_eq_true', Bool.or_eq_true, Bool.and_eq_false_iff, Bool.or_eq_false_iff, Bool.not_eq_false'] at h h1 h2
    rcases h1 with h1 | h1
    · rw [h.1] at h1; cases h1
    · rcases h2 with h2 | h2
      · rw [h1.1] at h2; cases h2
      · rcases h.2 with h3 | h3
        · rw [h2.1] at h3; cases h3
        · have a1 := (bl_lt _ _).1 h3
          have a2 : ¬ Lib.compareBytes x.a y.a < 0 := fun e => by rw [(bl_lt _ _).2 e] at h1; simp at h1
          have a3 : ¬ Lib.compareBytes y.a z.a < 0 := fun e => by rw [(bl_lt _ _).2 e] at h2; simp at h2
          have b1 := wo_bytes.anti x.a y.a
          have b2 := wo_bytes.anti y.a z.a
          have b3 := wo_bytes.anti x.a z.a
          have := wo_bytes.trans z.a y.a x.a (by omega) (by omega)
          omega

/-! What is in spans -/
theorem inL_append (c : Cut) (l m : List Sp) : inL c (l ++ m) = (inL c l || inL c m) := by simp [inL]
theorem inL_full (c : Cut) (l : List Sp) : inL c (fullS l) = inL c l := by
  unfold inL fullS
  rw [Bool.eq_iff_iff, List.any_eq_true, List.any_eq_true]
  constructor
  · rintro ⟨x, hx, h⟩
    exact ⟨x, (List.mem_filter.1 hx).1, h⟩
  · rintro ⟨x, hx, h⟩
    refine ⟨x, List.mem_filter.2 ⟨hx, ?_⟩, h⟩
    unfold inS at h
    simp only [Bool.and_eq_true, Bool.not_eq_true'] at h
    cases hl : Cut.lt x.lo x.hi with
    | true => rfl
    | false =>
      have := cut_ntrans h.1 hl
      rw [h.2] at this; cases this
theorem in_minus1 (c : Cut) (s out : Sp) : inL c (minus1 s out) = (inS c s && !inS c out) := by
  have t1 : ∀ {x y z : Cut}, Cut.lt x y = false → Cut.lt x z = true → Cut.lt y z = true := fun {x y z} h1 h2 => by
    cases h : Cut.lt y z with
    | true => rfl
    | false => have := cut_ntrans h1 h; rw [h2] at this; cases this
  unfold minus1
  by_cases hd : (!Cut.lt out.lo s.hi || !Cut.lt s.lo out.hi) = true
  · rw [if_pos hd]
    simp only [inL, List.any_cons, List.any_nil, Bool.or_false]
    cases hs : inS c s with
    | false => rfl
    | true =>
      cases ho : inS c out with
      | false => rfl
      | true =>
        exfalso
        unfold inS at hs ho
        simp only [Bool.and_eq_true, Bool.not_eq_true', Bool.or_eq_true] at hs ho hd
        rcases hd with hd | hd
        · rw [t1 ho.1 hs.2] at hd; cases hd
        · rw [t1 hs.1 ho.2] at hd; cases hd
  · rw [if_neg hd, inL_full]
    simp only [Bool.not_eq_true, Bool.or_eq_false_iff, Bool.not_eq_false'] at hd
    rw [if_pos hd.1, if_pos hd.2]
    simp only [inL, List.any_cons, List.any_nil, Bool.or_false, inS]
    cases h1 : Cut.lt c s.lo <;> cases h2 : Cut.lt c s.hi <;> cases h3 : Cut.lt c out.lo <;> cases h4 : Cut.lt c out.hi <;> simp
    · rw [cut_trans h3 hd.1] at h2; cases h2
    · rw [cut_trans h3 hd.1] at h2; cases h2
    · rw [cut_trans h1 hd.2] at h4; cases h4
    · rw [cut_trans h1 hd.2] at h4; cases h4
theorem in_flat (c : Cut) (out : Sp) (l : List Sp) : inL c (l.flatMap fun s => minus1 s out) = (inL c l && !inS c out) := by
  induction l with
  | nil => simp [inL]
  | cons s l ih =>
    rw [List.flatMap_cons, inL_append, in_minus1, ih]
    have : inL c (s :: l) = (inS c s || inL c l) := by simp [inL]
    rw [this]
    cases inS c s <;> cases inL c l <;> cases inS c out <;> rfl
theorem in_minus (c : Cut) (l m : List Sp) : inL c (minusL l m) = (inL c l && !inL c m) := by
  unfold minusL
  induction m generalizing l with
  | nil => simp [inL]
  | cons o m ih =>
    rw [List.foldl_cons, ih, in_flat]
    have : inL c (o :: m) = (inS c o || inL c m) := by simp [inL]
    rw [this]
    cases inL c l <;> cases inL c m <;> cases inS c o <;> rfl
theorem has_minus (r q : Rg) (v : V) : (r.minus q).has v = (r.has v && !q.has v) := by
  unfold Rg.has
  split
  · rfl
  · have : (r.minus q).of v.k = minusL (r.of v.k) (q.of v.k) := by
      unfold Rg.of Rg.minus
      (repeat' split) <;> rfl
    rw [this, in_minus]
theorem has_and (r q : Rg) (v : V) : (r.and q).has v = (r.has v && q.has v) := by
  unfold Rg.and
  rw [has_minus, has_minus]
  cases r.has v <;> cases q.has v <;> rfl

/-! Regions whose cuts stand for values -/
def ok1 (c : Cut) : Prop := c.e = true ∨ c.a.length = 8
def ok3 (c : Cut) : Prop := c.e = true ∨ c.a = [] ∨ c.a = [0]
def okS (P : Cut → Prop) (l : List Sp) : Prop := ∀ x ∈ l, P x.lo ∧ P x.hi ∧ Cut.lt x.lo x.hi = true
structure Good4 (r : Rg) : Prop where
  i : okS ok1 r.i
  s : okS (fun _ => True) r.s
  b : okS ok3 r.b
theorem okS_minus1 {P : Cut → Prop} {s out : Sp} (h : P s.lo ∧ P s.hi ∧ Cut.lt s.lo s.hi = true) (ho : P out.lo ∧ P out.hi) : okS P (minus1 s out) := by
  intro x hx
  unfold minus1 at hx
  split at hx
  · rw [List.mem_singleton.1 hx]; exact h
  · have hx' := List.mem_filter.1 hx
    rcases List.mem_cons.1 hx'.1 with e | hx2
    · subst e
      refine ⟨h.1, ?_, hx'.2⟩
      show P (if _ then _ else _)
      split
      · exact ho.1
      · exact h.2.1
    · have e := List.mem_singleton.1 hx2
      subst e
      refine ⟨?_, h.2.1, hx'.2⟩
      show P (if _ then _ else _)
      split
      · exact ho.2
      · exact h.1
theorem okS_minus {P : Cut → Prop} : ∀ {m l : List Sp}, okS P l → okS P m → okS P (minusL l m)
  | [], _, h, _ => h
  | o :: m, l, h, hm => by
    have h2 : okS P (l.flatMap fun s => minus1 s o) := fun x hx => by
      obtain ⟨s, hs, hx⟩ := List.mem_flatMap.1 hx
      exact okS_minus1 (h s hs) ⟨(hm o List.mem_cons_self).1, (hm o List.mem_cons_self).2.1⟩ x hx
    exact okS_minus (m := m) h2 fun x hx => hm x (List.mem_cons_of_mem _ hx)
theorem Good4.minus {r q : Rg} (h : Good4 r) (k : Good4 q) : Good4 (r.minus q) := ⟨okS_minus h.i k.i, okS_minus h.s k.s, okS_minus h.b k.b⟩
theorem Good4.and {r q : Rg} (h : Good4 r) (k : Good4 q) : Good4 (r.and q) := h.minus (h.minus k)
theorem good_none : Good4 noneR := ⟨fun _ h => (by cases h), fun _ h => (by cases h), fun _ h => (by cases h)⟩
theorem num_ok1 (n : Int) : ok1 (numC n) := .inr (eightN_len 8 _)
theorem good_all : Good4 allR := by
  refine ⟨fun x hx => ?_, fun x hx => ?_, fun x hx => ?_⟩ <;> rw [List.mem_singleton.1 hx]
  · exact ⟨num_ok1 _, .inl rfl, rfl⟩
  · exact ⟨trivial, trivial, rfl⟩
  · exact ⟨.inr (.inl rfl), .inl rfl, rfl⟩

theorem at_num {l : List UInt8} (h : l.length = 8) : eightF ((wholeF l : Int) - 9223372036854775808 + 9223372036854775808).toNat = l := by
  have e : ((wholeF l : Int) - 9223372036854775808 + 9223372036854775808).toNat = wholeF l := by omega
  rw [e]; exact eight_wholeF 8 l h
theorem inS_lo {x : Sp} (h : Cut.lt x.lo x.hi = true) : inS x.lo x = true := by
  unfold inS; rw [cut_irr, h]; rfl
theorem lt_live {x y : Cut} (h : Cut.lt x y = true) : x.e = false := by
  unfold Cut.lt at h; simp only [Bool.and_eq_true, Bool.not_eq_true'] at h; exact h.1
/-- A region that is not empty shows a value that is in it. -/
theorem some_law {r : Rg} (h : Good4 r) : (someR r).2 = !r.empty ∧ ((someR r).2 = true → r.has (someR r).1 = true) := by
  obtain ⟨ri, rs, rb, ro⟩ := r
  unfold someR Rg.empty
  cases ri with
  | cons x ri =>
    refine ⟨by simp, fun _ => ?_⟩
    obtain ⟨h1, h2, h3⟩ := h.i x List.mem_cons_self
    have he := lt_live h3
    have hl : x.lo.a.length = 8 := by rcases h1 with h1 | h1; rw [he] at h1; cases h1; exact h1
    have hat : atV ⟨1, (wholeF x.lo.a : Int) - 9223372036854775808, [], false⟩ = x.lo := by
      have hnum : numC ((wholeF x.lo.a : Int) - 9223372036854775808) = x.lo := by
        unfold numC
        rw [at_num hl]
        cases hx : x.lo with | mk a e => rw [hx] at he; simp only at he; rw [he]
      unfold atV aroundV
      rw [if_pos rfl]
      split <;> exact hnum
    show inL _ _ = true
    rw [hat]
    show (inS x.lo x || _) = true
    rw [inS_lo h3, Bool.true_or]
  | nil =>
    cases rs with
    | cons x rs =>
      refine ⟨by simp, fun _ => ?_⟩
      obtain ⟨_, _, h3⟩ := h.s x List.mem_cons_self
      have he := lt_live h3
      have hat : atV ⟨2, 0, x.lo.a, false⟩ = x.lo := by
        show (⟨x.lo.a, false⟩ : Cut) = x.lo
        cases hx : x.lo with | mk a e => rw [hx] at he; simp only at he; rw [he]
      show inL _ _ = true
      rw [hat]
      show (inS x.lo x || _) = true
      rw [inS_lo h3, Bool.true_or]
    | nil =>
      cases rb with
      | cons x rb =>
        refine ⟨by simp, fun _ => ?_⟩
        obtain ⟨h1, _, h3⟩ := h.b x List.mem_cons_self
        have he := lt_live h3
        have hat : atV ⟨3, 0, [], !x.lo.a.isEmpty⟩ = x.lo := by
          cases hx : x.lo with
          | mk a e =>
            rw [hx] at he h1
            simp only at he
            subst he
            rcases h1 with h1 | h1 | h1
            · cases h1
            · simp only at h1; subst h1; rfl
            · simp only at h1; subst h1; rfl
        show inL _ _ = true
        rw [hat]
        show (inS x.lo x || _) = true
        rw [inS_lo h3, Bool.true_or]
      | nil =>
        refine ⟨by simp, fun ho => ?_⟩
        show ro = true
        exact ho
theorem empty_iff {r : Rg} (h : Good4 r) : r.empty = true ↔ ∀ v, r.has v = false := by
  obtain ⟨h1, h2⟩ := some_law h
  constructor
  · intro he v
    obtain ⟨ri, rs, rb, ro⟩ := r
    unfold Rg.empty at he
    simp only [Bool.and_eq_true, Bool.not_eq_true', Bool.or_eq_false_iff, decide_eq_false_iff_not] at he
    have e1 : ri = [] := List.eq_nil_of_length_eq_zero (by omega)
    have e2 : rs = [] := List.eq_nil_of_length_eq_zero (by omega)
    have e3 : rb = [] := List.eq_nil_of_length_eq_zero (by omega)
    obtain ⟨he1, _⟩ := he
    subst e1; subst e2; subst e3; subst he1
    unfold Rg.has Rg.of inL
    (repeat' split) <;> rfl
  · intro hv
    cases he : r.empty with
    | true => rfl
    | false =>
      rw [he] at h1
      have := h2 h1
      rw [hv] at this; cases this
theorem within_iff {r q : Rg} (h : Good4 r) (k : Good4 q) : r.within q = true ↔ ∀ v, r.has v = true → q.has v = true := by
  unfold Rg.within
  rw [empty_iff (h.minus k)]
  constructor
  · intro a v hv
    have := a v
    rw [has_minus, hv] at this
    simpa using this
  · intro a v
    rw [has_minus]
    cases hv : r.has v with
    | false => rfl
    | true => rw [a v hv]; rfl

/-! The regions of constraints -/
theorem okS_full {P : Cut → Prop} {l : List Sp} (h : ∀ x ∈ l, P x.lo ∧ P x.hi) : okS P (fullS l) := fun x hx => by
  obtain ⟨h1, h2⟩ := List.mem_filter.1 hx
  exact ⟨(h x h1).1, (h x h1).2, h2⟩
theorem around_ok1 {v : V} (h : v.k = 1) : ok1 (aroundV v).1 ∧ ok1 (aroundV v).2 := by
  unfold aroundV
  rw [if_pos h]
  split
  · exact ⟨num_ok1 _, .inl rfl⟩
  · exact ⟨num_ok1 _, num_ok1 _⟩
theorem around_ok3 {v : V} (h1 : v.k ≠ 1) (h2 : v.k ≠ 2) : ok3 (aroundV v).1 ∧ ok3 (aroundV v).2 := by
  unfold aroundV
  rw [if_neg h1, if_neg h2]
  split
  · exact ⟨.inr (.inr rfl), .inl rfl⟩
  · exact ⟨.inr (.inl rfl), .inr (.inr rfl)⟩
theorem ofL_ok {P : Cut → Prop} {c : C} (ha : P (aroundV c.v).1 ∧ P (aroundV c.v).2) (hf : P (firstC c.v.k)) (he : P endC) (hp : c.op = 8 → P (pastF c.v.s)) : okS P (ofL c) := by
  refine okS_full fun x hx => ?_
  split at hx
  · rw [List.mem_singleton.1 hx]; exact ha
  · split at hx
    · rcases List.mem_cons.1 hx with e | hx
      · rw [e]; exact ⟨hf, ha.1⟩
      · rw [List.mem_singleton.1 hx]; exact ⟨ha.2, he⟩
    · split at hx
      · rw [List.mem_singleton.1 hx]; exact ⟨hf, ha.1⟩
      · split at hx
        · rw [List.mem_singleton.1 hx]; exact ⟨hf, ha.2⟩
        · split at hx
          · rw [List.mem_singleton.1 hx]; exact ⟨ha.2, he⟩
          · split at hx
            · rw [List.mem_singleton.1 hx]; exact ⟨ha.1, he⟩
            · split at hx
              · rename_i h8
                rw [List.mem_singleton.1 hx]; exact ⟨ha.1, hp h8⟩
              · cases hx
theorem good_set {k : Int} {c : C} (hk : c.v.k = k) (h8 : c.op = 8 → k = 2) : Good4 (setR k (ofL c)) := by
  subst hk
  unfold setR
  split
  · rename_i h1
    exact ⟨ofL_ok (around_ok1 h1) (by rw [h1]; exact num_ok1 _) (.inl rfl) (fun e => by have := h8 e; omega), fun _ h => (by cases h), fun _ h => (by cases h)⟩
  · rename_i h1
    split
    · exact ⟨fun _ h => (by cases h), ofL_ok ⟨trivial, trivial⟩ trivial trivial (fun _ => trivial), fun _ h => (by cases h)⟩
    · rename_i h2
      refine ⟨fun _ h => (by cases h), fun _ h => (by cases h), ofL_ok (around_ok3 h1 h2) ?_ (.inl rfl) (fun e => absurd (h8 e) h2)⟩
      unfold firstC; rw [if_neg h1]; exact .inr (.inl rfl)
theorem good_one (v : V) : Good4 (oneV v) := good_set rfl (fun e => by cases e)
theorem good_fold (l : List V) (r : Rg) (h : Good4 r) : Good4 (l.foldl (fun r v => r.minus (oneV v)) r) := by
  induction l generalizing r with
  | nil => exact h
  | cons v l ih => exact ih _ (h.minus (good_one v))
theorem good_of (c : C) : Good4 (ofR c) := by
  unfold ofR
  split
  · exact good_none
  · rename_i hm
    split
    · exact good_all
    · split
      · exact good_all.minus (good_fold _ _ good_all)
      · refine good_set rfl fun h8 => ?_
        simp only [Bool.not_eq_true', Bool.not_eq_false] at hm
        unfold mayC at hm
        by_cases h0 : c.name.length < 1 ∨ 16 < c.name.length
        · rw [if_pos h0] at hm; cases hm
        · rw [if_neg h0, if_neg (show ¬ c.op = 1 by omega), if_neg (show ¬ (2 ≤ c.op ∧ c.op ≤ 7) by omega), if_pos h8] at hm
          simp only [Bool.and_eq_true, decide_eq_true_eq] at hm
          exact hm.1.2
theorem good_asked (p : List C) (name : List UInt8) : Good4 (askedF p name) := by
  unfold askedF
  split
  · exact good_none
  · have : ∀ (l : List C) (r : Rg), Good4 r → Good4 (l.foldl (fun r c => if c.name = name then r.and (ofR c) else r) r) := fun l => by
      induction l with
      | nil => intro r h; exact h
      | cons c l ih =>
        intro r h
        rw [List.foldl_cons]
        refine ih _ ?_
        split
        · exact h.and (good_of c)
        · exact h
    exact this p _ good_all

theorem bl_zero8 (l : List UInt8) : ∀ k, Op.bytesLess l (List.replicate k 0) = true → l.length < k := by
  induction l with
  | nil => intro k h; cases k with | zero => simp [Op.bytesLess] at h | succ k => simp
  | cons a l ih =>
    intro k h
    cases k with
    | zero => simp [Op.bytesLess] at h
    | succ k =>
      simp only [List.replicate_succ, Op.bytesLess, Bool.or_eq_true, decide_eq_true_eq, Bool.and_eq_true] at h
      rcases h with h | h
      · exact absurd h (UInt8.not_lt_zero)
      · have := ih k h.2; simp; omega
theorem all_has (v : V) : allR.has v = true := by
  unfold Rg.has
  split
  · rfl
  · rename_i hk
    have hlive : (atV v).e = false := by
      unfold atV aroundV numC
      (repeat' split) <;> rfl
    have hlt : Cut.lt (atV v) endC = true := by unfold Cut.lt; rw [hlive]; rfl
    have key : ∀ k, k = v.k → Cut.lt (atV v) (firstC k) = false := fun k hkv => by
      subst hkv
      by_cases h1 : v.k = 1
      · have hl : (atV v).a.length = 8 := by
          have := (around_ok1 h1).1
          rcases this with h | h
          · unfold atV at hlive; rw [hlive] at h; cases h
          · exact h
        unfold firstC Cut.lt
        rw [if_pos h1]
        have e0 : (numC (-9223372036854775808)).a = List.replicate 8 0 := by rfl
        have e1 : (numC (-9223372036854775808)).e = false := rfl
        rw [hlive, e1, e0]
        cases hb : Op.bytesLess (atV v).a (List.replicate 8 0) with
        | false => rfl
        | true => have := bl_zero8 _ _ hb; omega
      · unfold firstC Cut.lt
        rw [if_neg h1, hlive]
        cases (atV v).a <;> rfl
    have fin : ∀ k, k = v.k → inL (atV v) [⟨firstC k, endC⟩] = true := fun k hkv => by
      show (inS _ _ || false) = true
      unfold inS
      rw [key k hkv, hlt]; rfl
    unfold Rg.of
    split
    · rename_i h1; exact fin 1 h1.symm
    · split
      · rename_i h2; exact fin 2 h2.symm
      · exact fin 3 (by omega)
theorem none_has (v : V) : noneR.has v = false := by
  unfold Rg.has Rg.of inL noneR
  (repeat' split) <;> rfl
theorem and_self (r q : Rg) : (r.and q).has = fun v => r.has v && q.has v := by funext v; exact has_and r q v

/-- What a predicate that may be asks of a name. -/
theorem asked_has {p : List C} (hp : mayP p = true) (name : List UInt8) (v : V) : (askedF p name).has v = p.all fun c => !decide (c.name = name) || (ofR c).has v := by
  unfold askedF
  rw [hp]
  have : ∀ (l : List C) (r : Rg), (l.foldl (fun r c => if c.name = name then r.and (ofR c) else r) r).has v = (r.has v && l.all fun c => !decide (c.name = name) || (ofR c).has v) := fun l => by
    induction l with
    | nil => intro r; simp
    | cons c l ih =>
      intro r
      rw [List.foldl_cons, ih, List.all_cons]
      by_cases hn : c.name = name
      · rw [if_pos hn, has_and, decide_eq_true hn, Bool.and_assoc]; rfl
      · rw [if_neg hn, decide_eq_false hn]; rfl
  show (p.foldl _ allR).has v = _
  rw [this, all_has, Bool.true_and]

/-! Covering -/
theorem names_mem (p : List C) (n : List UInt8) : n ∈ namesF p ↔ ∃ c ∈ p, c.name = n := by
  unfold namesF
  rw [sortU_mem _ (fun _ _ _ _ => bytes_zero), List.mem_map]
theorem asked_free {p : List C} (hp : mayP p = true) {n : List UInt8} (hn : n ∉ namesF p) (v : V) : (askedF p n).has v = true := by
  rw [asked_has hp, List.all_eq_true]
  intro c hc
  have : ¬ c.name = n := fun e => hn ((names_mem p n).2 ⟨c, hc, e⟩)
  rw [decide_eq_false this]; rfl
theorem none_iff {p : List C} : noneF p = true ↔ ∃ n ∈ namesF p, ∀ v, (askedF p n).has v = false := by
  unfold noneF
  rw [List.any_eq_true]
  exact ⟨fun ⟨n, h1, h2⟩ => ⟨n, h1, (empty_iff (good_asked p n)).1 h2⟩, fun ⟨n, h1, h2⟩ => ⟨n, h1, (empty_iff (good_asked p n)).2 h2⟩⟩
theorem covers_iff (p q : List C) : coversF p q = true ↔ mayP p = true ∧ mayP q = true ∧ (noneF q = true ∨ ∀ n ∈ namesF p, n ∈ namesF q ∧ ∀ v, (askedF q n).has v = true → (askedF p n).has v = true) := by
  unfold coversF
  simp only [Bool.and_eq_true, Bool.or_eq_true, Bool.not_eq_true', and_assoc]
  refine and_congr_right fun _ => and_congr_right fun _ => or_congr_right ?_
  rw [List.any_eq_false]
  refine forall_congr' fun n => imp_congr_right fun _ => ?_
  rw [← within_iff (good_asked q n) (good_asked p n)]
  simp only [Bool.or_eq_true, Bool.not_eq_true', decide_eq_false_iff_not, not_or, Classical.not_not, Bool.not_eq_false]
theorem covers_refl {p : List C} (h : mayP p = true) : coversF p p = true :=
  (covers_iff p p).2 ⟨h, h, .inr fun _ hn => ⟨hn, fun _ hv => hv⟩⟩
theorem covers_trans {p q r : List C} (h1 : coversF p q = true) (h2 : coversF q r = true) : coversF p r = true := by
  obtain ⟨a1, a2, a3⟩ := (covers_iff p q).1 h1
  obtain ⟨_, b2, b3⟩ := (covers_iff q r).1 h2
  refine (covers_iff p r).2 ⟨a1, b2, ?_⟩
  rcases b3 with b3 | b3
  · exact .inl b3
  · rcases a3 with a3 | a3
    · left
      obtain ⟨n, hn, hv⟩ := none_iff.1 a3
      refine none_iff.2 ⟨n, (b3 n hn).1, fun v => ?_⟩
      cases h : (askedF r n).has v with
      | false => rfl
      | true => have := (b3 n hn).2 v h; rw [hv] at this; cases this
    · right
      intro n hn
      exact ⟨(b3 n (a3 n hn).1).1, fun v hv => (a3 n hn).2 v ((b3 n (a3 n hn).1).2 v hv)⟩
/-- Fewer constraints cover more. -/
theorem covers_sub {p q : List C} (hp : mayP p = true) (hq : mayP q = true) (h : ∀ c ∈ p, c ∈ q) : coversF p q = true := by
  refine (covers_iff p q).2 ⟨hp, hq, .inr fun n hn => ?_⟩
  obtain ⟨c, hc, e⟩ := (names_mem p n).1 hn
  refine ⟨(names_mem q n).2 ⟨c, h c hc, e⟩, fun v hv => ?_⟩
  rw [asked_has hp, List.all_eq_true]
  rw [asked_has hq, List.all_eq_true] at hv
  exact fun c hc => hv c (h c hc)

end Go.Proofs.YtlhbpflcffjhmaaGreat
