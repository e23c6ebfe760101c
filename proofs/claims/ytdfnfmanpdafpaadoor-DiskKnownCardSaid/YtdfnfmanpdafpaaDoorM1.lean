/- Maps told by their entries: looking up, storing, deleting, ranging. (Of any program.) -/
import Derived.Test.YtdfnfmanpdafpaaDoorK2
import Derived.MapKept
import Derived.ChangeMaps5
import Derived.Carry
import Derived.Maps.RangeRun
import Derived.OwnWalk
import Derived.WalkKit
namespace Go.Proofs.YtdfnfmanpdafpaaDoor
open Go.RowKit Go.MapKept Go.ChangeMaps

/-- Block b is a map whose entries, in the order in which they were laid, are E; its keys are of kind d. -/
def MapE (w : World) (b : Nat) (d : TypeDesc) (E : List (Value × Value)) : Prop :=
  ∃ es clock, w.heap[b]? = some (.map es clock) ∧ Stamped es clock ∧ (∀ x ∈ es.toList, IsKey d x.key) ∧ es.toList.map (fun x => (x.key, x.val)) = E
/-- Block b alone has turned. -/
structure But (b : Nat) (w w' : World) : Prop where
  os : w'.os = w.os
  tape : w'.tape = w.tape
  output : w'.output = w.output
  size : w'.heap.size = w.heap.size
  drawn : w.drawn ≤ w'.drawn
  block : ∀ k, k ≠ b → w'.heap[k]? = w.heap[k]?
theorem But.refl (b : Nat) (w : World) : But b w w := ⟨rfl, rfl, rfl, rfl, Nat.le_refl _, fun _ _ => rfl⟩
theorem But.trans {b : Nat} {x y z : World} (h : But b x y) (k : But b y z) : But b x z :=
  ⟨k.os.trans h.os, k.tape.trans h.tape, k.output.trans h.output, k.size.trans h.size, Nat.le_trans h.drawn k.drawn, fun i hi => (k.block i hi).trans (h.block i hi)⟩
theorem But.ext {a w w' : World} {b : Nat} (h : But b w w') (hx : Ext a w) (hb : a.heap.size ≤ b) : Ext a w' :=
  ⟨h.os.trans hx.os, h.tape.trans hx.tape, h.output.trans hx.output, by rw [h.size]; exact hx.size, fun k hk => (h.block k (by omega)).trans (hx.block k hk)⟩
theorem But.map {w w' : World} {b c : Nat} {d : TypeDesc} {E : List (Value × Value)} (h : But b w w') (hm : MapE w c d E) (hc : c ≠ b) : MapE w' c d E := by
  obtain ⟨es, clock, h1, h2⟩ := hm
  exact ⟨es, clock, (h.block c hc).trans h1, h2⟩
theorem but_set {w : World} {b : Nat} {o : Obj} : But b w (setBlock w b o) :=
  ⟨rfl, rfl, rfl, by simp [setBlock], Nat.le_refl _, fun k hk => by unfold setBlock; exact Array.getElem?_setIfInBounds_ne (Ne.symm hk)⟩
theorem MapE.ext {w w' : World} {b : Nat} {d : TypeDesc} {E : List (Value × Value)} (h : MapE w b d E) (hx : Ext w w') : MapE w' b d E := by
  obtain ⟨es, clock, h1, h2⟩ := h
  exact ⟨es, clock, by rw [hx.block b (Array.getElem?_eq_some_iff.1 h1).1]; exact h1, h2⟩
theorem MapE.lt {w : World} {b : Nat} {d : TypeDesc} {E : List (Value × Value)} (h : MapE w b d E) : b < w.heap.size := by
  obtain ⟨es, clock, h1, _⟩ := h
  exact (Array.getElem?_eq_some_iff.1 h1).1
theorem MapE.made (w : World) (d : TypeDesc) : MapE (w.alloc (.map #[] 0)) w.heap.size d [] :=
  ⟨#[], 0, (MapKept.heap_alloc w _).1, stamped_empty 0, by simp, rfl⟩
theorem MapE.keys {w : World} {b : Nat} {d : TypeDesc} {E : List (Value × Value)} (h : MapE w b d E) : (∀ p ∈ E, IsKey d p.1) ∧ (E.map (·.1)).Nodup := by
  obtain ⟨es, clock, _, hs, hk, rfl⟩ := h
  refine ⟨fun p hp => ?_, ?_⟩
  · obtain ⟨x, hx, rfl⟩ := List.mem_map.1 hp
    exact hk x hx
  · rw [List.map_map]; exact hs.2.2

section
variable {P : Program}
theorem MapE.look {w : World} {b : Nat} {d : TypeDesc} {E : List (Value × Value)} (h : MapE w b d E) {t k e : TypeId} (ht : P.underlying t = some (.map k e)) (hd : P.underlying k = some d) {z : Value} (hz : (zeroValue e).run P w = .ok z w) {key : Value} (hk : IsKey d key) :
    ((∀ p ∈ E, p.1 ≠ key) ∧ (Instr.lookup t (.map (some b)) key false).run P w = .ok z w ∧ (Instr.lookup t (.map (some b)) key true).run P w = .ok (.tuple #[z, .bool false]) w) ∨
    ∃ (j : Nat) (v : Value), E[j]? = some (key, v) ∧ (Instr.lookup t (.map (some b)) key false).run P w = .ok v w ∧ (Instr.lookup t (.map (some b)) key true).run P w = .ok (.tuple #[v, .bool true]) w := by
  obtain ⟨es, clock, hb, hs, hks, rfl⟩ := h
  rcases findNow_spec hk es.toList 0 hks with ⟨h1, h2⟩ | ⟨j, x, h1, h2, h3⟩
  · refine .inl ⟨fun p hp => ?_, ?_, ?_⟩
    · obtain ⟨x, hx, rfl⟩ := List.mem_map.1 hp
      exact h2 x hx
    · simp [Instr.lookup, run_underlying ht, Go.MapKept.run_getObj_map hb, Go.MapKept.run_checkKey hd hk, Go.MapKept.run_findKey hd h1, hz, Result.andThen]
    · simp [Instr.lookup, run_underlying ht, Go.MapKept.run_getObj_map hb, Go.MapKept.run_checkKey hd hk, Go.MapKept.run_findKey hd h1, hz, Result.andThen]
  · refine .inr ⟨j, x.val, ?_, ?_, ?_⟩
    · rw [List.getElem?_map, h2]; simp [h3]
    · simp [Instr.lookup, run_underlying ht, Go.MapKept.run_getObj_map hb, Go.MapKept.run_checkKey hd hk, Go.MapKept.run_findKey hd h1, Result.andThen]
    · simp [Instr.lookup, run_underlying ht, Go.MapKept.run_getObj_map hb, Go.MapKept.run_checkKey hd hk, Go.MapKept.run_findKey hd h1, Result.andThen]

theorem map_modify_set (es : Array MapEntry) (j : Nat) (x : MapEntry) (hx : es[j]? = some x) (key v : Value) :
    (es.modify j fun e => { e with key := key, val := v }).toList.map (fun x => (x.key, x.val)) = (es.toList.map (fun x => (x.key, x.val))).set j (key, v) := by
  apply List.ext_getElem?
  intro i
  simp only [List.getElem?_map, Array.getElem?_toList, Array.getElem?_modify, List.getElem?_set, List.length_map]
  by_cases hji : j = i
  · subst hji
    rw [if_pos rfl, if_pos rfl, hx, if_pos (by rw [Array.length_toList]; exact (Array.getElem?_eq_some_iff.1 hx).1)]
    rfl
  · rw [if_neg hji, if_neg hji]
theorem MapE.put {w : World} {b : Nat} {d : TypeDesc} {E : List (Value × Value)} (h : MapE w b d E) {t k e : TypeId} (ht : P.underlying t = some (.map k e)) (hd : P.underlying k = some d) {key v : Value} (hk : IsKey d key) :
    ∃ w', (Instr.mapUpdate t (.map (some b)) key v).run P w = .ok () w' ∧ But b w w' ∧
      (((∀ p ∈ E, p.1 ≠ key) ∧ MapE w' b d (E ++ [(key, v)])) ∨ ∃ (j : Nat) (u : Value), E[j]? = some (key, u) ∧ MapE w' b d (E.set j (key, v))) := by
  obtain ⟨es, clock, hb, hs, hks, rfl⟩ := h
  rcases findNow_spec hk es.toList 0 hks with ⟨h1, h2⟩ | ⟨j, x, h1, h2, h3⟩
  · refine ⟨setBlock w b (.map (es.push { key, val := v, born := clock }) (clock + 1)), ?_, but_set, .inl ⟨fun p hp => ?_, _, _, heap_setBlock_same hb _, stamped_push hs h2, ?_, by simp⟩⟩
    · simp only [Instr.mapUpdate, Sem.run_bind, run_underlying ht, Go.MapKept.run_getObj_map hb, Go.MapKept.run_checkKey hd hk, Go.MapKept.run_findKey hd h1, Result.andThen]; simp [Go.MapKept.run_setObj_map _ hb, setBlock]
    · obtain ⟨x, hx, rfl⟩ := List.mem_map.1 hp
      exact h2 x hx
    · intro x hx
      simp only [Array.toList_push, List.mem_append, List.mem_singleton] at hx
      rcases hx with hx | rfl
      · exact hks x hx
      · exact hk
  · have hj : es[j]? = some x := by simpa using h2
    have hkey : ∀ e', es[j]? = some e' → ({ e' with key := key, val := v } : MapEntry).key = e'.key := fun e' he' => by rw [hj] at he'; cases he'; exact h3.symm
    refine ⟨setBlock w b (.map (es.modify j fun e => { e with key := key, val := v }) clock), ?_, but_set, .inr ⟨j, x.val, ?_, _, _, heap_setBlock_same hb _, stamped_modify hs _ _ (fun _ _ => rfl) (fun e' _ he' => hkey e' he'), isKey_modify hks _ _ hkey, map_modify_set es j x hj key v⟩⟩
    · simp only [Instr.mapUpdate, Sem.run_bind, run_underlying ht, Go.MapKept.run_getObj_map hb, Go.MapKept.run_checkKey hd hk, Go.MapKept.run_findKey hd h1, Result.andThen]; simp [hj, h3, run_keyThatStays hk, Go.MapKept.run_setObj_map _ hb, setBlock]
    · rw [List.getElem?_map, h2]; simp [h3]
theorem map_eraseIdx' {α β : Type} (f : α → β) : ∀ (l : List α) (j : Nat), (l.eraseIdx j).map f = (l.map f).eraseIdx j
  | [], j => by simp
  | x :: l, 0 => by simp
  | x :: l, j + 1 => by simp [map_eraseIdx' f l j]
theorem map_erase (es : Array MapEntry) (j : Nat) : (es.eraseIdxIfInBounds j).toList.map (fun x => (x.key, x.val)) = (es.toList.map (fun x => (x.key, x.val))).eraseIdx j := by
  unfold Array.eraseIdxIfInBounds
  split
  · rw [Array.toList_eraseIdx, map_eraseIdx']
  · rename_i h
    rw [List.eraseIdx_of_length_le]
    rw [List.length_map, Array.length_toList]; omega
theorem MapE.del {w : World} {b : Nat} {d : TypeDesc} {E : List (Value × Value)} (h : MapE w b d E) {t k e ty : TypeId} (ht : P.underlying t = some (.map k e)) (hd : P.underlying k = some d) {key : Value} (hk : IsKey d key) :
    ∃ w', (Builtin.delete_ #[t, k] ty #[.map (some b), key]).run P w = .ok (.tuple #[]) w' ∧ But b w w' ∧
      (((∀ p ∈ E, p.1 ≠ key) ∧ MapE w' b d E) ∨ ∃ (j : Nat) (u : Value), E[j]? = some (key, u) ∧ MapE w' b d (E.eraseIdx j)) := by
  obtain ⟨es, clock, hb, hs, hks, rfl⟩ := h
  rcases findNow_spec hk es.toList 0 hks with ⟨h1, h2⟩ | ⟨j, x, h1, h2, h3⟩
  · refine ⟨setBlock w b (.map es clock), ?_, but_set, .inl ⟨fun p hp => ?_, _, _, heap_setBlock_same hb _, hs, hks, rfl⟩⟩
    · simp [Builtin.delete_, run_underlying ht, Go.MapKept.run_getObj_map hb, Go.MapKept.run_checkKey hd hk, Go.MapKept.run_findKey hd h1, Go.MapKept.run_setObj_map _ hb, Result.andThen, setBlock]
    · obtain ⟨x, hx, rfl⟩ := List.mem_map.1 hp
      exact h2 x hx
  · refine ⟨setBlock w b (.map (es.eraseIdxIfInBounds j) clock), ?_, but_set, .inr ⟨j, x.val, ?_, _, _, heap_setBlock_same hb _, stamped_erase hs _, ?_, map_erase es j⟩⟩
    · simp [Builtin.delete_, run_underlying ht, Go.MapKept.run_getObj_map hb, Go.MapKept.run_checkKey hd hk, Go.MapKept.run_findKey hd h1, Go.MapKept.run_setObj_map _ hb, Result.andThen, setBlock]
    · rw [List.getElem?_map, h2]; simp [h3]
    · intro y hy
      have hs' : (es.eraseIdxIfInBounds j).toList.Sublist es.toList := by
        unfold Array.eraseIdxIfInBounds
        split
        · simp only [Array.toList_eraseIdx]; exact List.eraseIdx_sublist _ _
        · exact List.Sublist.refl _
      exact hks y (hs'.subset hy)

/-! At the operation, for the walk -/
theorem wpList_put {ops : Array Oper} {Q : Exit → Act → World → Prop} {a : Act} {w : World} {rest : List Oper} {o : Oper} (hg : o.guard = none) (m x v : Operand) (t : TypeId) (hop : o.op = .mapUpdate t m x v)
    {k e : TypeId} {d : TypeDesc} (ht : P.underlying t = some (.map k e)) (hd : P.underlying k = some d) {b : Nat} {E : List (Value × Value)} (hm : a.eval m = .map (some b)) (h : MapE w b d E) (hk : IsKey d (a.eval x))
    (hK : ∀ w', But b w w' → (((∀ p ∈ E, p.1 ≠ a.eval x) ∧ MapE w' b d (E ++ [(a.eval x, a.eval v)])) ∨ ∃ (j : Nat) (u : Value), E[j]? = some (a.eval x, u) ∧ MapE w' b d (E.set j (a.eval x, a.eval v))) → wpList P ops Q rest (a.put o.dst undef) w') :
    wpList P ops Q (o :: rest) a w := by
  refine wpList_plain hg fun K' hK' => ?_
  obtain ⟨w', hrun, r1, r2⟩ := h.put ht hd hk (v := a.eval v)
  unfold Oper.wp
  simp [execOp, hop, hm, hrun, Result.andThen]
  exact hK' _ _ (hK w' r1 r2)
theorem wpList_del {ops : Array Oper} {Q : Exit → Act → World → Prop} {a : Act} {w : World} {rest : List Oper} {o : Oper} (hg : o.guard = none) (m x : Operand) (t k : TypeId) (hop : o.op = Op.call { callee := Callee.builtin Builtin.delete, args := #[m, x], argTypes := #[t, k] })
    {e : TypeId} {d : TypeDesc} (ht : P.underlying t = some (.map k e)) (hd : P.underlying k = some d) {b : Nat} {E : List (Value × Value)} (hm : a.eval m = .map (some b)) (h : MapE w b d E) (hk : IsKey d (a.eval x))
    (hK : ∀ w', But b w w' → (((∀ p ∈ E, p.1 ≠ a.eval x) ∧ MapE w' b d E) ∨ ∃ (j : Nat) (u : Value), E[j]? = some (a.eval x, u) ∧ MapE w' b d (E.eraseIdx j)) → wpList P ops Q rest (a.put o.dst (.tuple #[])) w') :
    wpList P ops Q (o :: rest) a w := by
  refine wpList_plain hg fun K' hK' => ?_
  obtain ⟨w', hrun, r1, r2⟩ := h.del ht hd hk (ty := o.type)
  unfold Oper.wp
  simp [execOp, hop, resolve, invoke, builtin, hm, hrun, Result.andThen]
  exact hK' _ _ (hK w' r1 r2)
theorem wpList_look {ops : Array Oper} {Q : Exit → Act → World → Prop} {a : Act} {w : World} {rest : List Oper} {o : Oper} (hg : o.guard = none) (m x : Operand) (t : TypeId) (ok : Bool) (hop : o.op = .lookup t m x ok)
    {k e : TypeId} {d : TypeDesc} (ht : P.underlying t = some (.map k e)) (hd : P.underlying k = some d) {z : Value} (hz : (zeroValue e).run P w = .ok z w) {b : Nat} {E : List (Value × Value)} (hm : a.eval m = .map (some b)) (h : MapE w b d E) (hk : IsKey d (a.eval x))
    (h1 : (∀ p ∈ E, p.1 ≠ a.eval x) → wpList P ops Q rest (a.put o.dst (if ok then .tuple #[z, .bool false] else z)) w)
    (h2 : ∀ (j : Nat) (v : Value), E[j]? = some (a.eval x, v) → wpList P ops Q rest (a.put o.dst (if ok then .tuple #[v, .bool true] else v)) w) :
    wpList P ops Q (o :: rest) a w := by
  refine wpList_plain hg fun K' hK' => ?_
  unfold Oper.wp
  rcases h.look ht hd hz hk with ⟨hn, r1, r2⟩ | ⟨j, v, hj, r1, r2⟩
  · cases ok
    · simp [execOp, hop, hm, r1, Result.andThen]; exact hK' _ _ (h1 hn)
    · simp [execOp, hop, hm, r2, Result.andThen]; exact hK' _ _ (h1 hn)
  · cases ok
    · simp [execOp, hop, hm, r1, Result.andThen]; exact hK' _ _ (h2 j v hj)
    · simp [execOp, hop, hm, r2, Result.andThen]; exact hK' _ _ (h2 j v hj)
end
end Go.Proofs.YtdfnfmanpdafpaaDoor
