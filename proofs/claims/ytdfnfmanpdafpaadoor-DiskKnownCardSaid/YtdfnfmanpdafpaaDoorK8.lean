/- Boxes that a function makes as it begins. -/
import Derived.Test.YtdfnfmanpdafpaaDoorK2
namespace Go.Proofs.YtdfnfmanpdafpaaDoor
open Go.RowKit

theorem block_later {w w' : World} {b : Nat} {o : Obj} (h : w.heap[b]? = some o) (hx : Ext w w') : w'.heap[b]? = some o :=
  (hx.block b (Array.getElem?_eq_some_iff.1 h).1).trans h
theorem boxes1 (w : World) (a : Obj) : Ext w (w.alloc a) ∧ (w.alloc a).heap[w.heap.size]? = some a :=
  ⟨(Ext.refl w).alloc _, heap_alloc_new w a⟩
theorem boxes2 (w : World) (a b : Obj) : Ext w ((w.alloc a).alloc b) ∧ ((w.alloc a).alloc b).heap[w.heap.size]? = some a ∧ ((w.alloc a).alloc b).heap[w.heap.size + 1]? = some b := by
  refine ⟨((Ext.refl w).alloc _).alloc _, block_later (heap_alloc_new w a) ((Ext.refl _).alloc _), ?_⟩
  have h := heap_alloc_new (w.alloc a) b
  rw [World.size_alloc] at h; exact h
theorem boxes3 (w : World) (a b c : Obj) : Ext w (((w.alloc a).alloc b).alloc c) ∧ (((w.alloc a).alloc b).alloc c).heap[w.heap.size]? = some a ∧ (((w.alloc a).alloc b).alloc c).heap[w.heap.size + 1]? = some b ∧ (((w.alloc a).alloc b).alloc c).heap[w.heap.size + 1 + 1]? = some c := by
  obtain ⟨h1, h2, h3⟩ := boxes2 w a b
  have hx : Ext ((w.alloc a).alloc b) (((w.alloc a).alloc b).alloc c) := (Ext.refl _).alloc _
  refine ⟨h1.trans hx, block_later h2 hx, block_later h3 hx, ?_⟩
  have h := heap_alloc_new ((w.alloc a).alloc b) c
  rw [World.size_alloc, World.size_alloc] at h; exact h
theorem boxes4 (w : World) (a b c d : Obj) : Ext w ((((w.alloc a).alloc b).alloc c).alloc d) ∧ ((((w.alloc a).alloc b).alloc c).alloc d).heap[w.heap.size]? = some a ∧ ((((w.alloc a).alloc b).alloc c).alloc d).heap[w.heap.size + 1]? = some b ∧ ((((w.alloc a).alloc b).alloc c).alloc d).heap[w.heap.size + 1 + 1]? = some c ∧ ((((w.alloc a).alloc b).alloc c).alloc d).heap[w.heap.size + 1 + 1 + 1]? = some d := by
  obtain ⟨h1, h2, h3, h4⟩ := boxes3 w a b c
  have hx : Ext (((w.alloc a).alloc b).alloc c) ((((w.alloc a).alloc b).alloc c).alloc d) := (Ext.refl _).alloc _
  refine ⟨h1.trans hx, block_later h2 hx, block_later h3 hx, block_later h4 hx, ?_⟩
  have h := heap_alloc_new (((w.alloc a).alloc b).alloc c) d
  rw [World.size_alloc, World.size_alloc, World.size_alloc] at h; exact h
end Go.Proofs.YtdfnfmanpdafpaaDoor
