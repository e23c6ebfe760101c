/- One cell of a row of the call's own is set. (Of any program.) -/
import Derived.Test.YtlgopjfnknjgjaaO3
import Derived.Test.YtlgopjfnknjgjaaY1
namespace Go.Proofs.Ytlgopjfnknjgjaa
open Go.RowKit Go.Sort

theorem setCell_block_far (w : World) (a : Addr) (v : Value) (k : Nat) (h : k ≠ a.block) : (w.setCell a v).heap[k]? = w.heap[k]? := by
  show (w.heap.modify a.block _)[k]? = w.heap[k]?
  rw [Array.getElem?_modify, if_neg (fun e => h e.symm)]
theorem cell_far (w : World) (g j h k : Nat) (u : Value) (hne : g ≠ h) : (w.setCell ⟨g, j, none⟩ u).cell? ⟨h, k, none⟩ = w.cell? ⟨h, k, none⟩ := by
  unfold World.cell?
  rw [setCell_block_far w ⟨g, j, none⟩ u h (Ne.symm hne)]
theorem own_set1 {w : World} {base g n cap k : Nat} {e : TypeId} {xs : List Value} (h : w.ownsRow base e k (.slice (some ⟨g, 0, none⟩) n cap) n xs) {j : Nat} (hj : j < xs.length) (u : Value) :
    (w.setCell ⟨g, j, none⟩ u).ownsRow base e k (.slice (some ⟨g, 0, none⟩) n cap) n (xs.set j u) ∧ w.grownBy (w.setCell ⟨g, j, none⟩ u) (some g) := by
  obtain ⟨cur, hg, hb, hn, hm, hs, hlt, hH⟩ := own_holds h
  have h1 := setCells_putRow w g 0 [u] j xs.toArray (by simp; omega)
  rw [putRow_self id w g 0 _ hH, Nat.zero_add] at h1
  have e1 : w.setCells g j [u] = w.setCell ⟨g, j, none⟩ u := rfl
  rw [e1] at h1
  have e3 : setMany xs.toArray j [u] = (xs.set j u).toArray := by simp [setMany]
  rw [e3] at h1
  have e2 : putRow id w g 0 (xs.set j u).toArray = grow (putRow id (Sort.ahead w 0) g 0 (xs.set j u).toArray) #[] := by rw [grow_empty, Sort.ahead_zero]
  rw [h1, e2]
  exact ⟨own_put h (by simp), grownBy_row _⟩
end Go.Proofs.Ytlgopjfnknjgjaa
