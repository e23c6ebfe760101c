/- A row of numbers of the call's own, told as an array: reading, writing, exchanging. -/
import Derived.Test.YtlgopjfnknjgjaaU1
import Derived.Test.YtlgopjfnknjgjaaO3
import Derived.Sort.Defs
import Derived.Sort.LotA
import Derived.Sort.LotB
import Derived.Sort.LotC
namespace Go.Proofs.Ytlgopjfnknjgjaa
open Go.RowKit

/-- The row of block g, from block 'base' on, holds d. -/
def UO (base g cap : Nat) (w : World) (d : Array Nat) : Prop := w.ownsRow base 28 1 (.slice (some ⟨g, 0, none⟩) d.size cap) d.size (d.toList.map uC)
theorem UO.cell {base g cap : Nat} {w : World} {d : Array Nat} (h : UO base g cap w d) {i : Nat} (hi : i < d.size) : w.cell? ⟨g, i, none⟩ = some (.int .u64 d[i]!) := by
  have := Row.cellAt (Row.of_own h) (j := i) (u := .int .u64 d[i]!) (by rw [List.getElem?_map, List.getElem?_eq_getElem (by simpa using hi)]; simp [uC, hi]) (by omega)
  simpa using this
theorem UO.free {base g cap : Nat} {w : World} {d : Array Nat} (h : UO base g cap w d) (i : Nat) : w.frozen? ⟨g, i, none⟩ = false := by
  rcases h.2 with ⟨e, _⟩ | ⟨g', c, cur, e, hb, hg, _⟩
  · cases e
  · cases e
    exact frozen_of_row _ _ _ _ _ hg
theorem UO.ext {base g cap : Nat} {w w' : World} {d : Array Nat} (h : UO base g cap w d) (hx : Ext w w') : UO base g cap w' d := own_ext h hx
theorem UO.lt {base g cap : Nat} {w : World} {d : Array Nat} (h : UO base g cap w d) : base ≤ g ∧ g < w.heap.size := by
  rcases h.2 with ⟨e, _⟩ | ⟨g', c, cur, e, hb, hg, _⟩
  · cases e
  · cases e
    exact ⟨hb, (Array.getElem?_eq_some_iff.1 hg).1⟩
theorem UO.le {base g cap : Nat} {w : World} {d : Array Nat} (h : UO base g cap w d) : d.size ≤ maxLen := own_len_le h
theorem uO_set {base g cap : Nat} {w : World} {d : Array Nat} (h : UO base g cap w d) {i : Nat} (hi : i < d.size) (x : Nat) : UO base g cap (w.setCell ⟨g, i, none⟩ (.int .u64 x)) (d.setIfInBounds i x) ∧ w.grownBy (w.setCell ⟨g, i, none⟩ (.int .u64 x)) (some g) := by
  have hf : (d.toList.map uC) = d.toList.flatMap fun n => [uC n] := by induction d.toList with | nil => rfl | cons y l ih => rw [List.map_cons, List.flatMap_cons, ih]; rfl
  have h' := h
  unfold UO at h'
  rw [hf] at h'
  obtain ⟨h1, h2⟩ := own_set (fun n => [uC n]) (fun _ => rfl) h' i (by simpa using hi) x
  have e1 : w.setCells g (i * 1) [uC x] = w.setCell ⟨g, i, none⟩ (.int .u64 x) := by rw [Nat.mul_one]; rfl
  rw [e1] at h1 h2
  refine ⟨?_, h2⟩
  unfold UO
  have e2 : ((d.setIfInBounds i x).toList.map uC) = ((d.toList.set i x).flatMap fun n => [uC n]) := by
    rw [Array.toList_setIfInBounds]
    induction d.toList.set i x with | nil => rfl | cons y l ih => rw [List.map_cons, List.flatMap_cons, ih]; rfl
  rw [e2, Array.size_setIfInBounds]
  exact h1
theorem grown_trans {a b c : World} {r : Option Nat} (h : a.grownBy b r) (k : b.grownBy c r) : a.grownBy c r :=
  ⟨k.os.trans h.os, k.tape.trans h.tape, k.output.trans h.output, Nat.le_trans h.size k.size, fun i hi hne => (k.block i (Nat.lt_of_lt_of_le hi h.size) hne).trans (h.block i hi hne)⟩
theorem grown_of_ext {a b : World} {r : Option Nat} (h : Ext a b) : a.grownBy b r := ⟨h.os, h.tape, h.output, h.size, fun i hi _ => h.block i hi⟩
theorem grown_refl (a : World) (r : Option Nat) : a.grownBy a r := grown_of_ext (Ext.refl a)
/-- What a piece of the sort leaves: the row with d', and nothing else has turned. -/
def UOq (base g cap : Nat) (w : World) (d' : Array Nat) (w' : World) : Prop := UO base g cap w' d' ∧ w.grownBy w' (some g)
theorem swp_size {α : Type} [Inhabited α] (d : Array α) (i j : Nat) : (Sort.swp d i j).size = d.size := by simp [Sort.swp]
end Go.Proofs.Ytlgopjfnknjgjaa
