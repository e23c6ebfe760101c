/- Places picked out of a row, as a loop takes them. No program is in sight. -/
import Derived.Test.YtlgopjfnknjgjaaZ2
namespace Go.Proofs.Ytlgopjfnknjgjaa

def pickK {α : Type} (p : Nat → Bool) (l : List α) (k : Nat) : List α := ((List.range k).filter p).filterMap fun i => l[i]?
theorem pickK_all {α : Type} (p : Nat → Bool) (l : List α) : pickK p l l.length = pickF p l := rfl
theorem pickK_zero {α : Type} (p : Nat → Bool) (l : List α) : pickK p l 0 = [] := rfl
theorem pickK_yes {α : Type} {p : Nat → Bool} {l : List α} {k : Nat} (hk : k < l.length) (h : p k = true) : pickK p l (k + 1) = pickK p l k ++ [l[k]] := by
  unfold pickK; rw [pickF_take p l hk, h]; rfl
theorem pickK_no {α : Type} {p : Nat → Bool} {l : List α} {k : Nat} (hk : k < l.length) (h : p k = false) : pickK p l (k + 1) = pickK p l k := by
  unfold pickK; rw [pickF_take p l hk, h]; simp
theorem pickK_le {α : Type} (p : Nat → Bool) (l : List α) (k : Nat) : (pickK p l k).length ≤ k := by
  unfold pickK
  refine Nat.le_trans (List.length_filterMap_le _ _) (Nat.le_trans (List.length_filter_le _ _) (by simp))
theorem pickK_mem {α : Type} {p : Nat → Bool} {l : List α} {k : Nat} {x : α} (h : x ∈ pickK p l k) : x ∈ l := by
  unfold pickK at h
  obtain ⟨i, _, hi⟩ := List.mem_filterMap.1 h
  exact List.mem_of_getElem? hi
theorem pickK_congr {α : Type} {p q : Nat → Bool} {l : List α} {k : Nat} (h : ∀ i, i < k → p i = q i) : pickK p l k = pickK q l k := by
  unfold pickK
  congr 1
  exact List.filter_congr fun i hi => h i (List.mem_range.1 hi)
theorem pickF_le {α : Type} (p : Nat → Bool) (l : List α) : (pickF p l).length ≤ l.length := pickK_le p l l.length
theorem pickF_map {α β : Type} (f : α → β) (p : Nat → Bool) (l : List α) : pickF p (l.map f) = (pickF p l).map f := by
  unfold pickF
  rw [List.length_map, List.map_filterMap]
  congr 1
  funext i
  rw [List.getElem?_map]
end Go.Proofs.Ytlgopjfnknjgjaa
