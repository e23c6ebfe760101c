/- Compacting, plainly: the numbers that go, sorted; what stays. No program is in sight. -/
import Derived.Test.YtlgopjfnknjgjaaZ1
namespace Go.Proofs.Ytlgopjfnknjgjaa

/-- The places of which a test holds, of a row. -/
def pickF {α : Type} (p : Nat → Bool) (l : List α) : List α := ((List.range l.length).filter p).filterMap fun i => l[i]?
theorem pickF_take {α : Type} (p : Nat → Bool) (l : List α) {k : Nat} (hk : k < l.length) : ((List.range (k + 1)).filter p).filterMap (fun i => l[i]?) = ((List.range k).filter p).filterMap (fun i => l[i]?) ++ if p k then [l[k]] else [] := by
  rw [List.range_succ, List.filter_append, List.filterMap_append]
  congr 1
  cases h : p k <;> simp [h, hk]
/-- A number into its place: ahead of the first that is greater. -/
def insN (x : Nat) : List Nat → List Nat
  | [] => [x]
  | y :: r => if y ≤ x then y :: insN x r else x :: y :: r
theorem insN_perm (x : Nat) : ∀ l : List Nat, (insN x l).Perm (x :: l)
  | [] => List.Perm.refl _
  | y :: r => by
    unfold insN
    split
    · exact ((insN_perm x r).cons y).trans (List.Perm.swap x y r)
    · exact List.Perm.refl _
theorem insN_sorted (x : Nat) : ∀ l : List Nat, l.Pairwise (· ≤ ·) → (insN x l).Pairwise (· ≤ ·)
  | [], _ => List.pairwise_singleton _ _
  | y :: r, h => by
    rw [List.pairwise_cons] at h
    unfold insN
    split
    · rename_i hy
      rw [List.pairwise_cons]
      refine ⟨fun z hz => ?_, insN_sorted x r h.2⟩
      rcases List.mem_cons.1 ((insN_perm x r).mem_iff.1 hz) with e | hz
      · omega
      · exact h.1 z hz
    · rename_i hy
      rw [List.pairwise_cons, List.pairwise_cons]
      refine ⟨fun z hz => ?_, h⟩
      rcases List.mem_cons.1 hz with e | hz
      · omega
      · have := h.1 z hz; omega
def sortN (l : List Nat) : List Nat := l.foldl (fun o x => insN x o) []
theorem sortN_snoc (l : List Nat) (x : Nat) : sortN (l ++ [x]) = insN x (sortN l) := by unfold sortN; rw [List.foldl_append]; rfl
theorem sortN_law (l : List Nat) : (sortN l).Perm l ∧ (sortN l).Pairwise (· ≤ ·) := by
  induction l using rev_ind with
  | h0 => exact ⟨List.Perm.refl _, List.Pairwise.nil⟩
  | h l x ih =>
    rw [sortN_snoc]
    exact ⟨(insN_perm x _).trans ((ih.1.cons x).trans (List.perm_append_comm (l₁ := [x]) (l₂ := l))), insN_sorted x _ ih.2⟩
/-- Two rising rows of the same numbers are the same. -/
theorem sorted_same {l m : List Nat} (h : l.Perm m) (hl : l.Pairwise (· ≤ ·)) (hm : m.Pairwise (· ≤ ·)) : l = m :=
  List.Perm.eq_of_pairwise (le := (· ≤ ·)) (fun _ _ _ _ h1 h2 => Nat.le_antisymm h1 h2) hl hm h
theorem sorted_sortN {l m : List Nat} (h : l.Perm m) (hl : l.Pairwise (· ≤ ·)) : l = sortN m :=
  sorted_same (h.trans (sortN_law m).1.symm) hl (sortN_law m).2
/-- The document cuts the row at the place: those that are not greater ahead, the others behind. -/
theorem insN_cut (x : Nat) : ∀ l : List Nat, ∃ k, k ≤ l.length ∧ insN x l = l.take k ++ x :: l.drop k ∧ (∀ j (_ : j < k) (hj : j < l.length), l[j] ≤ x) ∧ (∀ h : k < l.length, x < l[k])
  | [] => ⟨0, Nat.le_refl _, rfl, fun j h => by omega, fun h => by simp at h⟩
  | y :: r => by
    unfold insN
    split
    · rename_i hy
      obtain ⟨k, h1, h2, h3, h4⟩ := insN_cut x r
      refine ⟨k + 1, by simp; omega, by rw [h2]; rfl, fun j h hj => ?_, fun h => by simpa using h4 (by simpa using h)⟩
      cases j with
      | zero => exact hy
      | succ j => simpa using h3 j (by omega) (by simpa using hj)
    · rename_i hy
      exact ⟨0, Nat.zero_le _, rfl, fun j h => by omega, fun _ => by simp only [List.getElem_cons_zero]; omega⟩
def doublesF (l : List NK) : List Nat := sortN ((pickF (goesF l) l).map (·.1))
end Go.Proofs.Ytlgopjfnknjgjaa
