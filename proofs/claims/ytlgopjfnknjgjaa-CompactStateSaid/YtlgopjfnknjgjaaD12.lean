/- An item's number is set. -/
import Derived.Test.YtlgopjfnknjgjaaD11
import Derived.Test.YtlgopjfnknjgjaaY2
namespace Go.Proofs.Ytlgopjfnknjgjaa
open Go.RowKit Go.MapKept

def withN (x : IT) (m : Nat) : IT := ⟨m, x.t, x.key, x.h⟩
theorem iC_set : ∀ (l : List IT) (i : Nat) (hi : i < l.length) (m : Nat), (l.flatMap iC).set (i * 4) (.int .u64 m) = (l.set i (withN l[i] m)).flatMap iC
  | x :: l, 0, _, m => by simp [iC, withN]
  | x :: l, i + 1, hi, m => by
    have h := iC_set l i (by simpa using hi) m
    have e : (i + 1) * 4 = i * 4 + 4 := by omega
    simp only [List.flatMap_cons, List.set_cons_succ, List.getElem_cons_succ]
    rw [← h, e]
    simp only [iC, List.cons_append, List.nil_append, List.set_cons_succ]
theorem own_setN {base g cap : Nat} {w : World} {l : List IT} (h : OwnI base w (.slice (some ⟨g, 0, none⟩) l.length cap) l) {i : Nat} (hi : i < l.length) (m : Nat) :
    OwnI base (w.setCell ⟨g, i * 4, none⟩ (.int .u64 m)) (.slice (some ⟨g, 0, none⟩) l.length cap) (l.set i (withN l[i] m)) ∧ w.grownBy (w.setCell ⟨g, i * 4, none⟩ (.int .u64 m)) (some g) := by
  have hl := flat_len iC 4 iC_len l
  obtain ⟨h1, h2⟩ := own_set1 h (j := i * 4) (by rw [hl]; omega) (.int .u64 m)
  rw [iC_set l i hi m] at h1
  refine ⟨?_, h2⟩
  unfold OwnI
  rw [List.length_set]
  exact h1
theorem OwnI.cellN {base g n cap : Nat} {w : World} {l : List IT} (h : OwnI base w (.slice (some ⟨g, 0, none⟩) n cap) l) {i : Nat} (hi : i < l.length) : w.cell? ⟨g, i * 4, none⟩ = some (.int .u64 l[i].n) := by
  have hr := Row.of_own h
  obtain ⟨a, c, e, _⟩ := Row.shape hr
  have g0 := flat_get iC 4 iC_len l i hi 0 (by decide)
  rw [Nat.add_zero] at g0
  have := Row.cellAt hr (u := .int .u64 l[i].n) (by rw [g0]; rfl) (by omega)
  simpa using this
theorem own_free {base size n cap g : Nat} {e : TypeId} {w : World} {xs : List Value} (h : w.ownsRow base e size (.slice (some ⟨g, 0, none⟩) n cap) n xs) (i : Nat) : w.frozen? ⟨g, i, none⟩ = false := by
  rcases h.2 with ⟨e, _⟩ | ⟨g', c, cur, e, hb, hg, _⟩
  · cases e
  · cases e
    exact frozen_of_row _ _ _ _ _ hg
theorem OwnI.shape {base : Nat} {w : World} {v : Value} {l : List IT} (h : OwnI base w v l) (hl : 0 < l.length) : ∃ g cap, v = .slice (some ⟨g, 0, none⟩) l.length cap ∧ base ≤ g := by
  rcases h.2 with ⟨rfl, e0⟩ | ⟨g, cap, cur, rfl, hb, _⟩
  · omega
  · exact ⟨g, cap, rfl, hb⟩
theorem OwnI.ext {base : Nat} {w w' : World} {v : Value} {l : List IT} (h : OwnI base w v l) (hx : Ext w w') : OwnI base w' v l := own_ext h hx
end Go.Proofs.Ytlgopjfnknjgjaa
