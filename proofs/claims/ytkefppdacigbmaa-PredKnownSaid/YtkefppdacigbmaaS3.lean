/- slices.SortFunc at values. -/
import Derived.Test.YtkefppdacigbmaaS2
import Derived.Test.YtkefppdacigbmaaO1
namespace Go.Proofs.Ytkefppdacigbmaa
open Go.RowKit Go.Sort

instance : Inhabited V := ⟨⟨0, 0, [], false⟩⟩
theorem wo_swo {α : Type} {cf : α → α → Int} (h : WO cf) : SWO (ltOf cf) := by
  have hr : ∀ x, cf x x = 0 := h.refl
  refine ⟨fun x => ?_, fun x y z h1 h2 => ?_, fun x y z h1 h2 => ?_⟩
  · unfold ltOf; rw [hr]; rfl
  · unfold ltOf at *
    have a1 := of_decide_eq_true h1
    have a2 := of_decide_eq_true h2
    refine decide_eq_true ?_
    have b1 := h.trans x y z (by omega) (by omega)
    rcases Int.lt_or_eq_of_le b1 with b | b
    · exact b
    · have c1 := h.anti x z
      have c2 := h.trans z x y (by omega) (by omega)
      have c3 := h.anti y z
      omega
  · unfold ltOf at *
    have a1 := of_decide_eq_false h1
    have a2 := of_decide_eq_false h2
    refine decide_eq_false ?_
    have e1 := h.anti x y
    have e2 := h.anti y z
    have e3 := h.anti x z
    have b1 := h.trans z y x (by omega) (by omega)
    omega

theorem ent23 : ∀ args w, (callFunc 23 args).run Try.prog w = .ok (.enter 23 args) w := enters_of Try.func23 (by kernel_rfl) rfl

theorem sortV_any (w : World) (base : Nat) (v : Value) (l : List V) (ho : w.ownsRow base 28 4 v l.length (l.flatMap vC)) (hl : l.length ≤ 1000000) :
    Calls Try.prog 59 #[v, .func (.func 23) #[] #[]] w fun e w' => e = .returned (.tuple #[]) ∧ ∃ l' : List V, l'.Perm l ∧ (l'.Pairwise fun a b => cmpV a b ≤ 0) ∧ w'.ownsRow base 28 4 v l.length (l'.flatMap vC) ∧ w.grownBy w' v.ownBlock := by
  have ho' := ho
  rcases ho.2 with ⟨rfl, h0⟩ | ⟨g, cap, cur, rfl, hb, hg, hn, hm, hs, ht⟩
  · have hz : l = [] := List.length_eq_zero_iff.1 h0
    subst hz
    refine (AnyF.slices_SortFunc_none { Try.sortV with } none 0 (.func (.func 23) #[] #[]) w).mono ?_
    rintro e w' ⟨rfl, rfl⟩
    exact ⟨rfl, [], List.Perm.refl _, List.Pairwise.nil, ho, ⟨rfl, rfl, rfl, Nat.le_refl _, fun _ _ _ => rfl⟩⟩
  · have hlt : g < w.heap.size := (Array.getElem?_eq_some_iff.1 hg).1
    have hH := own_holdsK vC (by decide) vC_len ho
    have hone : ∀ x, ∀ u ∈ vC x, u.oneCell' = true := fun x u hu => vC_one [x] u (by simpa using hu)
    have hc := AnyQ.slices_SortFunc Try.sortV 4 (fun w => Try.isAgg28 w) (fun w => Try.sizeOf28 w) vC vC_len hone cmpV (wo_swo wo_V) 23 #[] g 0 cap l.toArray w ent23
      (fun m os dk _ x y => (cmpV_any _ x y).mono fun _ _ ⟨he, hx⟩ => ⟨he, hx.grown⟩) hH hlt (by simp; omega)
    have e1 : l.toArray.size = l.length := by simp
    rw [e1] at hc
    refine hc.mono ?_
    rintro e w' ⟨rfl, d', n, os, hp, hs', rfl⟩
    obtain ⟨p1, p2⟩ := sorted_list (by rw [e1]; exact hp) (by rw [e1]; exact hs') (wo_V.anti)
    have hll : d'.toList.length = l.length := p1.length_eq
    have hfin := own_sorted (m := n) (os := os) vC (by decide) vC_len ho hll
    exact ⟨rfl, d'.toList, p1, p2, hfin.1, hfin.2⟩
end Go.Proofs.Ytkefppdacigbmaa
