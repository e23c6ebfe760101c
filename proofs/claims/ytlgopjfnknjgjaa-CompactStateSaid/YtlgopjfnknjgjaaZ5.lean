/- Rows of items whose numbers differ: what goes and what stays, in whatever order they stand. Plain laws. -/
import Derived.Test.YtlgopjfnknjgjaaZ4
import Derived.Test.YtlgopjfnknjgjaaD9
import Derived.Test.YtlgopjfnknjgjaaD10
namespace Go.Proofs.Ytlgopjfnknjgjaa

def better (us : List IT) (x : IT) : Bool := !x.key.isEmpty && us.any fun y => decide (x.n < y.n) && decide (y.key = x.key)
theorem better_perm {us vs : List IT} (h : us.Perm vs) (x : IT) : better us x = better vs x := by
  unfold better
  congr 1
  rw [Bool.eq_iff_iff, List.any_eq_true, List.any_eq_true]
  exact ⟨fun ⟨y, hy, e⟩ => ⟨y, h.mem_iff.1 hy, e⟩, fun ⟨y, hy, e⟩ => ⟨y, h.mem_iff.2 hy, e⟩⟩
theorem goes_free {us : List IT} (hn : (us.map IT.n).Nodup) {i : Nat} (hi : i < us.length) : goesF (us.map nkOf) i = better us us[i] := by
  rw [Bool.eq_iff_iff, gI_iff]
  unfold better
  rw [Bool.and_eq_true, List.any_eq_true]
  constructor
  · rintro ⟨x, hx, hk, k, y, hy, hc, he⟩
    rw [List.getElem?_eq_getElem hi] at hx
    cases hx
    refine ⟨?_, y, List.mem_of_getElem? hy, ?_⟩
    · cases h : us[i].key with
      | nil => exact absurd h hk
      | cons _ _ => rfl
    · rw [Bool.and_eq_true]
      refine ⟨decide_eq_true ?_, decide_eq_true he⟩
      rcases hc with h | ⟨h1, h2⟩
      · exact h
      · obtain ⟨hkl, ey⟩ := List.getElem?_eq_some_iff.1 hy
        have := (List.getElem_inj (xs := us.map IT.n) (i := i) (j := k) (h₀ := by rw [List.length_map]; exact hi) (h₁ := by rw [List.length_map]; exact hkl) hn).1 (by rw [List.getElem_map, List.getElem_map, ey, h1])
        omega
  · rintro ⟨h1, y, hy, h2⟩
    rw [Bool.and_eq_true] at h2
    obtain ⟨k, hk, ek⟩ := List.getElem_of_mem hy
    exact ⟨us[i], List.getElem?_eq_getElem hi, (fun e => by rw [e] at h1; cases h1), k, y, by rw [List.getElem?_eq_getElem hk, ek], .inl (of_decide_eq_true h2.1), of_decide_eq_true h2.2⟩
theorem pick_pred {p : Nat → Bool} {f : IT → Bool} {us : List IT} (h : ∀ i (hi : i < us.length), p i = f us[i]) : pickF p us = us.filter f := by
  have e := pick_filter (fun _ => true) f us
  rw [pick_every (fun _ => rfl)] at e
  rw [← e]
  exact pick_congr fun i hi => by rw [h i hi, getElem!_pos us i hi]; rfl
theorem gone_free {us : List IT} (hn : (us.map IT.n).Nodup) : doublesF (us.map nkOf) = sortN ((us.filter (better us)).map IT.n) := by
  rw [← goneN_doubles]
  unfold goneN
  rw [pick_pred fun i hi => goes_free hn hi]
theorem stays_free {us : List IT} (hn : (us.map IT.n).Nodup) : staysI us = us.filter fun x => !better us x := pick_pred fun i hi => by rw [goes_free hn hi]
theorem sort_perm {l m : List Nat} (h : l.Perm m) : sortN l = sortN m := sorted_sortN ((sortN_law l).1.trans h) (sortN_law l).2
theorem doubles_perm {us vs : List IT} (h : us.Perm vs) (hn : (us.map IT.n).Nodup) : doublesF (vs.map nkOf) = doublesF (us.map nkOf) := by
  rw [gone_free hn, gone_free ((h.map IT.n).nodup_iff.1 hn)]
  refine (sort_perm (List.Perm.map _ ?_)).symm
  rw [List.filter_congr fun x _ => better_perm h x]
  exact h.filter _
theorem stays_perm {us vs : List IT} (h : us.Perm vs) (hn : (us.map IT.n).Nodup) : (staysI us).Perm (staysI vs) := by
  rw [stays_free hn, stays_free ((h.map IT.n).nodup_iff.1 hn), List.filter_congr fun x _ => congrArg (!·) (better_perm h x)]
  exact h.filter _
theorem keyedI_n (ks : List (List UInt8)) : (keyedI ks).map IT.n = (List.range ks.length).map (· + 1) := by
  induction ks using rev_ind with
  | h0 => rfl
  | h l x ih => rw [keyedI_snoc, List.map_append, ih, List.length_append, List.length_singleton, List.range_succ, List.map_append]; rfl
theorem keyedI_nodup (ks : List (List UInt8)) : ((keyedI ks).map IT.n).Nodup := by
  rw [keyedI_n]
  exact List.Pairwise.map (R := (· ≠ ·)) (S := (· ≠ ·)) (· + 1) (fun a b h => by omega) List.nodup_range
theorem keyedI_le (ks : List (List UInt8)) : ∀ x ∈ keyedI ks, x.n ≤ ks.length ∧ x.h = .slice none 0 0 := by
  induction ks using rev_ind with
  | h0 => intro x h; cases h
  | h l x ih =>
    intro y hy
    rw [keyedI_snoc, List.mem_append] at hy
    rw [List.length_append, List.length_singleton]
    rcases hy with hy | hy
    · have := ih y hy
      exact ⟨by omega, this.2⟩
    · rw [List.mem_singleton] at hy
      subst hy
      exact ⟨Nat.le_refl _, rfl⟩
end Go.Proofs.Ytlgopjfnknjgjaa
