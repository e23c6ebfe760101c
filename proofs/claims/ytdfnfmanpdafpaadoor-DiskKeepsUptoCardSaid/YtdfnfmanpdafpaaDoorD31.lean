/- Disk: what the walk of DiskKeeps keeps, told by number. -/
import Derived.Test.YtdfnfmanpdafpaaDoorD30
namespace Go.Proofs.YtdfnfmanpdafpaaDoor
open Go.RowKit

theorem toldAll {S : DS} (ok : OkD S) (ho : S.off = false) (ps : List Nat) (ts : List UInt8) (ok1 : OkD (crashS ps ts S)) :
    ∃ (b0 : Nat → List UInt8) (m0 : Nat → Nat) (b1 : Nat → List UInt8), ∀ (i : Nat) (n : List UInt8), (namesS S)[i]? = some n → Told S (crashS ps ts S) n (b0 i) (m0 i) (b1 i) := by
  have h : ∀ i : Nat, ∃ x : List UInt8 × Nat × List UInt8, ∀ n, (namesS S)[i]? = some n → Told S (crashS ps ts S) n x.1 x.2.1 x.2.2 := by
    intro i
    cases hi : (namesS S)[i]? with
    | none => exact ⟨([], 0, []), fun n h => by cases h⟩
    | some n =>
      obtain ⟨b0, m0, b1, h⟩ := told ok ho ps ts ok1 hi
      exact ⟨(b0, m0, b1), fun n' e => by cases e; exact h⟩
  obtain ⟨X, hX⟩ := Classical.axiomOfChoice h
  exact ⟨fun i => (X i).1, fun i => (X i).2.1, fun i => (X i).2.2, hX⟩
/-- The rows told stand in order. -/
def Was (f : Nat → List UInt8) (n : Nat) (ws : List Value) (ds : List (Value × List UInt8)) : Prop := ws.length = n ∧ ∀ i, i < n → ∃ v, ws[i]? = some v ∧ (v, f i) ∈ ds
theorem Was.nil (f : Nat → List UInt8) : Was f 0 [] [] := ⟨rfl, fun i h => by omega⟩
theorem Was.push {f : Nat → List UInt8} {n : Nat} {ws : List Value} {ds : List (Value × List UInt8)} (h : Was f n ws ds) (v : Value) : Was f (n + 1) (ws ++ [v]) ((v, f n) :: ds) := by
  refine ⟨by rw [List.length_append, h.1]; rfl, fun i hi => ?_⟩
  by_cases e : i = n
  · subst e
    exact ⟨v, by rw [List.getElem?_append_right (by have := h.1; omega), h.1, Nat.sub_self]; rfl, List.mem_cons_self ..⟩
  · obtain ⟨u, h1, h2⟩ := h.2 i (by omega)
    exact ⟨u, by rw [List.getElem?_append_left (by rw [h.1]; omega)]; exact h1, List.mem_cons_of_mem _ h2⟩
/-- As many as k are what they became. -/
def upK (f g : Nat → List UInt8) (k i : Nat) : List UInt8 := if i < k then g i else f i
theorem Was.start {f g : Nat → List UInt8} {n : Nat} {ws : List Value} {ds : List (Value × List UInt8)} (h : Was f n ws ds) : Was (upK f g 0) n ws ds :=
  ⟨h.1, fun i hi => by rw [show upK f g 0 i = f i from if_neg (Nat.not_lt_zero i)]; exact h.2 i hi⟩
theorem Was.done {f g : Nat → List UInt8} {n : Nat} {ws : List Value} {ds : List (Value × List UInt8)} (h : Was (upK f g n) n ws ds) : Was g n ws ds :=
  ⟨h.1, fun i hi => by have := h.2 i hi; rwa [show upK f g n i = g i from if_pos hi] at this⟩
theorem Was.set {f g : Nat → List UInt8} {n k : Nat} {ws : List Value} {ds : List (Value × List UInt8)} (h : Was (upK f g k) n ws ds) (hk : k < n) (v : Value) : Was (upK f g (k + 1)) n (ws.set k v) ((v, g k) :: ds) := by
  refine ⟨by rw [List.length_set]; exact h.1, fun i hi => ?_⟩
  by_cases e : k = i
  · subst e
    exact ⟨v, by rw [List.getElem?_set_self (by rw [h.1]; exact hk)], by rw [show upK f g (k + 1) k = g k from if_pos (Nat.lt_succ_self k)]; exact List.mem_cons_self ..⟩
  · obtain ⟨u, h1, h2⟩ := h.2 i hi
    refine ⟨u, by rw [List.getElem?_set_ne e]; exact h1, ?_⟩
    have : upK f g (k + 1) i = upK f g k i := by
      unfold upK
      by_cases hik : i < k
      · rw [if_pos hik, if_pos (by omega)]
      · rw [if_neg hik, if_neg (by omega)]
    rw [this]
    exact List.mem_cons_of_mem _ h2
theorem Was.more {f : Nat → List UInt8} {n : Nat} {ws : List Value} {ds : List (Value × List UInt8)} (h : Was f n ws ds) (d : Value × List UInt8) : Was f n ws (d :: ds) :=
  ⟨h.1, fun i hi => by obtain ⟨u, h1, h2⟩ := h.2 i hi; exact ⟨u, h1, List.mem_cons_of_mem _ h2⟩⟩
section
variable {w wr : World} {b : Nat} {S : DS} {nv wv lv : Value} {ns : List (List UInt8)} {ws : List Value} {ls : List Nat} {ds : List (Value × List UInt8)}
theorem AtK.shape (h : AtK w b S nv wv lv ns ws ls ds wr) {v : Value} {l : List UInt8} (hd : (v, l) ∈ ds) : ∃ a c, v = .slice a l.length c ∧ l.length ≤ c ∧ c ≤ maxLen := (h.bytes hd).shape
theorem AtK.readS (h : AtK w b S nv wv lv ns ws ls ds wr) (n l : List UInt8) (hc : firstE (syncL S n) = 0) (hl : Go.Proofs.YtdfnfmanpdafpaaDoor.readS S n = l) :
    Calls Tryd.prog 10 #[.pointer (some ⟨b, 0, none⟩), .string (strOf n)] wr fun e w' => ∃ a c, e = .returned (.tuple #[.slice a l.length c, .int .i64 0]) ∧ l.length ≤ c ∧ c ≤ maxLen ∧ AtK w b S nv wv lv ns ws ls ((.slice a l.length c, l) :: ds) w' := by
  refine (h.read n l hc hl).mono ?_
  rintro e w' ⟨v, rfl, hk⟩
  obtain ⟨a, c, rfl, h1, h2⟩ := hk.shape (List.mem_cons_self ..)
  exact ⟨a, c, rfl, h1, h2, hk⟩
theorem AtK.loosedK (h : AtK w b S nv wv lv ns ws ls ds wr) (n : List UInt8) (m : Nat) (hm : looseS S n = m) :
    Calls Tryd.prog 11 #[.pointer (some ⟨b, 0, none⟩), .string (strOf n)] wr fun e w' => e = .returned (.int .i64 (m : Nat)) ∧ AtK w b S nv wv lv ns ws ls ds w' := by
  refine (h.loosed n m hm).mono ?_
  rintro e w' ⟨rfl, hx⟩
  exact ⟨rfl, h.ext hx⟩
theorem AtK.wasBlock {B n c : Nat} (h : AtK w b S nv (.slice (some ⟨B, 0, none⟩) n c) lv ns ws ls ds wr) {i : Nat} {v : Value} (hv : ws[i]? = some v) : wr.cell? ⟨B, i, none⟩ = some v ∧ wr.frozen? ⟨B, i, none⟩ = false := by
  obtain ⟨hl, ⟨e0, _⟩ | ⟨g, cap, cur, e0, hb, hg, hn, hm, hs, ht⟩⟩ := h.wasOwn
  · cases e0
  · cases e0
    rw [← ht, List.getElem?_take] at hv
    split at hv
    · rw [Array.getElem?_toList] at hv
      exact ⟨cell_of_row _ _ i _ _ _ hg |>.trans hv, frozen_of_row _ _ i _ _ hg⟩
    · cases hv
end
theorem beqT {w : World} {v u : Value} {l m : List UInt8} (hl : Bytes w v l) (hm : Bytes w u m) (e : l = m) : Calls Tryd.prog 14 #[v, u] w fun e w' => e = .returned (.bool true) ∧ Ext w w' := by
  refine (beq_dk w v u l m hl hm).mono ?_
  rintro e' w' ⟨rfl, rfl⟩
  exact ⟨by rw [e, beq_self_eq_true], Ext.refl _⟩
theorem cutB {w : World} {v : Value} {l : List UInt8} {j : Nat} (hj : j ≤ l.length) (h : Row w 1 v (j - 0) (((bV l).take (j * 1)).drop (0 * 1))) : Bytes w v (l.take j) := by
  unfold Bytes
  rw [Nat.zero_mul, List.drop_zero, Nat.mul_one, Nat.sub_zero] at h
  have e : (bV l).take j = bV (l.take j) := by unfold bV; rw [List.map_take]
  rw [e] at h
  have e2 : (l.take j).length = j := by rw [List.length_take]; omega
  rw [e2]
  exact h
end Go.Proofs.YtdfnfmanpdafpaaDoor
