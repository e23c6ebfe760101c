/- Opening an argument that is a slice of slices of bytes. -/
import Derived.Test.YtkaepcjkpaplfaaDoorR1
import Derived.Test.YtkaepcjkpaplfaaDoorW7
import Derived.Deep.Matrix
namespace Go.Proofs.YtkaepcjkpaplfaaDoor
open Go.RowKit Go.Deep

theorem lists_of_rows {W : World} {a : Addr} {len cap : Nat} {A : Nat → Option Addr} {L C : Nat → Nat} {Z : Nat → List Int} (hl : len ≤ cap) (hm : cap ≤ maxLen)
    (h : ∀ r, r < cap → W.cell? (a.add r) = some (.slice (A r) (L r) (C r)) ∧ L r ≤ C r ∧ C r ≤ maxLen ∧ (Z r).length = C r ∧ (∀ n ∈ Z r, (Lit.int .u8 n).wf = true) ∧ (A r = none → C r = 0) ∧
        ∀ a', A r = some a' → 0 ≤ a'.block ∧ ∀ c, c < C r → W.cell? (a'.add c) = some (.int .u8 ((Z r).getD c 0))) :
    Lists W (.slice (some a) len cap) ((List.range len).map fun r => ((Z r).take (L r)).map fun n => UInt8.ofNat n.toNat) := by
  have hspot : 0 < cap → a.spot = none := fun hc => by
    have := (h 0 hc).1
    simpa [Addr.add] using World.cell?_spot this
  refine ⟨(List.range len).map fun r => .slice (A r) (L r) (C r), ⟨by simp, some a, cap, by simp, by simpa using hl, hm, by simp, fun p hp h0 => by simp at hp; subst hp; exact hspot h0, fun j u hj => ⟨a, rfl, ?_⟩⟩, fun i u r hu hr => ?_⟩
  · have hjl : j < len := by
      rcases Nat.lt_or_ge j len with h1 | h1
      · exact h1
      · rw [List.getElem?_eq_none (by simpa using h1)] at hj; cases hj
    rw [List.getElem?_map, List.getElem?_range hjl] at hj
    simp only [Option.map_some, Option.some.injEq] at hj
    have hps := hspot (by omega)
    have hadd : a.add j = ⟨a.block, a.off + j, none⟩ := by
      obtain ⟨xb, xo, xs⟩ := a
      simp only at hps; subst hps
      unfold Addr.add; split <;> simp_all
    rw [← hadd, (h j (by omega)).1, hj]
  · have hil : i < len := by
      rcases Nat.lt_or_ge i len with h1 | h1
      · exact h1
      · rw [List.getElem?_eq_none (by simpa using h1)] at hu; cases hu
    rw [List.getElem?_map, List.getElem?_range hil] at hu hr
    simp only [Option.map_some, Option.some.injEq] at hu hr
    subst hu; subst hr
    obtain ⟨_, h1, h2, h3, h4, h5, h6⟩ := h i (by omega)
    cases hA : A i with
    | none =>
      have hc : C i = 0 := h5 hA
      have hL : L i = 0 := by omega
      rw [hc, hL, List.take_zero]
      exact Bytes.nil _
    | some a' =>
      exact bytes_of_ints h1 h2 h3 (fun c hc => (h6 a' hA).2 c (by omega)) h4

end Go.Proofs.YtkaepcjkpaplfaaDoor
