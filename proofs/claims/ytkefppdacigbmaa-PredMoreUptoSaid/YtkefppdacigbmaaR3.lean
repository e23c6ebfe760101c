/- How long a predicate is, by its bulk. -/
import Derived.Test.YtkefppdacigbmaaR1
import Derived.Test.YtkefppdacigbmaaBulk
namespace Go.Proofs.Ytkefppdacigbmaa
open Go.RowKit Go.ChangeShapes Go.WideShapes Go.Deep

set_option maxRecDepth 100000 in
theorem arg_pred_len {H : Type} {enc : TypeId × Value → H} {W : World} {base b0 : Nat} {held : Bool} {v : Value} {d : DataW H} {pl : List MemPlace} {p : List C} (hv : Value.okWide Try.prog W .any b0 23 v) (h : DataW.Trod enc Try.prog W base (fun _ => true) held 23 v d pl) (hp : PredR W v p) : p.length ≤ Rows.uptoBulk d := by
  obtain ⟨a, len, cap, rfl⟩ := okWide_slice Try.underlying23 hv
  obtain ⟨a2, c2, e, _, _⟩ := hp.shape
  simp only [Value.slice.injEq] at e
  obtain ⟨-, rfl, -⟩ := e
  obtain ⟨fuel, hf⟩ := h
  rcases open_slice Try.underlying23 hf with ⟨e, _⟩ | ⟨a3, len3, cap3, m, n, D, Pl, e, _, hl, hm, hmm, hx, hi⟩
  · simp only [Value.cells, List.cons.injEq, Value.slice.injEq, and_true] at e
    omega
  · simp only [Value.cells, List.cons.injEq, Value.slice.injEq, and_true] at e
    obtain ⟨-, rfl, -⟩ := e
    have hd := congrArg Prod.fst hx
    simp only at hd
    rw [hd]
    have := bulks.slice_le ((List.range p.length).map D) ((List.range (m - p.length)).map fun j => D (p.length + j))
    simp only [List.length_map, List.length_range] at this
    omega
end Go.Proofs.Ytkefppdacigbmaa
