import Derived.Test.YtaklnpjpndkccaaGreatPk13
namespace Go.Proofs.YtaklnpjpndkccaaGreat
open Go.RowKit Go.ChangeShapes Go.WideShapes Go.Deep
section
variable {H : Type} {enc : TypeId × Value → H} {W : World} {base : Nat} {held : Bool}
theorem bytesOfCons : Tryz.prog.bytesOf 94 = 88 := by kernel_rfl
set_option maxRecDepth 100000 in
theorem open_predLen {fuel : Nat} {h : Value} {x : DataW H × List MemPlace} (ht : DataW.trod enc Tryz.prog W base (fun _ => true) held fuel 23 [h] = some x) (p : List C) (hp : PredR W h p) : p.length = 0 ∨ ∃ n ∈ x.1.weights Tryz.prog 23, p.length * 88 ≤ n := by
 obtain ⟨a0, c0, hsh, _, _⟩ := hp.shape
 rcases open_slice Tryz.underlying23 ht with ⟨e, _⟩ | ⟨a, len, cap, m, n, D, Pl, e, _, hl, hm, hmm, ex, hi⟩
 · simp only [List.cons.injEq, and_true] at e
   rw [hsh] at e
   simp only [Value.slice.injEq] at e
   exact .inl e.2.1
 · simp only [List.cons.injEq, and_true] at e
   rw [hsh] at e
   simp only [Value.slice.injEq] at e
   simp only [if_true] at hmm
   subst hmm
   refine .inr ⟨_, by rw [ex]; simp only [DataW.weights, Tryz.underlying23]; exact List.mem_cons_self .., ?_⟩
   rw [bytesOfCons, e.2.1]
   simp only [List.length_map, List.length_range]
   omega
set_option maxRecDepth 100000 in
theorem arg_predL {ts : List TypeId} {ds : List (DataW H)} (hz : (DataW.weightsEach Tryz.prog ts ds).all (· ≤ reachBytes) = true) {j : Nat} {b0 : Nat} {v : Value} {d : DataW H} {p : List MemPlace} (ht : ts[j]? = some 23) (hd : ds[j]? = some d)
 (hv : Value.okWide Tryz.prog W .any b0 23 v) (h : DataW.Trod enc Tryz.prog W base (fun _ => true) held 23 v d p) : ∃ l : List C, PredR W v l ∧ (∀ c ∈ l, c.set.length * 40 ≤ 140737488355328) ∧ l.length * 88 ≤ 140737488355328 := by
 obtain ⟨a, len, cap, rfl⟩ := okWide_slice Tryz.underlying23 hv
 obtain ⟨fuel, hf⟩ := h
 obtain ⟨us, h1, h2, _⟩ := open_predS hf
 have hle : ∀ n, n ∈ d.weights Tryz.prog 23 → n ≤ 140737488355328 := fun n hn => by
  have h3 := List.all_eq_true.1 hz _ (DataW.weights_mem_each ht hd n hn)
  have h4 : n ≤ reachBytes := by simpa using h3
  exact Nat.le_trans h4 (by decide)
 refine ⟨us, h1, fun y hy => ?_, ?_⟩
 · rcases h2 y hy with h0 | ⟨n, hn, h⟩
   · rw [h0]; exact Nat.zero_le _
   · exact Nat.le_trans h (hle n hn)
 · rcases open_predLen hf us h1 with h0 | ⟨n, hn, h⟩
   · rw [h0]; exact Nat.zero_le _
   · exact Nat.le_trans h (hle n hn)
end
end Go.Proofs.YtaklnpjpndkccaaGreat
