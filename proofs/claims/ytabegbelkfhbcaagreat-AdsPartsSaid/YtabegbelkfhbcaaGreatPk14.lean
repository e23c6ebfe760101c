/- The calls and the ads of a law's argument (23), opened. -/
import Derived.Test.YtabegbelkfhbcaaGreatPk13
import Derived.Test.YtabegbelkfhbcaaGreatPk7
namespace Go.Proofs.YtabegbelkfhbcaaGreat
open Go.RowKit Go.ChangeShapes Go.WideShapes Go.Deep

section
variable {H : Type} {enc : TypeId × Value → H} {W : World} {base : Nat} {held : Bool}
theorem u64_natT {n : Int} (h : (Lit.int .u64 n).wf = true) : ∃ m : Nat, n = (m : Int) ∧ m < 18446744073709551616 := by
  have := bounds_u64 h
  exact ⟨n.toNat, by omega, by omega⟩
set_option maxRecDepth 100000 in
theorem open_ad {fuel : Nat} {cs : List Value} {x : DataW H × List MemPlace} (h : DataW.trod enc Tryz.prog W base (fun _ => true) held fuel 27 cs = some x) : ∃ (pub : Int) (ver : Nat) (p : List C) (vp : Value), cs = [.int .i64 pub, .int .u64 (ver : Nat), vp] ∧ PredR W vp p ∧ ∀ c ∈ p, okC c := by
  obtain ⟨xs, n, _, _, hl, hx, hf⟩ := DataW.trod_struct Tryz.underlying27 h
  have hC : Tryz.prog.cellsOf 27 = 3 := by kernel_rfl
  rw [hC] at hl
  match cs, hl with
  | [c0, c1, c2], _ =>
    match xs, hx with
    | [y0, y1, y2], _ =>
      have q3 : Tryz.prog.cellsOf 3 = 1 := by kernel_rfl
      have q28 : Tryz.prog.cellsOf 23 = 1 := by kernel_rfl
      have q52 : Tryz.prog.cellsOf 25 = 1 := by kernel_rfl
      have h0 := hf 0 _ rfl
      have h1 := hf 1 _ rfl
      have h2 := hf 2 _ rfl
      simp only [q3, q28, q52, List.getElem_toArray, List.getElem_cons_zero, List.getElem_cons_succ, List.getElem?_cons_zero, List.getElem?_cons_succ, List.drop_zero, List.drop_succ_cons, List.take_succ_cons, List.take_zero] at h0 h1 h2
      obtain ⟨k0, e0, _, _⟩ := DataW.trod_int Tryz.underlying3 h0
      obtain ⟨k1, e1, _, w1⟩ := DataW.trod_int Tryz.underlying23 h1
      obtain ⟨p, hp, kp⟩ := open_pred h2
      simp only [List.cons.injEq, and_true] at e0 e1
      subst e0; subst e1
      obtain ⟨n1, rfl, _⟩ := u64_natT w1
      exact ⟨k0, n1, p, c2, rfl, hp, kp⟩
set_option maxRecDepth 100000 in
theorem open_oa {fuel : Nat} {cs : List Value} {x : DataW H × List MemPlace} (h : DataW.trod enc Tryz.prog W base (fun _ => true) held fuel 65 cs = some x) : ∃ y : OA, cs = oaC y ∧ PredR W y.h y.p ∧ ∀ c ∈ y.p, okC c := by
  obtain ⟨xs, n, _, _, hl, hx, hf⟩ := DataW.trod_struct Tryz.underlying65 h
  have hC : Tryz.prog.cellsOf 65 = 5 := by kernel_rfl
  rw [hC] at hl
  match cs, hl with
  | [c0, c1, c2, c3, c4], _ =>
    match xs, hx with
    | [y0, y1, y2], _ =>
      have q3 : Tryz.prog.cellsOf 3 = 1 := by kernel_rfl
      have q52 : Tryz.prog.cellsOf 27 = 3 := by kernel_rfl
      have h0 := hf 0 _ rfl
      have h1 := hf 1 _ rfl
      have h2 := hf 2 _ rfl
      simp only [q3, q52, List.getElem_toArray, List.getElem_cons_zero, List.getElem_cons_succ, List.getElem?_cons_zero, List.getElem?_cons_succ, List.drop_zero, List.drop_succ_cons, List.take_succ_cons, List.take_zero] at h0 h1 h2
      obtain ⟨k0, e0, _, _⟩ := DataW.trod_int Tryz.underlying3 h0
      obtain ⟨k1, e1, _, _⟩ := DataW.trod_int Tryz.underlying3 h1
      obtain ⟨pub, ver, p, vp, e2, hp, kp⟩ := open_ad h2
      simp only [List.cons.injEq, and_true] at e0 e1 e2
      obtain ⟨rfl, rfl, rfl⟩ := e2
      subst e0; subst e1
      exact ⟨⟨k0, k1, pub, ver, p, c4⟩, rfl, hp, kp⟩
set_option maxRecDepth 100000 in
theorem open_oas {fuel : Nat} {h : Value} {x : DataW H × List MemPlace} (ht : DataW.trod enc Tryz.prog W base (fun _ => true) held fuel 22 [h] = some x) : ∃ us : List OA, OAR W h us := by
  rcases open_slice Tryz.underlying22 ht with ⟨e, _⟩ | ⟨a, len, cap, m, n, D, Pl, e, _, hl, hm, hmm, _, hi⟩
  · simp only [List.cons.injEq, and_true] at e
    subst e
    exact ⟨[], ⟨Row.nil W 5, (fun _ h => (by cases h)), (fun _ h => (by cases h))⟩⟩
  · simp only [List.cons.injEq, and_true] at e
    subst e
    simp only [if_true] at hmm
    subst hmm
    have hC : Tryz.prog.cellsOf 65 = 5 := by kernel_rfl
    rw [hC] at hi
    obtain ⟨l, hln, hp⟩ := list_of (p := fun i (v : OA) => W.cells? base (a.add (i * 5)) 5 = some (oaC v) ∧ PredR W v.h v.p ∧ ∀ c ∈ v.p, okC c) m fun i hi' => by
      obtain ⟨cs, h1, h2⟩ := hi i hi'
      obtain ⟨v, rfl, hv⟩ := open_oa h2
      exact ⟨v, h1, hv⟩
    have hr := row_of_cells oaC 5 oaC_len (by decide) hl hm l hln fun i hi => (hp i hi).1
    have e : (l.take len).length = len := by rw [List.length_take]; omega
    have hall : ∀ y ∈ l.take len, PredR W y.h y.p ∧ ∀ c ∈ y.p, okC c := fun y hy => by
      obtain ⟨i, hi, rfl⟩ := List.getElem_of_mem (List.mem_of_mem_take hy)
      exact (hp i hi).2
    exact ⟨l.take len, ⟨by rw [e]; exact hr, fun y hy => (hall y hy).1, fun y hy => (hall y hy).2⟩⟩
set_option maxRecDepth 100000 in
theorem arg_oas {b0 : Nat} {v : Value} {d : DataW H} {p : List MemPlace} (hv : Value.okWide Tryz.prog W .any b0 22 v) (h : DataW.Trod enc Tryz.prog W base (fun _ => true) held 22 v d p) : ∃ us : List OA, OAR W v us := by
  obtain ⟨a, len, cap, rfl⟩ := okWide_slice Tryz.underlying22 hv
  obtain ⟨fuel, hf⟩ := h
  exact open_oas hf
set_option maxRecDepth 100000 in
theorem arg_ad {b0 : Nat} {v : Value} {d : DataW H} {p : List MemPlace} (hv : Value.okWide Tryz.prog W .any b0 27 v) (h : DataW.Trod enc Tryz.prog W base (fun _ => true) held 27 v d p) : ∃ (pub : Int) (ver : Nat) (p : List C) (vp : Value), v = .agg #[.int .i64 pub, .int .u64 (ver : Nat), vp] ∧ PredR W vp p ∧ ∀ c ∈ p, okC c := by
  obtain ⟨cs, rfl, hsz⟩ := okWide_struct Tryz.underlying27 hv
  obtain ⟨fuel, hf⟩ := h
  obtain ⟨pub, ver, p, vp, e, h1, h2⟩ := open_ad hf
  refine ⟨pub, ver, p, vp, ?_, h1, h2⟩
  obtain ⟨l⟩ := cs
  simp only [Value.cells] at e
  subst e; rfl
end
end Go.Proofs.YtabegbelkfhbcaaGreat
