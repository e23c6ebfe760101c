/- The calls of a script, opened. -/
import Derived.Test.YtlgopjfnknjgjaaN14
import Derived.Test.YtlgopjfnknjgjaaR2
namespace Go.Proofs.Ytlgopjfnknjgjaa
open Go.RowKit Go.ChangeShapes Go.WideShapes Go.Deep

theorem u8_back {n : Int} (h : (Lit.int .u8 n).wf = true) : (((UInt8.ofNat n.toNat).toNat : Nat) : Int) = n := by
  have := bounds_u8 h
  rw [UInt8.toNat_ofNat']; omega
theorem bytes_of_ints {W : World} {x : Addr} {len cap : Nat} {zs : List Int} (hl : len ≤ cap) (hm : cap ≤ maxLen) (hz : zs.length = cap)
    (hcell : ∀ i, i < zs.length → W.cell? (x.add i) = some (.int .u8 (zs.getD i 0))) (hwz : ∀ n ∈ zs, (Lit.int .u8 n).wf = true) :
    Bytes W (.slice (some x) len cap) ((zs.take len).map fun n => UInt8.ofNat n.toNat) := by
  have hlen : ((zs.take len).map fun n => UInt8.ofNat n.toNat).length = len := by simp; omega
  have hspot : 0 < cap → x.spot = none := fun h => by
    have := hcell 0 (by omega)
    simpa [Addr.add] using World.cell?_spot this
  unfold Bytes
  rw [hlen]
  refine ⟨by simp; omega, some x, cap, rfl, hl, hm, by simp, fun p hp h0 => by simp at hp; subst hp; exact hspot h0, fun j u hj => ⟨x, rfl, ?_⟩⟩
  rw [List.map_map, List.getElem?_map, List.getElem?_take] at hj
  split at hj
  · rename_i hjl
    have hjz : j < zs.length := by omega
    rw [List.getElem?_eq_getElem hjz] at hj
    simp only [Option.map_some, Option.some.injEq, Function.comp] at hj
    have hps := hspot (by omega)
    have hadd : x.add j = ⟨x.block, x.off + j, none⟩ := by
      obtain ⟨xb, xo, xs⟩ := x
      simp only at hps; subst hps
      unfold Addr.add; split <;> simp_all
    rw [← hadd, hcell j hjz, ← hj, u8_back (hwz _ (List.getElem_mem hjz))]
    simp [List.getD, List.getElem?_eq_getElem hjz]
  · cases hj

section
variable {H : Type} {enc : TypeId × Value → H} {W : World} {base : Nat} {held : Bool}
set_option maxRecDepth 100000 in
theorem open_bytes52 {fuel : Nat} {h : Value} {x : DataW H × List MemPlace} (ht : DataW.trod enc Try.prog W base (fun _ => true) held fuel 52 [h] = some x) : ∃ l, Bytes W h l := by
  rcases open_ints Try.underlying52 Try.underlying5 (by kernel_rfl) ht with ⟨hcs, _⟩ | ⟨a, l, c, zs, hcs, _, hl, hm, hz, hx, hcell, hwz⟩
  · simp only [List.cons.injEq, and_true] at hcs
    subst hcs
    exact ⟨[], Bytes.nil _⟩
  · simp only [List.cons.injEq, and_true] at hcs
    subst hcs
    simp only [if_true] at hz
    exact ⟨_, bytes_of_ints hl hm hz hcell hwz⟩
set_option maxRecDepth 100000 in
theorem open_op {fuel : Nat} {cs : List Value} {x : DataW H × List MemPlace} (h : DataW.trod enc Try.prog W base (fun _ => true) held fuel 54 cs = some x) : ∃ v : OPn, cs = oC v ∧ v.id < 18446744073709551616 ∧ Bytes W v.h v.b := by
  obtain ⟨xs, n, _, _, hl, hx, hf⟩ := DataW.trod_struct Try.underlying54 h
  have hC : Try.prog.cellsOf 54 = 5 := by kernel_rfl
  rw [hC] at hl
  match cs, hl with
  | [c0, c1, c2, c3, c4], _ =>
    match xs, hx with
    | [y0, y1, y2, y3, y4], _ =>
      have q3 : Try.prog.cellsOf 3 = 1 := by kernel_rfl
      have q28 : Try.prog.cellsOf 28 = 1 := by kernel_rfl
      have q52 : Try.prog.cellsOf 52 = 1 := by kernel_rfl
      have h0 := hf 0 _ rfl
      have h1 := hf 1 _ rfl
      have h2 := hf 2 _ rfl
      have h3 := hf 3 _ rfl
      have h4 := hf 4 _ rfl
      simp only [q3, q28, q52, List.getElem_toArray, List.getElem_cons_zero, List.getElem_cons_succ, List.getElem?_cons_zero, List.getElem?_cons_succ, List.drop_zero, List.drop_succ_cons, List.take_succ_cons, List.take_zero] at h0 h1 h2 h3 h4
      obtain ⟨k0, e0, _, w0⟩ := DataW.trod_int Try.underlying3 h0
      obtain ⟨k1, e1, _, w1⟩ := DataW.trod_int Try.underlying3 h1
      obtain ⟨k2, e2, _, w2⟩ := DataW.trod_int Try.underlying3 h2
      obtain ⟨k3, e3, _, w3⟩ := DataW.trod_int Try.underlying28 h3
      obtain ⟨b, hb⟩ := open_bytes52 h4
      simp only [List.cons.injEq, and_true] at e0 e1 e2 e3
      subst e0; subst e1; subst e2; subst e3
      obtain ⟨n3, rfl, hn⟩ := u64_nat w3
      exact ⟨⟨k0, k1, k2, n3, b, c4⟩, rfl, hn, hb⟩
set_option maxRecDepth 100000 in
theorem open_ops {fuel : Nat} {h : Value} {x : DataW H × List MemPlace} (ht : DataW.trod enc Try.prog W base (fun _ => true) held fuel 47 [h] = some x) : ∃ us : List OPn, OpR W h us ∧ ∀ y ∈ us, okO y := by
  rcases open_slice Try.underlying47 ht with ⟨e, _⟩ | ⟨a, len, cap, m, n, D, Pl, e, _, hl, hm, hmm, _, hi⟩
  · simp only [List.cons.injEq, and_true] at e
    subst e
    exact ⟨[], ⟨Row.nil W 5, fun _ h => by cases h⟩, fun _ h => by cases h⟩
  · simp only [List.cons.injEq, and_true] at e
    subst e
    simp only [if_true] at hmm
    subst hmm
    have hC : Try.prog.cellsOf 54 = 5 := by kernel_rfl
    rw [hC] at hi
    obtain ⟨l, hln, hp⟩ := list_of (p := fun i (v : OPn) => W.cells? base (a.add (i * 5)) 5 = some (oC v) ∧ v.id < 18446744073709551616 ∧ Bytes W v.h v.b) m fun i hi' => by
      obtain ⟨cs, h1, h2⟩ := hi i hi'
      obtain ⟨v, rfl, hv⟩ := open_op h2
      exact ⟨v, h1, hv⟩
    have hr := row_of_cells oC 5 oC_len (by decide) hl hm l hln fun i hi => (hp i hi).1
    have e : (l.take len).length = len := by rw [List.length_take]; omega
    have hall : ∀ y ∈ l.take len, y.id < 18446744073709551616 ∧ Bytes W y.h y.b := fun y hy => by
      obtain ⟨i, hi, rfl⟩ := List.getElem_of_mem (List.mem_of_mem_take hy)
      exact (hp i hi).2
    exact ⟨l.take len, ⟨by rw [e]; exact hr, fun y hy => (hall y hy).2⟩, fun y hy => ⟨(hall y hy).1, by obtain ⟨a, c, h, _⟩ := Bytes.shape (hall y hy).2; exact ⟨a, c, h⟩⟩⟩
set_option maxRecDepth 100000 in
theorem arg_ops {b0 : Nat} {v : Value} {d : DataW H} {p : List MemPlace} (hv : Value.okWide Try.prog W .any b0 47 v) (h : DataW.Trod enc Try.prog W base (fun _ => true) held 47 v d p) : ∃ us : List OPn, OpR W v us ∧ ∀ y ∈ us, okO y := by
  obtain ⟨a, len, cap, rfl⟩ := okWide_slice Try.underlying47 hv
  obtain ⟨fuel, hf⟩ := h
  exact open_ops hf
end
end Go.Proofs.Ytlgopjfnknjgjaa
