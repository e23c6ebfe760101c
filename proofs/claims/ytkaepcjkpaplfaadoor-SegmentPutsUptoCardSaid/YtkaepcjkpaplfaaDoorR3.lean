/- Opening an argument that is the law's struct of a segment. -/
import Derived.Test.YtkaepcjkpaplfaaDoorR2
import Derived.Test.YtkaepcjkpaplfaaDoorRows
import Derived.Test.YtkaepcjkpaplfaaDoorBulk
import Derived.Deep.Strs
namespace Go.Proofs.YtkaepcjkpaplfaaDoor
open Go.ChangeShapes Go.WideShapes Go.RowKit Go.Deep

theorem open_bytes {H : Type} {enc : TypeId × Value → H} {W : World} {fuel : Nat} {cs : List Value} {x : DataW H × List MemPlace} (h : DataW.trod enc Tryd.prog W 0 (fun _ => true) true fuel 34 cs = some x) :
    ∃ v l, cs = [v] ∧ Bytes W v l ∧ l.length ≤ Rows.uptoBulk x.1 := by
  rcases open_ints Tryd.underlying34 Tryd.underlying5 (by kernel_rfl) h with ⟨rfl, rfl⟩ | ⟨a, l, c, zs, rfl, _, hl, hm, hz, rfl, hcell, hwz⟩
  · exact ⟨_, [], rfl, Bytes.nil _, by simp⟩
  · have hs := bulks.slice_le (H := H) (lits .u8 (zs.take l)) (lits .u8 (zs.drop l))
    simp only [if_true] at hz
    simp only [lits, List.length_map, List.length_take, List.length_drop] at hs
    refine ⟨_, _, rfl, bytes_of_ints hl hm hz hcell hwz, ?_⟩
    simp only [List.length_map, List.length_take, lits]
    omega

theorem open_lists {H : Type} {enc : TypeId × Value → H} {W : World} {fuel : Nat} {cs : List Value} {x : DataW H × List MemPlace} (h : DataW.trod enc Tryd.prog W 0 (fun _ => true) true fuel 55 cs = some x) :
    ∃ v l, cs = [v] ∧ Lists W v l := by
  rcases Go.Deep.open_int_rows Tryd.underlying55 Tryd.underlying34 Tryd.underlying5 (by kernel_rfl) (by kernel_rfl) h with ⟨rfl, rfl⟩ | ⟨x, l, c, A, L, C, Z, rfl, _, hl, hm, _, hrows⟩
  · exact ⟨_, [], rfl, [], Row.nil _ _, by simp⟩
  · exact ⟨_, _, rfl, lists_of_rows hl hm hrows⟩

set_option maxRecDepth 100000 in
theorem open_segs {H : Type} {enc : TypeId × Value → H} {W : World} {base : Nat} {v : Value} {d : DataW H} {p : List MemPlace} (hv : Value.okWide Tryd.prog W .any base 57 v)
    (h : DataW.Trod enc Tryd.prog W 0 (fun _ => true) true 57 v d p) :
    ∃ (n0 : Nat) (v1 v2 v3 : Value) (n4 : Nat) (ss rest : List UInt8) (ds : List (List UInt8)), v = .agg #[.int .u64 n0, v1, v2, v3, .int .u64 n4] ∧ n0 < 18446744073709551616 ∧ n4 < 18446744073709551616 ∧
      Bytes W v1 ss ∧ Lists W v2 ds ∧ Bytes W v3 rest ∧ rest.length ≤ Rows.uptoBulk d := by
  obtain ⟨cs, rfl, hsz⟩ := okWide_struct Tryd.underlying57 hv
  obtain ⟨fuel, hf⟩ := h
  have hc57 : Tryd.prog.cellsOf 57 = 5 := by kernel_rfl
  have hc22 : Tryd.prog.cellsOf 22 = 1 := by kernel_rfl
  have hc34 : Tryd.prog.cellsOf 34 = 1 := by kernel_rfl
  have hc55 : Tryd.prog.cellsOf 55 = 1 := by kernel_rfl
  rw [hc57] at hsz
  obtain ⟨xs, n, _, hx, hl, hlen, hfs⟩ := Go.DataW.trod_struct Tryd.underlying57 hf
  obtain ⟨cs⟩ := cs
  simp only [List.size_toArray] at hsz
  match cs, hsz with
  | [c0, c1, c2, c3, c4], _ =>
    match xs, hlen with
    | [y0, y1, y2, y3, y4], _ =>
      have g0 := hfs 0 _ rfl
      have g1 := hfs 1 _ rfl
      have g2 := hfs 2 _ rfl
      have g3 := hfs 3 _ rfl
      have g4 := hfs 4 _ rfl
      simp [Value.cells, hc22, hc34, hc55] at g0 g1 g2 g3 g4
      obtain ⟨a0, e0, _, w0⟩ := Go.DataW.trod_int Tryd.underlying22 g0
      obtain ⟨v1, ss, e1, b1, _⟩ := open_bytes g1
      obtain ⟨v2, ds, e2, b2⟩ := open_lists g2
      obtain ⟨v3, rest, e3, b3, s3⟩ := open_bytes g3
      obtain ⟨a4, e4, _, w4⟩ := Go.DataW.trod_int Tryd.underlying22 g4
      obtain ⟨rfl, -⟩ := List.cons.inj e0
      obtain ⟨rfl, -⟩ := List.cons.inj e1
      obtain ⟨rfl, -⟩ := List.cons.inj e2
      obtain ⟨rfl, -⟩ := List.cons.inj e3
      obtain ⟨rfl, -⟩ := List.cons.inj e4
      obtain ⟨n0, rfl, h0⟩ := u64_nat w0
      obtain ⟨n4, rfl, h4⟩ := u64_nat w4
      refine ⟨n0, c1, c2, c3, n4, ss, rest, ds, rfl, h0, h4, b1, b2, b3, ?_⟩
      have hd : d = _ := congrArg Prod.fst hx
      rw [hd]
      simp only [Rows.uptoBulk, Rows.uptoBulkAll, List.map]
      omega

set_option maxRecDepth 100000 in
theorem open_rec {H : Type} {enc : TypeId × Value → H} {W : World} {base : Nat} {v : Value} {d : DataW H} {p : List MemPlace} (hv : Value.okWide Tryd.prog W .any base 36 v)
    (h : DataW.Trod enc Tryd.prog W 0 (fun _ => true) true 36 v d p) :
    ∃ (n0 : Nat) (v1 : Value) (l : List UInt8), v = .agg #[.int .u64 n0, v1] ∧ n0 < 18446744073709551616 ∧ Bytes W v1 l ∧ l.length ≤ Rows.uptoBulk d := by
  obtain ⟨cs, rfl, hsz⟩ := okWide_struct Tryd.underlying36 hv
  obtain ⟨fuel, hf⟩ := h
  have hc36 : Tryd.prog.cellsOf 36 = 2 := by kernel_rfl
  have hc22 : Tryd.prog.cellsOf 22 = 1 := by kernel_rfl
  have hc34 : Tryd.prog.cellsOf 34 = 1 := by kernel_rfl
  rw [hc36] at hsz
  obtain ⟨xs, n, _, hx, hl, hlen, hfs⟩ := Go.DataW.trod_struct Tryd.underlying36 hf
  obtain ⟨cs⟩ := cs
  simp only [List.size_toArray] at hsz
  match cs, hsz with
  | [c0, c1], _ =>
    match xs, hlen with
    | [y0, y1], _ =>
      have g0 := hfs 0 _ rfl
      have g1 := hfs 1 _ rfl
      simp [Value.cells, hc22, hc34] at g0 g1
      obtain ⟨a0, e0, _, w0⟩ := Go.DataW.trod_int Tryd.underlying22 g0
      obtain ⟨v1, ss, e1, b1, s1⟩ := open_bytes g1
      obtain ⟨rfl, -⟩ := List.cons.inj e0
      obtain ⟨rfl, -⟩ := List.cons.inj e1
      obtain ⟨n0, rfl, h0⟩ := u64_nat w0
      refine ⟨n0, c1, ss, rfl, h0, b1, ?_⟩
      have hd : d = _ := congrArg Prod.fst hx
      rw [hd]
      simp only [Rows.uptoBulk, Rows.uptoBulkAll, List.map]
      omega

set_option maxRecDepth 100000 in
theorem open_arg {H : Type} {enc : TypeId × Value → H} {W : World} {base : Nat} {v : Value} {d : DataW H} {p : List MemPlace} (h : DataW.Trod enc Tryd.prog W 0 (fun _ => true) true 34 v d p) (hv : Value.okWide Tryd.prog W .any base 34 v) :
    ∃ l : List UInt8, Bytes W v l ∧ l.length ≤ Rows.uptoBulk d := by
  obtain ⟨a, n, c, rfl⟩ := okWide_slice Tryd.underlying34 hv
  obtain ⟨fuel, hf⟩ := h
  obtain ⟨v1, l, e1, b1, s1⟩ := open_bytes hf
  obtain ⟨rfl, -⟩ := List.cons.inj (show [Value.slice a n c] = [v1] from e1)
  exact ⟨l, b1, s1⟩

end Go.Proofs.YtkaepcjkpaplfaaDoor
