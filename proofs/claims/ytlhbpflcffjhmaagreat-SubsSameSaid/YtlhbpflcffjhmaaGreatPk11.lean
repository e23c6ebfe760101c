/- Regions: the spans of a constraint that has a value: of. (Walks alike, printed by a program.)
Regions: Within.
Regions: And.
A box of the call's own that is to hold a region: memory turns there alone.
Regions: of any constraint: Of. (Printed by a program.)
Regions: of a constraint that names some: Of. (Printed by a program.) -/
import Derived.Test.YtlhbpflcffjhmaaGreatPk5
import Derived.Test.YtlhbpflcffjhmaaGreatPk10
import Derived.Test.YtlhbpflcffjhmaaGreatPk3
import Derived.Test.YtlhbpflcffjhmaaGreatPk4
import Derived.Test.YtlhbpflcffjhmaaGreatPk6
namespace Go.Proofs.YtlhbpflcffjhmaaGreat
open Go.RowKit Go.Sort

theorem own_sp (w : World) (base : Nat) (l : List Sp) (C : Array Value) (hC : C = (l.flatMap spC).toArray) (hb : base ≤ w.heap.size) (hm : l.length ≤ maxLen) : (w.alloc (.cells C 156)).ownsRow base 156 4 (.slice (some ⟨w.heap.size, 0, none⟩) l.length l.length) l.length (l.flatMap spC) := by
  subst hC
  exact World.ownsRow_lit w (l.flatMap spC).toArray l.length hb hm (by simp only [List.size_toArray]; exact flat_len spC 4 spC_len l)
def Fact.ownSp (b : Nat) (l : List Sp) : Fact := ⟨fun v w => w.ownsRow b 156 4 v l.length (l.flatMap spC), fun _ _ _ hx h => own_ext h hx⟩
theorem full_not (l : List Sp) : (l.filter fun x => !(!Cut.lt x.lo x.hi)) = fullS l := by
  unfold fullS; congr 1; funext x; exact Bool.not_not _
theorem delete_full (w W : World) (u : Value) (l : List Sp) (hx : Ext w W) (ho : W.ownsRow w.heap.size 156 4 u l.length (l.flatMap spC)) (hl : l.length ≤ 2) :
    Calls Tryz.prog 172 #[u, .func (.func 173) #[] #[]] W fun e w' => ∃ u', e = .returned u' ∧ SpR w' u' (fullS l) ∧ Ext w w' := by
  refine (deleteSp_any W w.heap.size u l ho (by omega) 173 #[] (fun x => !Cut.lt x.lo x.hi) ent133 fun W' x _ _ => full133_any W' x).mono ?_
  rintro e w' ⟨u', rfl, h1, h2⟩
  rw [full_not] at h1
  exact ⟨u', rfl, Row.of_own h1, hx.grown_none h2 (own_base ho)⟩

set_option maxRecDepth 100000 in
set_option maxHeartbeats 8000000 in
theorem of_2 (w : World) (nm : ByteArray) (v : V) (sa : Option Addr) (sn sc : Nat) (hn : okN v.n) (hs : v.s.length ≤ 140737488355328) :
    Calls Tryz.prog 122 #[.agg #[.string nm, .int .i64 2, .int .i64 v.k, .int .i64 v.n, .string (strOf v.s), .bool v.b, .slice sa sn sc]] w fun e w' => ∃ u, e = .returned u ∧ SpR w' u (ofL ⟨[], 2, v, []⟩) ∧ Ext w w' := by
  have hres : ofL ⟨[], 2, v, []⟩ = fullS [⟨(aroundV v).1, (aroundV v).2⟩] := rfl
  obtain ⟨hx0, hC⟩ := boxes1 w (.cells #[.string nm, .int .i64 2, .int .i64 v.k, .int .i64 v.n, .string (strOf v.s), .bool v.b, .slice sa sn sc] 64)
  have har := fun W => around_any W v hn hs
  have hfi := fun W => first_any W v.k
  have hfe := firstC_e v.k
  have hD := fun W u l => delete_full w W u l
  have HRES := Lib.hid hres
  have HAR := Lib.hid har
  have HFI := Lib.hid hfi
  have HFE := Lib.hid hfe
  have HD := Lib.hid hD
  clear hres har hfi hfe hD hn hs
  generalize aroundV v = cu at *
  generalize hvk : firstC v.k = fc at *
  clear hvk
  have HCE : Hid ((#[.string (strOf cu.1.a), .bool cu.1.e, .string (strOf cu.2.a), .bool cu.2.e] : Array Value) = (([⟨cu.1, cu.2⟩] : List Sp).flatMap spC).toArray) := by
    show _ = _
    simp only [List.flatMap_cons, List.flatMap_nil, spC]
    rfl
  have c1 := cell_of_row _ _ 1 _ _ _ hC
  have c2 := cell_of_row _ _ 2 _ _ _ hC
  have c3 := cell_of_row _ _ 3 _ _ _ hC
  have c4 := cell_of_row _ _ 4 _ _ _ hC
  have c5 := cell_of_row _ _ 5 _ _ _ hC
  clear hC
  go_enter Tryz.func122, Tryz.ntmps122
  go_wp2_with fail
  refine (HAR.out _).mono ?_
  rintro e y1 ⟨rfl, hy1⟩
  obtain ⟨hxb, hA, hB⟩ := boxes2 y1 (.cells #[.string (strOf cu.1.a), .bool cu.1.e] 152) (.cells #[.string (strOf cu.2.a), .bool cu.2.e] 152)
  have hxy := hy1.trans hxb
  have c1 := hxy.cell c1
  have c2 := hxy.cell c2
  have c4 := hxy.cell c4
  have hxw := hx0.trans hxy
  have HA := Lib.hid hA
  have HB := Lib.hid hB
  clear hA hB hxb hxy hy1 hx0 c3 c5
  go_wp2_with fail
  generalize (y1.alloc (.cells #[.string (strOf cu.1.a), .bool cu.1.e] 152)).alloc (.cells #[.string (strOf cu.2.a), .bool cu.2.e] 152) = y2 at *
  refine (HFI.out _).mono ?_
  rintro e y3 ⟨rfl, hy3⟩
  obtain ⟨hxd, hDb⟩ := boxes1 y3 (.cells #[.string (strOf fc.a), .bool false] 152)
  have hxy := hy3.trans hxd
  have c1 := hxy.cell c1
  have c4 := hxy.cell c4
  have hA := block_later HA.out hxy
  have hB := block_later HB.out hxy
  have hxw := hxw.trans hxy
  have a0 := cell_of_row _ _ 0 _ _ _ hA
  have a1 := cell_of_row _ _ 1 _ _ _ hA
  have b0 := cell_of_row _ _ 0 _ _ _ hB
  have b1 := cell_of_row _ _ 1 _ _ _ hB
  have d0 := cell_of_row _ _ 0 _ _ _ hDb
  have e1 := cell_of_row _ _ 1 _ _ _ hDb
  clear hA hB hDb hxd hxy hy3 HA HB HAR HFI c2
  have hy4 : Ext w (y3.alloc (.cells #[.string (strOf fc.a), .bool false] 152)) := hxw
  have hcall := HD.out ((y3.alloc (.cells #[.string (strOf fc.a), .bool false] 152)).alloc (.cells #[.string (strOf cu.1.a), .bool cu.1.e, .string (strOf cu.2.a), .bool cu.2.e] 156)) _ [⟨cu.1, cu.2⟩] (hy4.alloc _) (own_sp _ w.heap.size _ _ HCE.out hy4.size (by simp [maxLen])) (by simp)
  rw [World.size_alloc] at hcall
  have HCALL := Lib.hid hcall
  clear hcall
  go_wp2_with fail
  refine HCALL.out.mono ?_
  rintro e w5 ⟨u, rfl, h1, h2⟩
  go_wp2_with fail
  go_ret
  exact ⟨u, rfl, by rw [HRES.out]; exact h1, h2⟩

set_option maxRecDepth 100000 in
set_option maxHeartbeats 8000000 in
theorem of_3 (w : World) (nm : ByteArray) (v : V) (sa : Option Addr) (sn sc : Nat) (hn : okN v.n) (hs : v.s.length ≤ 140737488355328) :
    Calls Tryz.prog 122 #[.agg #[.string nm, .int .i64 3, .int .i64 v.k, .int .i64 v.n, .string (strOf v.s), .bool v.b, .slice sa sn sc]] w fun e w' => ∃ u, e = .returned u ∧ SpR w' u (ofL ⟨[], 3, v, []⟩) ∧ Ext w w' := by
  have hres : ofL ⟨[], 3, v, []⟩ = fullS [⟨firstC v.k, (aroundV v).1⟩, ⟨(aroundV v).2, endC⟩] := rfl
  obtain ⟨hx0, hC⟩ := boxes1 w (.cells #[.string nm, .int .i64 3, .int .i64 v.k, .int .i64 v.n, .string (strOf v.s), .bool v.b, .slice sa sn sc] 64)
  have har := fun W => around_any W v hn hs
  have hfi := fun W => first_any W v.k
  have hfe := firstC_e v.k
  have hD := fun W u l => delete_full w W u l
  have HRES := Lib.hid hres
  have HAR := Lib.hid har
  have HFI := Lib.hid hfi
  have HFE := Lib.hid hfe
  have HD := Lib.hid hD
  clear hres har hfi hfe hD hn hs
  generalize aroundV v = cu at *
  generalize hvk : firstC v.k = fc at *
  clear hvk
  have HCE : Hid ((#[.string (strOf fc.a), .bool false, .string (strOf cu.1.a), .bool cu.1.e, .string (strOf cu.2.a), .bool cu.2.e, .string ⟨#[]⟩, .bool true] : Array Value) = (([⟨fc, cu.1⟩, ⟨cu.2, endC⟩] : List Sp).flatMap spC).toArray) := by
    show _ = _
    simp only [List.flatMap_cons, List.flatMap_nil, spC, HFE.out]
    rfl
  have c1 := cell_of_row _ _ 1 _ _ _ hC
  have c2 := cell_of_row _ _ 2 _ _ _ hC
  have c3 := cell_of_row _ _ 3 _ _ _ hC
  have c4 := cell_of_row _ _ 4 _ _ _ hC
  have c5 := cell_of_row _ _ 5 _ _ _ hC
  clear hC
  go_enter Tryz.func122, Tryz.ntmps122
  go_wp2_with fail
  refine (HAR.out _).mono ?_
  rintro e y1 ⟨rfl, hy1⟩
  obtain ⟨hxb, hA, hB⟩ := boxes2 y1 (.cells #[.string (strOf cu.1.a), .bool cu.1.e] 152) (.cells #[.string (strOf cu.2.a), .bool cu.2.e] 152)
  have hxy := hy1.trans hxb
  have c1 := hxy.cell c1
  have c2 := hxy.cell c2
  have c4 := hxy.cell c4
  have hxw := hx0.trans hxy
  have HA := Lib.hid hA
  have HB := Lib.hid hB
  clear hA hB hxb hxy hy1 hx0 c3 c5
  go_wp2_with fail
  generalize (y1.alloc (.cells #[.string (strOf cu.1.a), .bool cu.1.e] 152)).alloc (.cells #[.string (strOf cu.2.a), .bool cu.2.e] 152) = y2 at *
  refine (HFI.out _).mono ?_
  rintro e y3 ⟨rfl, hy3⟩
  obtain ⟨hxd, hDb⟩ := boxes1 y3 (.cells #[.string (strOf fc.a), .bool false] 152)
  have hxy := hy3.trans hxd
  have c1 := hxy.cell c1
  have c4 := hxy.cell c4
  have hA := block_later HA.out hxy
  have hB := block_later HB.out hxy
  have hxw := hxw.trans hxy
  have a0 := cell_of_row _ _ 0 _ _ _ hA
  have a1 := cell_of_row _ _ 1 _ _ _ hA
  have b0 := cell_of_row _ _ 0 _ _ _ hB
  have b1 := cell_of_row _ _ 1 _ _ _ hB
  have d0 := cell_of_row _ _ 0 _ _ _ hDb
  have e1 := cell_of_row _ _ 1 _ _ _ hDb
  clear hA hB hDb hxd hxy hy3 HA HB HAR HFI c2
  go_upto_region 8 with fail
  generalize y3.alloc (.cells #[.string (strOf fc.a), .bool false] 152) = y4 at *
  refine wp_region_facts [Fact.eq (.agg #[.string (strOf fc.a), .bool false]),
      Fact.eq (.agg #[.string (strOf cu.1.a), .bool cu.1.e]),
      Fact.eq (.agg #[.string (strOf fc.a), .bool false, .string (strOf cu.1.a), .bool cu.1.e]),
      Fact.eq (.agg #[.string (strOf cu.2.a), .bool cu.2.e]),
      Fact.eq (.agg #[.string ⟨#[]⟩, .bool true]),
      Fact.eq (.agg #[.string (strOf cu.2.a), .bool cu.2.e, .string ⟨#[]⟩, .bool true]),
      Fact.ownSp w.heap.size [⟨fc, cu.1⟩, ⟨cu.2, endC⟩],
      Fact.ownSp w.heap.size [⟨fc, cu.1⟩, ⟨cu.2, endC⟩]]
    [[], [], [(0, 27), (1, 28)], [], [], [(3, 30), (4, 31)], [(2, 29), (5, 32)], [(6, 33)]]
    [(0, 27), (1, 28), (2, 29), (3, 30), (4, 31), (5, 32), (6, 33), (7, 6)] (by kernel_rfl) (by kernel_rfl) ?_ ?_
  · refine ⟨?_, ?_, ?_, ?_, ?_, ?_, ?_, ?_, trivial⟩
    · intro w1 hx1; change wpList _ _ _ _ _ _; have m0 := hx1.cell d0; have m1 := hx1.cell e1; go_wp2_with fail; exact ⟨rfl, Ext.refl _, rfl, rfl⟩
    · intro w1 hx1; change wpList _ _ _ _ _ _; have m0 := hx1.cell a0; have m1 := hx1.cell a1; go_wp2_with fail; exact ⟨rfl, Ext.refl _, rfl, rfl⟩
    · intro w1 hx1; rintro _ rfl; rintro _ rfl; change wpList _ _ _ _ _ _; go_wp2_with fail; exact ⟨rfl, Ext.refl _, rfl, rfl⟩
    · intro w1 hx1; change wpList _ _ _ _ _ _; have m0 := hx1.cell b0; have m1 := hx1.cell b1; go_wp2_with fail; exact ⟨rfl, Ext.refl _, rfl, rfl⟩
    · intro w1 hx1; change wpList _ _ _ _ _ _; go_wp2_with fail; refine (end_any w1).mono ?_; rintro e w2 ⟨rfl, hx2⟩; go_wp2_with fail; exact ⟨rfl, hx2, rfl, rfl⟩
    · intro w1 hx1; rintro _ rfl; rintro _ rfl; change wpList _ _ _ _ _ _; go_wp2_with fail; exact ⟨rfl, Ext.refl _, rfl, rfl⟩
    · intro w1 hx1; rintro _ rfl; rintro _ rfl; change wpList _ _ _ _ _ _; go_wp2_with fail; exact ⟨rfl, (Ext.refl _).alloc _, rfl, own_sp w1 _ _ _ HCE.out (hxw.trans hx1).size (by simp [maxLen])⟩
    · intro w1 hx1; intro v33 h33; change wpList _ _ _ _ _ _; exact ob_assign rfl rfl rfl rfl h33
  · intro w1 hx1; rintro _ rfl; rintro _ rfl; rintro _ rfl; rintro _ rfl; rintro _ rfl; rintro _ rfl; intro v33 h33; intro v6 h6; refine depsThen_nil ?_; dsimp only; simp only [Act.put, List.setIfInBounds_toArray, List.set_cons_zero, List.set_cons_succ]
    replace h33 : (Fact.ownSp w.heap.size [⟨fc, cu.1⟩, ⟨cu.2, endC⟩]).p v33 w1 := h33
    replace h6 : (Fact.ownSp w.heap.size [⟨fc, cu.1⟩, ⟨cu.2, endC⟩]).p v6 w1 := h6
    have ho : w1.ownsRow w.heap.size 156 4 v6 ([⟨fc, cu.1⟩, ⟨cu.2, endC⟩] : List Sp).length (([⟨fc, cu.1⟩, ⟨cu.2, endC⟩] : List Sp).flatMap spC) := h6
    obtain ⟨aa, cc, rfl, _, _⟩ := Row.shape (Row.of_own ho)
    have hcall := HD.out w1 _ [⟨fc, cu.1⟩, ⟨cu.2, endC⟩] (hxw.trans hx1) ho (by simp)
    have HCALL := Lib.hid hcall
    clear hcall ho h6 h33
    go_wp2_with fail
    refine HCALL.out.mono ?_
    rintro e w5 ⟨u, rfl, h1, h2⟩
    go_wp2_with fail
    go_ret
    exact ⟨u, rfl, by rw [HRES.out]; exact h1, h2⟩

set_option maxRecDepth 100000 in
set_option maxHeartbeats 8000000 in
theorem of_4 (w : World) (nm : ByteArray) (v : V) (sa : Option Addr) (sn sc : Nat) (hn : okN v.n) (hs : v.s.length ≤ 140737488355328) :
    Calls Tryz.prog 122 #[.agg #[.string nm, .int .i64 4, .int .i64 v.k, .int .i64 v.n, .string (strOf v.s), .bool v.b, .slice sa sn sc]] w fun e w' => ∃ u, e = .returned u ∧ SpR w' u (ofL ⟨[], 4, v, []⟩) ∧ Ext w w' := by
  have hres : ofL ⟨[], 4, v, []⟩ = fullS [⟨firstC v.k, (aroundV v).1⟩] := rfl
  obtain ⟨hx0, hC⟩ := boxes1 w (.cells #[.string nm, .int .i64 4, .int .i64 v.k, .int .i64 v.n, .string (strOf v.s), .bool v.b, .slice sa sn sc] 64)
  have har := fun W => around_any W v hn hs
  have hfi := fun W => first_any W v.k
  have hfe := firstC_e v.k
  have hD := fun W u l => delete_full w W u l
  have HRES := Lib.hid hres
  have HAR := Lib.hid har
  have HFI := Lib.hid hfi
  have HFE := Lib.hid hfe
  have HD := Lib.hid hD
  clear hres har hfi hfe hD hn hs
  generalize aroundV v = cu at *
  generalize hvk : firstC v.k = fc at *
  clear hvk
  have HCE : Hid ((#[.string (strOf fc.a), .bool false, .string (strOf cu.1.a), .bool cu.1.e] : Array Value) = (([⟨fc, cu.1⟩] : List Sp).flatMap spC).toArray) := by
    show _ = _
    simp only [List.flatMap_cons, List.flatMap_nil, spC, HFE.out]
    rfl
  have c1 := cell_of_row _ _ 1 _ _ _ hC
  have c2 := cell_of_row _ _ 2 _ _ _ hC
  have c3 := cell_of_row _ _ 3 _ _ _ hC
  have c4 := cell_of_row _ _ 4 _ _ _ hC
  have c5 := cell_of_row _ _ 5 _ _ _ hC
  clear hC
  go_enter Tryz.func122, Tryz.ntmps122
  go_wp2_with fail
  refine (HAR.out _).mono ?_
  rintro e y1 ⟨rfl, hy1⟩
  obtain ⟨hxb, hA, hB⟩ := boxes2 y1 (.cells #[.string (strOf cu.1.a), .bool cu.1.e] 152) (.cells #[.string (strOf cu.2.a), .bool cu.2.e] 152)
  have hxy := hy1.trans hxb
  have c1 := hxy.cell c1
  have c2 := hxy.cell c2
  have c4 := hxy.cell c4
  have hxw := hx0.trans hxy
  have HA := Lib.hid hA
  have HB := Lib.hid hB
  clear hA hB hxb hxy hy1 hx0 c3 c5
  go_wp2_with fail
  generalize (y1.alloc (.cells #[.string (strOf cu.1.a), .bool cu.1.e] 152)).alloc (.cells #[.string (strOf cu.2.a), .bool cu.2.e] 152) = y2 at *
  refine (HFI.out _).mono ?_
  rintro e y3 ⟨rfl, hy3⟩
  obtain ⟨hxd, hDb⟩ := boxes1 y3 (.cells #[.string (strOf fc.a), .bool false] 152)
  have hxy := hy3.trans hxd
  have c1 := hxy.cell c1
  have c4 := hxy.cell c4
  have hA := block_later HA.out hxy
  have hB := block_later HB.out hxy
  have hxw := hxw.trans hxy
  have a0 := cell_of_row _ _ 0 _ _ _ hA
  have a1 := cell_of_row _ _ 1 _ _ _ hA
  have b0 := cell_of_row _ _ 0 _ _ _ hB
  have b1 := cell_of_row _ _ 1 _ _ _ hB
  have d0 := cell_of_row _ _ 0 _ _ _ hDb
  have e1 := cell_of_row _ _ 1 _ _ _ hDb
  clear hA hB hDb hxd hxy hy3 HA HB HAR HFI c2
  have hy4 : Ext w (y3.alloc (.cells #[.string (strOf fc.a), .bool false] 152)) := hxw
  have hcall := HD.out ((y3.alloc (.cells #[.string (strOf fc.a), .bool false] 152)).alloc (.cells #[.string (strOf fc.a), .bool false, .string (strOf cu.1.a), .bool cu.1.e] 156)) _ [⟨fc, cu.1⟩] (hy4.alloc _) (own_sp _ w.heap.size _ _ HCE.out hy4.size (by simp [maxLen])) (by simp)
  rw [World.size_alloc] at hcall
  have HCALL := Lib.hid hcall
  clear hcall
  go_wp2_with fail
  refine HCALL.out.mono ?_
  rintro e w5 ⟨u, rfl, h1, h2⟩
  go_wp2_with fail
  go_ret
  exact ⟨u, rfl, by rw [HRES.out]; exact h1, h2⟩

set_option maxRecDepth 100000 in
set_option maxHeartbeats 8000000 in
theorem of_5 (w : World) (nm : ByteArray) (v : V) (sa : Option Addr) (sn sc : Nat) (hn : okN v.n) (hs : v.s.length ≤ 140737488355328) :
    Calls Tryz.prog 122 #[.agg #[.string nm, .int .i64 5, .int .i64 v.k, .int .i64 v.n, .string (strOf v.s), .bool v.b, .slice sa sn sc]] w fun e w' => ∃ u, e = .returned u ∧ SpR w' u (ofL ⟨[], 5, v, []⟩) ∧ Ext w w' := by
  have hres : ofL ⟨[], 5, v, []⟩ = fullS [⟨firstC v.k, (aroundV v).2⟩] := rfl
  obtain ⟨hx0, hC⟩ := boxes1 w (.cells #[.string nm, .int .i64 5, .int .i64 v.k, .int .i64 v.n, .string (strOf v.s), .bool v.b, .slice sa sn sc] 64)
  have har := fun W => around_any W v hn hs
  have hfi := fun W => first_any W v.k
  have hfe := firstC_e v.k
  have hD := fun W u l => delete_full w W u l
  have HRES := Lib.hid hres
  have HAR := Lib.hid har
  have HFI := Lib.hid hfi
  have HFE := Lib.hid hfe
  have HD := Lib.hid hD
  clear hres har hfi hfe hD hn hs
  generalize aroundV v = cu at *
  generalize hvk : firstC v.k = fc at *
  clear hvk
  have HCE : Hid ((#[.string (strOf fc.a), .bool false, .string (strOf cu.2.a), .bool cu.2.e] : Array Value) = (([⟨fc, cu.2⟩] : List Sp).flatMap spC).toArray) := by
    show _ = _
    simp only [List.flatMap_cons, List.flatMap_nil, spC, HFE.out]
    rfl
  have c1 := cell_of_row _ _ 1 _ _ _ hC
  have c2 := cell_of_row _ _ 2 _ _ _ hC
  have c3 := cell_of_row _ _ 3 _ _ _ hC
  have c4 := cell_of_row _ _ 4 _ _ _ hC
  have c5 := cell_of_row _ _ 5 _ _ _ hC
  clear hC
  go_enter Tryz.func122, Tryz.ntmps122
  go_wp2_with fail
  refine (HAR.out _).mono ?_
  rintro e y1 ⟨rfl, hy1⟩
  obtain ⟨hxb, hA, hB⟩ := boxes2 y1 (.cells #[.string (strOf cu.1.a), .bool cu.1.e] 152) (.cells #[.string (strOf cu.2.a), .bool cu.2.e] 152)
  have hxy := hy1.trans hxb
  have c1 := hxy.cell c1
  have c2 := hxy.cell c2
  have c4 := hxy.cell c4
  have hxw := hx0.trans hxy
  have HA := Lib.hid hA
  have HB := Lib.hid hB
  clear hA hB hxb hxy hy1 hx0 c3 c5
  go_wp2_with fail
  generalize (y1.alloc (.cells #[.string (strOf cu.1.a), .bool cu.1.e] 152)).alloc (.cells #[.string (strOf cu.2.a), .bool cu.2.e] 152) = y2 at *
  refine (HFI.out _).mono ?_
  rintro e y3 ⟨rfl, hy3⟩
  obtain ⟨hxd, hDb⟩ := boxes1 y3 (.cells #[.string (strOf fc.a), .bool false] 152)
  have hxy := hy3.trans hxd
  have c1 := hxy.cell c1
  have c4 := hxy.cell c4
  have hA := block_later HA.out hxy
  have hB := block_later HB.out hxy
  have hxw := hxw.trans hxy
  have a0 := cell_of_row _ _ 0 _ _ _ hA
  have a1 := cell_of_row _ _ 1 _ _ _ hA
  have b0 := cell_of_row _ _ 0 _ _ _ hB
  have b1 := cell_of_row _ _ 1 _ _ _ hB
  have d0 := cell_of_row _ _ 0 _ _ _ hDb
  have e1 := cell_of_row _ _ 1 _ _ _ hDb
  clear hA hB hDb hxd hxy hy3 HA HB HAR HFI c2
  have hy4 : Ext w (y3.alloc (.cells #[.string (strOf fc.a), .bool false] 152)) := hxw
  have hcall := HD.out ((y3.alloc (.cells #[.string (strOf fc.a), .bool false] 152)).alloc (.cells #[.string (strOf fc.a), .bool false, .string (strOf cu.2.a), .bool cu.2.e] 156)) _ [⟨fc, cu.2⟩] (hy4.alloc _) (own_sp _ w.heap.size _ _ HCE.out hy4.size (by simp [maxLen])) (by simp)
  rw [World.size_alloc] at hcall
  have HCALL := Lib.hid hcall
  clear hcall
  go_wp2_with fail
  refine HCALL.out.mono ?_
  rintro e w5 ⟨u, rfl, h1, h2⟩
  go_wp2_with fail
  go_ret
  exact ⟨u, rfl, by rw [HRES.out]; exact h1, h2⟩

set_option maxRecDepth 100000 in
set_option maxHeartbeats 8000000 in
theorem of_6 (w : World) (nm : ByteArray) (v : V) (sa : Option Addr) (sn sc : Nat) (hn : okN v.n) (hs : v.s.length ≤ 140737488355328) :
    Calls Tryz.prog 122 #[.agg #[.string nm, .int .i64 6, .int .i64 v.k, .int .i64 v.n, .string (strOf v.s), .bool v.b, .slice sa sn sc]] w fun e w' => ∃ u, e = .returned u ∧ SpR w' u (ofL ⟨[], 6, v, []⟩) ∧ Ext w w' := by
  have hres : ofL ⟨[], 6, v, []⟩ = fullS [⟨(aroundV v).2, endC⟩] := rfl
  obtain ⟨hx0, hC⟩ := boxes1 w (.cells #[.string nm, .int .i64 6, .int .i64 v.k, .int .i64 v.n, .string (strOf v.s), .bool v.b, .slice sa sn sc] 64)
  have har := fun W => around_any W v hn hs
  have hfi := fun W => first_any W v.k
  have hfe := firstC_e v.k
  have hD := fun W u l => delete_full w W u l
  have HRES := Lib.hid hres
  have HAR := Lib.hid har
  have HFI := Lib.hid hfi
  have HFE := Lib.hid hfe
  have HD := Lib.hid hD
  clear hres har hfi hfe hD hn hs
  generalize aroundV v = cu at *
  generalize hvk : firstC v.k = fc at *
  clear hvk
  have HCE : Hid ((#[.string (strOf cu.2.a), .bool cu.2.e, .string ⟨#[]⟩, .bool true] : Array Value) = (([⟨cu.2, endC⟩] : List Sp).flatMap spC).toArray) := by
    show _ = _
    simp only [List.flatMap_cons, List.flatMap_nil, spC]
    rfl
  have c1 := cell_of_row _ _ 1 _ _ _ hC
  have c2 := cell_of_row _ _ 2 _ _ _ hC
  have c3 := cell_of_row _ _ 3 _ _ _ hC
  have c4 := cell_of_row _ _ 4 _ _ _ hC
  have c5 := cell_of_row _ _ 5 _ _ _ hC
  clear hC
  go_enter Tryz.func122, Tryz.ntmps122
  go_wp2_with fail
  refine (HAR.out _).mono ?_
  rintro e y1 ⟨rfl, hy1⟩
  obtain ⟨hxb, hA, hB⟩ := boxes2 y1 (.cells #[.string (strOf cu.1.a), .bool cu.1.e] 152) (.cells #[.string (strOf cu.2.a), .bool cu.2.e] 152)
  have hxy := hy1.trans hxb
  have c1 := hxy.cell c1
  have c2 := hxy.cell c2
  have c4 := hxy.cell c4
  have hxw := hx0.trans hxy
  have HA := Lib.hid hA
  have HB := Lib.hid hB
  clear hA hB hxb hxy hy1 hx0 c3 c5
  go_wp2_with fail
  generalize (y1.alloc (.cells #[.string (strOf cu.1.a), .bool cu.1.e] 152)).alloc (.cells #[.string (strOf cu.2.a), .bool cu.2.e] 152) = y2 at *
  refine (HFI.out _).mono ?_
  rintro e y3 ⟨rfl, hy3⟩
  obtain ⟨hxd, hDb⟩ := boxes1 y3 (.cells #[.string (strOf fc.a), .bool false] 152)
  have hxy := hy3.trans hxd
  have c1 := hxy.cell c1
  have c4 := hxy.cell c4
  have hA := block_later HA.out hxy
  have hB := block_later HB.out hxy
  have hxw := hxw.trans hxy
  have a0 := cell_of_row _ _ 0 _ _ _ hA
  have a1 := cell_of_row _ _ 1 _ _ _ hA
  have b0 := cell_of_row _ _ 0 _ _ _ hB
  have b1 := cell_of_row _ _ 1 _ _ _ hB
  have d0 := cell_of_row _ _ 0 _ _ _ hDb
  have e1 := cell_of_row _ _ 1 _ _ _ hDb
  clear hA hB hDb hxd hxy hy3 HA HB HAR HFI c2
  go_upto_region 14 with fail
  generalize y3.alloc (.cells #[.string (strOf fc.a), .bool false] 152) = y4 at *
  refine wp_region_facts [Fact.eq (.agg #[.string (strOf cu.2.a), .bool cu.2.e]),
      Fact.eq (.agg #[.string ⟨#[]⟩, .bool true]),
      Fact.eq (.agg #[.string (strOf cu.2.a), .bool cu.2.e, .string ⟨#[]⟩, .bool true]),
      Fact.ownSp w.heap.size [⟨cu.2, endC⟩],
      Fact.ownSp w.heap.size [⟨cu.2, endC⟩]]
    [[], [], [(0, 48), (1, 49)], [(2, 50)], [(3, 51)]]
    [(0, 48), (1, 49), (2, 50), (3, 51), (4, 6)] (by kernel_rfl) (by kernel_rfl) ?_ ?_
  · refine ⟨?_, ?_, ?_, ?_, ?_, trivial⟩
    · intro w1 hx1; change wpList _ _ _ _ _ _; have m0 := hx1.cell b0; have m1 := hx1.cell b1; go_wp2_with fail; exact ⟨rfl, Ext.refl _, rfl, rfl⟩
    · intro w1 hx1; change wpList _ _ _ _ _ _; go_wp2_with fail; refine (end_any w1).mono ?_; rintro e w2 ⟨rfl, hx2⟩; go_wp2_with fail; exact ⟨rfl, hx2, rfl, rfl⟩
    · intro w1 hx1; rintro _ rfl; rintro _ rfl; change wpList _ _ _ _ _ _; go_wp2_with fail; exact ⟨rfl, Ext.refl _, rfl, rfl⟩
    · intro w1 hx1; rintro _ rfl; change wpList _ _ _ _ _ _; go_wp2_with fail; exact ⟨rfl, (Ext.refl _).alloc _, rfl, own_sp w1 _ _ _ HCE.out (hxw.trans hx1).size (by simp [maxLen])⟩
    · intro w1 hx1; intro v51 h51; change wpList _ _ _ _ _ _; exact ob_assign rfl rfl rfl rfl h51
  · intro w1 hx1; rintro _ rfl; rintro _ rfl; rintro _ rfl; intro v51 h51; intro v6 h6; refine depsThen_nil ?_; dsimp only; simp only [Act.put, List.setIfInBounds_toArray, List.set_cons_zero, List.set_cons_succ]
    replace h51 : (Fact.ownSp w.heap.size [⟨cu.2, endC⟩]).p v51 w1 := h51
    replace h6 : (Fact.ownSp w.heap.size [⟨cu.2, endC⟩]).p v6 w1 := h6
    have ho : w1.ownsRow w.heap.size 156 4 v6 ([⟨cu.2, endC⟩] : List Sp).length (([⟨cu.2, endC⟩] : List Sp).flatMap spC) := h6
    obtain ⟨aa, cc, rfl, _, _⟩ := Row.shape (Row.of_own ho)
    have hcall := HD.out w1 _ [⟨cu.2, endC⟩] (hxw.trans hx1) ho (by simp)
    have HCALL := Lib.hid hcall
    clear hcall ho h6 h51
    go_wp2_with fail
    refine HCALL.out.mono ?_
    rintro e w5 ⟨u, rfl, h1, h2⟩
    go_wp2_with fail
    go_ret
    exact ⟨u, rfl, by rw [HRES.out]; exact h1, h2⟩

set_option maxRecDepth 100000 in
set_option maxHeartbeats 8000000 in
theorem of_7 (w : World) (nm : ByteArray) (v : V) (sa : Option Addr) (sn sc : Nat) (hn : okN v.n) (hs : v.s.length ≤ 140737488355328) :
    Calls Tryz.prog 122 #[.agg #[.string nm, .int .i64 7, .int .i64 v.k, .int .i64 v.n, .string (strOf v.s), .bool v.b, .slice sa sn sc]] w fun e w' => ∃ u, e = .returned u ∧ SpR w' u (ofL ⟨[], 7, v, []⟩) ∧ Ext w w' := by
  have hres : ofL ⟨[], 7, v, []⟩ = fullS [⟨(aroundV v).1, endC⟩] := rfl
  obtain ⟨hx0, hC⟩ := boxes1 w (.cells #[.string nm, .int .i64 7, .int .i64 v.k, .int .i64 v.n, .string (strOf v.s), .bool v.b, .slice sa sn sc] 64)
  have har := fun W => around_any W v hn hs
  have hfi := fun W => first_any W v.k
  have hfe := firstC_e v.k
  have hD := fun W u l => delete_full w W u l
  have HRES := Lib.hid hres
  have HAR := Lib.hid har
  have HFI := Lib.hid hfi
  have HFE := Lib.hid hfe
  have HD := Lib.hid hD
  clear hres har hfi hfe hD hn hs
  generalize aroundV v = cu at *
  generalize hvk : firstC v.k = fc at *
  clear hvk
  have HCE : Hid ((#[.string (strOf cu.1.a), .bool cu.1.e, .string ⟨#[]⟩, .bool true] : Array Value) = (([⟨cu.1, endC⟩] : List Sp).flatMap spC).toArray) := by
    show _ = _
    simp only [List.flatMap_cons, List.flatMap_nil, spC]
    rfl
  have c1 := cell_of_row _ _ 1 _ _ _ hC
  have c2 := cell_of_row _ _ 2 _ _ _ hC
  have c3 := cell_of_row _ _ 3 _ _ _ hC
  have c4 := cell_of_row _ _ 4 _ _ _ hC
  have c5 := cell_of_row _ _ 5 _ _ _ hC
  clear hC
  go_enter Tryz.func122, Tryz.ntmps122
  go_wp2_with fail
  refine (HAR.out _).mono ?_
  rintro e y1 ⟨rfl, hy1⟩
  obtain ⟨hxb, hA, hB⟩ := boxes2 y1 (.cells #[.string (strOf cu.1.a), .bool cu.1.e] 152) (.cells #[.string (strOf cu.2.a), .bool cu.2.e] 152)
  have hxy := hy1.trans hxb
  have c1 := hxy.cell c1
  have c2 := hxy.cell c2
  have c4 := hxy.cell c4
  have hxw := hx0.trans hxy
  have HA := Lib.hid hA
  have HB := Lib.hid hB
  clear hA hB hxb hxy hy1 hx0 c3 c5
  go_wp2_with fail
  generalize (y1.alloc (.cells #[.string (strOf cu.1.a), .bool cu.1.e] 152)).alloc (.cells #[.string (strOf cu.2.a), .bool cu.2.e] 152) = y2 at *
  refine (HFI.out _).mono ?_
  rintro e y3 ⟨rfl, hy3⟩
  obtain ⟨hxd, hDb⟩ := boxes1 y3 (.cells #[.string (strOf fc.a), .bool false] 152)
  have hxy := hy3.trans hxd
  have c1 := hxy.cell c1
  have c4 := hxy.cell c4
  have hA := block_later HA.out hxy
  have hB := block_later HB.out hxy
  have hxw := hxw.trans hxy
  have a0 := cell_of_row _ _ 0 _ _ _ hA
  have a1 := cell_of_row _ _ 1 _ _ _ hA
  have b0 := cell_of_row _ _ 0 _ _ _ hB
  have b1 := cell_of_row _ _ 1 _ _ _ hB
  have d0 := cell_of_row _ _ 0 _ _ _ hDb
  have e1 := cell_of_row _ _ 1 _ _ _ hDb
  clear hA hB hDb hxd hxy hy3 HA HB HAR HFI c2
  go_upto_region 16 with fail
  generalize y3.alloc (.cells #[.string (strOf fc.a), .bool false] 152) = y4 at *
  refine wp_region_facts [Fact.eq (.agg #[.string (strOf cu.1.a), .bool cu.1.e]),
      Fact.eq (.agg #[.string ⟨#[]⟩, .bool true]),
      Fact.eq (.agg #[.string (strOf cu.1.a), .bool cu.1.e, .string ⟨#[]⟩, .bool true]),
      Fact.ownSp w.heap.size [⟨cu.1, endC⟩],
      Fact.ownSp w.heap.size [⟨cu.1, endC⟩]]
    [[], [], [(0, 54), (1, 55)], [(2, 56)], [(3, 57)]]
    [(0, 54), (1, 55), (2, 56), (3, 57), (4, 6)] (by kernel_rfl) (by kernel_rfl) ?_ ?_
  · refine ⟨?_, ?_, ?_, ?_, ?_, trivial⟩
    · intro w1 hx1; change wpList _ _ _ _ _ _; have m0 := hx1.cell a0; have m1 := hx1.cell a1; go_wp2_with fail; exact ⟨rfl, Ext.refl _, rfl, rfl⟩
    · intro w1 hx1; change wpList _ _ _ _ _ _; go_wp2_with fail; refine (end_any w1).mono ?_; rintro e w2 ⟨rfl, hx2⟩; go_wp2_with fail; exact ⟨rfl, hx2, rfl, rfl⟩
    · intro w1 hx1; rintro _ rfl; rintro _ rfl; change wpList _ _ _ _ _ _; go_wp2_with fail; exact ⟨rfl, Ext.refl _, rfl, rfl⟩
    · intro w1 hx1; rintro _ rfl; change wpList _ _ _ _ _ _; go_wp2_with fail; exact ⟨rfl, (Ext.refl _).alloc _, rfl, own_sp w1 _ _ _ HCE.out (hxw.trans hx1).size (by simp [maxLen])⟩
    · intro w1 hx1; intro v57 h57; change wpList _ _ _ _ _ _; exact ob_assign rfl rfl rfl rfl h57
  · intro w1 hx1; rintro _ rfl; rintro _ rfl; rintro _ rfl; intro v57 h57; intro v6 h6; refine depsThen_nil ?_; dsimp only; simp only [Act.put, List.setIfInBounds_toArray, List.set_cons_zero, List.set_cons_succ]
    replace h57 : (Fact.ownSp w.heap.size [⟨cu.1, endC⟩]).p v57 w1 := h57
    replace h6 : (Fact.ownSp w.heap.size [⟨cu.1, endC⟩]).p v6 w1 := h6
    have ho : w1.ownsRow w.heap.size 156 4 v6 ([⟨cu.1, endC⟩] : List Sp).length (([⟨cu.1, endC⟩] : List Sp).flatMap spC) := h6
    obtain ⟨aa, cc, rfl, _, _⟩ := Row.shape (Row.of_own ho)
    have hcall := HD.out w1 _ [⟨cu.1, endC⟩] (hxw.trans hx1) ho (by simp)
    have HCALL := Lib.hid hcall
    clear hcall ho h6 h57
    go_wp2_with fail
    refine HCALL.out.mono ?_
    rintro e w5 ⟨u, rfl, h1, h2⟩
    go_wp2_with fail
    go_ret
    exact ⟨u, rfl, by rw [HRES.out]; exact h1, h2⟩

set_option maxRecDepth 100000 in
set_option maxHeartbeats 8000000 in
theorem of_8 (w : World) (nm : ByteArray) (v : V) (sa : Option Addr) (sn sc : Nat) (hn : okN v.n) (hs : v.s.length ≤ 140737488355328) :
    Calls Tryz.prog 122 #[.agg #[.string nm, .int .i64 8, .int .i64 v.k, .int .i64 v.n, .string (strOf v.s), .bool v.b, .slice sa sn sc]] w fun e w' => ∃ u, e = .returned u ∧ SpR w' u (ofL ⟨[], 8, v, []⟩) ∧ Ext w w' := by
  have hres : ofL ⟨[], 8, v, []⟩ = fullS [⟨(aroundV v).1, pastF v.s⟩] := rfl
  obtain ⟨hx0, hC⟩ := boxes1 w (.cells #[.string nm, .int .i64 8, .int .i64 v.k, .int .i64 v.n, .string (strOf v.s), .bool v.b, .slice sa sn sc] 64)
  have har := fun W => around_any W v hn hs
  have hfi := fun W => first_any W v.k
  have hfe := firstC_e v.k
  have hD := fun W u l => delete_full w W u l
  have hpa := fun W => past_any W v.s hs
  have HPA := Lib.hid hpa
  clear hpa
  generalize pastF v.s = pc at *
  have HRES := Lib.hid hres
  have HAR := Lib.hid har
  have HFI := Lib.hid hfi
  have HFE := Lib.hid hfe
  have HD := Lib.hid hD
  clear hres har hfi hfe hD hn hs
  generalize aroundV v = cu at *
  generalize hvk : firstC v.k = fc at *
  clear hvk
  have HCE : Hid ((#[.string (strOf cu.1.a), .bool cu.1.e, .string (strOf pc.a), .bool pc.e] : Array Value) = (([⟨cu.1, pc⟩] : List Sp).flatMap spC).toArray) := by
    show _ = _
    simp only [List.flatMap_cons, List.flatMap_nil, spC]
    rfl
  have c1 := cell_of_row _ _ 1 _ _ _ hC
  have c2 := cell_of_row _ _ 2 _ _ _ hC
  have c3 := cell_of_row _ _ 3 _ _ _ hC
  have c4 := cell_of_row _ _ 4 _ _ _ hC
  have c5 := cell_of_row _ _ 5 _ _ _ hC
  clear hC
  go_enter Tryz.func122, Tryz.ntmps122
  go_wp2_with fail
  refine (HAR.out _).mono ?_
  rintro e y1 ⟨rfl, hy1⟩
  obtain ⟨hxb, hA, hB⟩ := boxes2 y1 (.cells #[.string (strOf cu.1.a), .bool cu.1.e] 152) (.cells #[.string (strOf cu.2.a), .bool cu.2.e] 152)
  have hxy := hy1.trans hxb
  have c1 := hxy.cell c1
  have c2 := hxy.cell c2
  have c4 := hxy.cell c4
  have hxw := hx0.trans hxy
  have HA := Lib.hid hA
  have HB := Lib.hid hB
  clear hA hB hxb hxy hy1 hx0 c3 c5
  go_wp2_with fail
  generalize (y1.alloc (.cells #[.string (strOf cu.1.a), .bool cu.1.e] 152)).alloc (.cells #[.string (strOf cu.2.a), .bool cu.2.e] 152) = y2 at *
  refine (HFI.out _).mono ?_
  rintro e y3 ⟨rfl, hy3⟩
  obtain ⟨hxd, hDb⟩ := boxes1 y3 (.cells #[.string (strOf fc.a), .bool false] 152)
  have hxy := hy3.trans hxd
  have c1 := hxy.cell c1
  have c4 := hxy.cell c4
  have hA := block_later HA.out hxy
  have hB := block_later HB.out hxy
  have hxw := hxw.trans hxy
  have a0 := cell_of_row _ _ 0 _ _ _ hA
  have a1 := cell_of_row _ _ 1 _ _ _ hA
  have b0 := cell_of_row _ _ 0 _ _ _ hB
  have b1 := cell_of_row _ _ 1 _ _ _ hB
  have d0 := cell_of_row _ _ 0 _ _ _ hDb
  have e1 := cell_of_row _ _ 1 _ _ _ hDb
  clear hA hB hDb hxd hxy hy3 HA HB HAR HFI c2
  go_upto_region 18 with fail
  generalize y3.alloc (.cells #[.string (strOf fc.a), .bool false] 152) = y4 at *
  refine wp_region_facts [Fact.eq (.agg #[.string (strOf cu.1.a), .bool cu.1.e]),
      Fact.eq (.pointer (some ⟨w.heap.size, 2, none⟩)),
      Fact.eq (.pointer (some ⟨w.heap.size, 4, none⟩)),
      Fact.eq (.string (strOf v.s)),
      Fact.eq (.agg #[.string (strOf pc.a), .bool pc.e]),
      Fact.eq (.agg #[.string (strOf cu.1.a), .bool cu.1.e, .string (strOf pc.a), .bool pc.e]),
      Fact.ownSp w.heap.size [⟨cu.1, pc⟩],
      Fact.ownSp w.heap.size [⟨cu.1, pc⟩]]
    [[], [], [(1, 61)], [(2, 62)], [(3, 63)], [(0, 60), (4, 64)], [(5, 65)], [(6, 66)]]
    [(0, 60), (1, 61), (2, 62), (3, 63), (4, 64), (5, 65), (6, 66), (7, 6)] (by kernel_rfl) (by kernel_rfl) ?_ ?_
  · refine ⟨?_, ?_, ?_, ?_, ?_, ?_, ?_, ?_, trivial⟩
    · intro w1 hx1; change wpList _ _ _ _ _ _; have m0 := hx1.cell a0; have m1 := hx1.cell a1; go_wp2_with fail; exact ⟨rfl, Ext.refl _, rfl, rfl⟩
    · intro w1 hx1; change wpList _ _ _ _ _ _; go_wp2_with fail; exact ⟨rfl, Ext.refl _, rfl, rfl⟩
    · intro w1 hx1; rintro _ rfl; change wpList _ _ _ _ _ _; go_wp2_with fail; exact ⟨rfl, Ext.refl _, rfl, rfl⟩
    · intro w1 hx1; rintro _ rfl; change wpList _ _ _ _ _ _; have m := hx1.cell c4; go_wp2_with fail; exact ⟨rfl, Ext.refl _, rfl, rfl⟩
    · intro w1 hx1; rintro _ rfl; change wpList _ _ _ _ _ _; go_wp2_with fail; refine (HPA.out w1).mono ?_; rintro e w2 ⟨rfl, hx2⟩; go_wp2_with fail; exact ⟨rfl, hx2, rfl, rfl⟩
    · intro w1 hx1; rintro _ rfl; rintro _ rfl; change wpList _ _ _ _ _ _; go_wp2_with fail; exact ⟨rfl, Ext.refl _, rfl, rfl⟩
    · intro w1 hx1; rintro _ rfl; change wpList _ _ _ _ _ _; go_wp2_with fail; exact ⟨rfl, (Ext.refl _).alloc _, rfl, own_sp w1 _ _ _ HCE.out (hxw.trans hx1).size (by simp [maxLen])⟩
    · intro w1 hx1; intro v66 h66; change wpList _ _ _ _ _ _; exact ob_assign rfl rfl rfl rfl h66
  · intro w1 hx1; rintro _ rfl; rintro _ rfl; rintro _ rfl; rintro _ rfl; rintro _ rfl; rintro _ rfl; intro v66 h66; intro v6 h6; refine depsThen_nil ?_; dsimp only; simp only [Act.put, List.setIfInBounds_toArray, List.set_cons_zero, List.set_cons_succ]
    replace h66 : (Fact.ownSp w.heap.size [⟨cu.1, pc⟩]).p v66 w1 := h66
    replace h6 : (Fact.ownSp w.heap.size [⟨cu.1, pc⟩]).p v6 w1 := h6
    have ho : w1.ownsRow w.heap.size 156 4 v6 ([⟨cu.1, pc⟩] : List Sp).length (([⟨cu.1, pc⟩] : List Sp).flatMap spC) := h6
    obtain ⟨aa, cc, rfl, _, _⟩ := Row.shape (Row.of_own ho)
    have hcall := HD.out w1 _ [⟨cu.1, pc⟩] (hxw.trans hx1) ho (by simp)
    have HCALL := Lib.hid hcall
    clear hcall ho h6 h66
    go_wp2_with fail
    refine HCALL.out.mono ?_
    rintro e w5 ⟨u, rfl, h1, h2⟩
    go_wp2_with fail
    go_ret
    exact ⟨u, rfl, by rw [HRES.out]; exact h1, h2⟩

set_option maxRecDepth 100000 in
set_option maxHeartbeats 8000000 in
theorem of_0 (w : World) (nm : ByteArray) (op : Int) (v : V) (sa : Option Addr) (sn sc : Nat) (hn : okN v.n) (hs : v.s.length ≤ 140737488355328) (ho : op < 2 ∨ 8 < op) :
    Calls Tryz.prog 122 #[.agg #[.string nm, .int .i64 op, .int .i64 v.k, .int .i64 v.n, .string (strOf v.s), .bool v.b, .slice sa sn sc]] w fun e w' => ∃ u, e = .returned u ∧ SpR w' u (ofL ⟨[], op, v, []⟩) ∧ Ext w w' := by
  have hres : ofL ⟨[], op, v, []⟩ = fullS [] := by
    unfold ofL
    rw [if_neg (show ¬ op = 2 by omega), if_neg (show ¬ op = 3 by omega), if_neg (show ¬ op = 4 by omega), if_neg (show ¬ op = 5 by omega), if_neg (show ¬ op = 6 by omega), if_neg (show ¬ op = 7 by omega), if_neg (show ¬ op = 8 by omega)]
  have d2 : (op == 2) = false := beq_eq_false_iff_ne.2 (by omega)
  have d3 : (op == 3) = false := beq_eq_false_iff_ne.2 (by omega)
  have d4 : (op == 4) = false := beq_eq_false_iff_ne.2 (by omega)
  have d5 : (op == 5) = false := beq_eq_false_iff_ne.2 (by omega)
  have d6 : (op == 6) = false := beq_eq_false_iff_ne.2 (by omega)
  have d7 : (op == 7) = false := beq_eq_false_iff_ne.2 (by omega)
  have d8 : (op == 8) = false := beq_eq_false_iff_ne.2 (by omega)
  obtain ⟨hx0, hC⟩ := boxes1 w (.cells #[.string nm, .int .i64 op, .int .i64 v.k, .int .i64 v.n, .string (strOf v.s), .bool v.b, .slice sa sn sc] 64)
  have har := fun W => around_any W v hn hs
  have hfi := fun W => first_any W v.k
  have hfe := firstC_e v.k
  have hD := fun W u l => delete_full w W u l
  have HRES := Lib.hid hres
  have HAR := Lib.hid har
  have HFI := Lib.hid hfi
  have HFE := Lib.hid hfe
  have HD := Lib.hid hD
  clear hres har hfi hfe hD hn hs
  generalize aroundV v = cu at *
  generalize hvk : firstC v.k = fc at *
  clear hvk
  clear ho
  have c1 := cell_of_row _ _ 1 _ _ _ hC
  have c2 := cell_of_row _ _ 2 _ _ _ hC
  have c3 := cell_of_row _ _ 3 _ _ _ hC
  have c4 := cell_of_row _ _ 4 _ _ _ hC
  have c5 := cell_of_row _ _ 5 _ _ _ hC
  clear hC
  go_enter Tryz.func122, Tryz.ntmps122
  go_wp2_with fail
  refine (HAR.out _).mono ?_
  rintro e y1 ⟨rfl, hy1⟩
  obtain ⟨hxb, hA, hB⟩ := boxes2 y1 (.cells #[.string (strOf cu.1.a), .bool cu.1.e] 152) (.cells #[.string (strOf cu.2.a), .bool cu.2.e] 152)
  have hxy := hy1.trans hxb
  have c1 := hxy.cell c1
  have c2 := hxy.cell c2
  have c4 := hxy.cell c4
  have hxw := hx0.trans hxy
  have HA := Lib.hid hA
  have HB := Lib.hid hB
  clear hA hB hxb hxy hy1 hx0 c3 c5
  go_wp2_with fail
  generalize (y1.alloc (.cells #[.string (strOf cu.1.a), .bool cu.1.e] 152)).alloc (.cells #[.string (strOf cu.2.a), .bool cu.2.e] 152) = y2 at *
  refine (HFI.out _).mono ?_
  rintro e y3 ⟨rfl, hy3⟩
  obtain ⟨hxd, hDb⟩ := boxes1 y3 (.cells #[.string (strOf fc.a), .bool false] 152)
  have hxy := hy3.trans hxd
  have c1 := hxy.cell c1
  have c4 := hxy.cell c4
  have hA := block_later HA.out hxy
  have hB := block_later HB.out hxy
  have hxw := hxw.trans hxy
  have a0 := cell_of_row _ _ 0 _ _ _ hA
  have a1 := cell_of_row _ _ 1 _ _ _ hA
  have b0 := cell_of_row _ _ 0 _ _ _ hB
  have b1 := cell_of_row _ _ 1 _ _ _ hB
  have d0 := cell_of_row _ _ 0 _ _ _ hDb
  have e1 := cell_of_row _ _ 1 _ _ _ hDb
  clear hA hB hDb hxd hxy hy3 HA HB HAR HFI c2
  have hcall := HD.out (y3.alloc (.cells #[.string (strOf fc.a), .bool false] 152)) (.slice none 0 0) [] hxw ⟨rfl, .inl ⟨rfl, rfl⟩⟩ (by decide)
  have HCALL := Lib.hid hcall
  clear hcall
  go_wp2_with fail
  refine HCALL.out.mono ?_
  rintro e w5 ⟨u, rfl, h1, h2⟩
  go_wp2_with fail
  go_ret
  exact ⟨u, rfl, by rw [HRES.out]; exact h1, h2⟩

theorem of_any (w : World) (nm : ByteArray) (op : Int) (v : V) (sa : Option Addr) (sn sc : Nat) (hn : okN v.n) (hs : v.s.length ≤ 140737488355328) :
    Calls Tryz.prog 122 #[.agg #[.string nm, .int .i64 op, .int .i64 v.k, .int .i64 v.n, .string (strOf v.s), .bool v.b, .slice sa sn sc]] w fun e w' => ∃ u, e = .returned u ∧ SpR w' u (ofL ⟨[], op, v, []⟩) ∧ Ext w w' := by
  by_cases ho : op < 2 ∨ 8 < op
  · exact of_0 w nm op v sa sn sc hn hs ho
  · have h : op = 2 ∨ op = 3 ∨ op = 4 ∨ op = 5 ∨ op = 6 ∨ op = 7 ∨ op = 8 := by omega
    rcases h with rfl | rfl | rfl | rfl | rfl | rfl | rfl
    · exact of_2 w nm v sa sn sc hn hs
    · exact of_3 w nm v sa sn sc hn hs
    · exact of_4 w nm v sa sn sc hn hs
    · exact of_5 w nm v sa sn sc hn hs
    · exact of_6 w nm v sa sn sc hn hs
    · exact of_7 w nm v sa sn sc hn hs
    · exact of_8 w nm v sa sn sc hn hs
end Go.Proofs.YtlhbpflcffjhmaaGreat

namespace Go.Proofs.YtlhbpflcffjhmaaGreat
open Go.RowKit

theorem minus_few {r q : Rg} (hr : Rises r) (hq : Fulls q) {m n : Nat} (h1 : Few m r) (h2 : Few n q) : Few (m + n) (r.minus q) := Few.minus hr hq h1 h2

set_option maxRecDepth 100000 in
set_option maxHeartbeats 4000000 in
theorem within_any (w : World) (v1 v2 : Value) (r q : Rg) (h1 : RgR w v1 r) (h2 : RgR w v2 q) (hr : Rises r) (hq : Fulls q) (hf1 : Few 400000 r) (hf2 : Few 400000 q) :
    Calls Tryz.prog 38 #[v1, v2] w fun e w' => e = .returned (.bool (r.within q)) ∧ Ext w w' := by
  obtain ⟨a1, c1, a2, c2, a3, c3, rfl, k1, k2, k3⟩ := h1.ex
  obtain ⟨b1, d1, b2, d2, b3, d3, rfl, j1, j2, j3⟩ := h2.ex
  have hx0 : Ext w ((w.alloc (.cells #[.slice a1 r.i.length c1, .slice a2 r.s.length c2, .slice a3 r.b.length c3, .bool r.odd] 72)).alloc (.cells #[.slice b1 q.i.length d1, .slice b2 q.s.length d2, .slice b3 q.b.length d3, .bool q.odd] 72)) := ((Ext.refl w).alloc _).alloc _
  have hcall := minusR_any _ _ _ r q (h1.ext hx0) (h2.ext hx0) hr hq hf1 hf2
  have HC := Lib.hid hcall
  clear hcall h1 h2 k1 k2 k3 j1 j2 j3
  unfold Rg.within
  go_enter Tryz.func38, Tryz.ntmps38
  go_wp2_with fail
  refine HC.out.mono ?_
  rintro e w2 ⟨v, rfl, hv, hx2⟩
  have hem := empty_any w2 v _ hv
  go_wp2_with fail
  refine hem.mono ?_
  rintro e w3 ⟨rfl, hx3⟩
  go_wp2_with fail
  go_ret
  exact ⟨rfl, hx0.trans (hx2.trans hx3)⟩

end Go.Proofs.YtlhbpflcffjhmaaGreat

namespace Go.Proofs.YtlhbpflcffjhmaaGreat
open Go.RowKit

def Fact.rg (r : Rg) : Fact := ⟨fun v w => RgR w v r, fun _ _ _ hx h => h.ext hx⟩

set_option maxRecDepth 100000 in
set_option maxHeartbeats 8000000 in
theorem andR_any (w : World) (v1 v2 : Value) (r q : Rg) (h1 : RgR w v1 r) (h2 : RgR w v2 q) (hr : Rises r) (hq : Fulls q) (hf1 : Few 100000 r) (hf2 : Few 100000 q) :
    Calls Tryz.prog 83 #[v1, v2] w fun e w' => ∃ v, e = .returned v ∧ RgR w' v (r.and q) ∧ Ext w w' := by
  obtain ⟨a1, c1, a2, c2, a3, c3, rfl, k1, k2, k3⟩ := h1.ex
  obtain ⟨b1, d1, b2, d2, b3, d3, rfl, j1, j2, j3⟩ := h2.ex
  obtain ⟨hx0, hR, hQ, hT⟩ := boxes3 w (.cells #[.slice a1 r.i.length c1, .slice a2 r.s.length c2, .slice a3 r.b.length c3, .bool r.odd] 72) (.cells #[.slice b1 q.i.length d1, .slice b2 q.s.length d2, .slice b3 q.b.length d3, .bool q.odd] 72) (.cells #[.slice none 0 0, .slice none 0 0, .slice none 0 0, .bool false] 72)
  have hC1 : ∀ W, Ext w W → Calls Tryz.prog 85 #[.agg #[.slice a1 r.i.length c1, .slice a2 r.s.length c2, .slice a3 r.b.length c3, .bool r.odd], .agg #[.slice b1 q.i.length d1, .slice b2 q.s.length d2, .slice b3 q.b.length d3, .bool q.odd]] W fun e w' => ∃ v, e = .returned v ∧ RgR w' v (r.minus q) ∧ Ext W w' := fun W hW => minusR_any W _ _ r q (h1.ext hW) (h2.ext hW) hr hq (hf1.mono (by omega)) (hf2.mono (by omega))
  have hC2 : ∀ W va, Ext w W → RgR W va (r.minus q) → Calls Tryz.prog 85 #[.agg #[.slice a1 r.i.length c1, .slice a2 r.s.length c2, .slice a3 r.b.length c3, .bool r.odd], va] W fun e w' => ∃ v, e = .returned v ∧ RgR w' v (r.and q) ∧ Ext W w' := fun W va hW hva => minusR_any W _ _ r (r.minus q) (h1.ext hW) hva hr (hr.minus hq).full (hf1.mono (by omega)) ((Few.minus hr hq hf1 hf2).mono (by omega))
  have HC1 := Lib.hid hC1
  have HC2 := Lib.hid hC2
  have HT := Lib.hid hT
  have r0 := cell_of_row _ _ 0 _ _ _ hR
  have r1 := cell_of_row _ _ 1 _ _ _ hR
  have r2 := cell_of_row _ _ 2 _ _ _ hR
  have r3 := cell_of_row _ _ 3 _ _ _ hR
  have q0 := cell_of_row _ _ 0 _ _ _ hQ
  have q1 := cell_of_row _ _ 1 _ _ _ hQ
  have q2 := cell_of_row _ _ 2 _ _ _ hQ
  have q3 := cell_of_row _ _ 3 _ _ _ hQ
  clear hC1 hC2 h1 h2 k1 k2 k3 j1 j2 j3 hr hq hf1 hf2 hR hQ hT
  go_enter Tryz.func83, Tryz.ntmps83
  go_upto_region 1 with fail
  generalize ((w.alloc (.cells #[.slice a1 r.i.length c1, .slice a2 r.s.length c2, .slice a3 r.b.length c3, .bool r.odd] 72)).alloc (.cells #[.slice b1 q.i.length d1, .slice b2 q.s.length d2, .slice b3 q.b.length d3, .bool q.odd] 72)).alloc (.cells #[.slice none 0 0, .slice none 0 0, .slice none 0 0, .bool false] 72) = w0 at *
  refine wp_region_chain 5 [Fact.eq (.agg #[.slice a1 r.i.length c1, .slice a2 r.s.length c2, .slice a3 r.b.length c3, .bool r.odd]),
      Fact.eq (.agg #[.slice a1 r.i.length c1, .slice a2 r.s.length c2, .slice a3 r.b.length c3, .bool r.odd]),
      Fact.eq (.agg #[.slice b1 q.i.length d1, .slice b2 q.s.length d2, .slice b3 q.b.length d3, .bool q.odd]),
      Fact.rg (r.minus q),
      Fact.rg (r.and q)]
    [[], [], [], [(1, 6), (2, 7)], [(0, 5), (3, 8)]]
    [(0, 5), (1, 6), (2, 7), (3, 8), (4, 9)] (by kernel_rfl) (by kernel_rfl) ?_ ?_
  · refine ⟨?_, ?_, ?_, ?_, ?_, trivial⟩
    · intro w1 hx1; change wpList _ _ _ _ _ _; have m0 := hx1.cell r0; have m1 := hx1.cell r1; have m2 := hx1.cell r2; have m3 := hx1.cell r3; go_wp2_with fail; exact ⟨rfl, Ext.refl _, rfl, rfl⟩
    · intro w1 hx1; change wpList _ _ _ _ _ _; have m0 := hx1.cell r0; have m1 := hx1.cell r1; have m2 := hx1.cell r2; have m3 := hx1.cell r3; go_wp2_with fail; exact ⟨rfl, Ext.refl _, rfl, rfl⟩
    · intro w1 hx1; change wpList _ _ _ _ _ _; have m0 := hx1.cell q0; have m1 := hx1.cell q1; have m2 := hx1.cell q2; have m3 := hx1.cell q3; go_wp2_with fail; exact ⟨rfl, Ext.refl _, rfl, rfl⟩
    · intro w1 hx1; rintro _ rfl; rintro _ rfl; change wpList _ _ _ _ _ _; go_wp2_with fail; refine (HC1.out w1 (hx0.trans hx1)).mono ?_; rintro e w2 ⟨va, rfl, hA, hx2⟩; go_wp2_with fail; exact ⟨rfl, hx2, rfl, hA⟩
    · intro w1 hx1; rintro _ rfl; intro v8 h8; change wpList _ _ _ _ _ _; go_wp2_with fail; refine (HC2.out w1 v8 (hx0.trans hx1) h8).mono ?_; rintro e w2 ⟨va, rfl, hA, hx2⟩; go_wp2_with fail; exact ⟨rfl, hx2, rfl, hA⟩
  · intro w1 hx1; rintro _ rfl; rintro _ rfl; rintro _ rfl; intro v8 h8; intro v9 h9; refine depsThen_nil ?_; dsimp only; simp only [Act.put, List.setIfInBounds_toArray, List.set_cons_zero, List.set_cons_succ, List.drop_succ_cons, List.drop_zero]
    replace h8 : (Fact.rg (r.minus q)).p v8 w1 := h8
    replace h9 : (Fact.rg (r.and q)).p v9 w1 := h9
    have h9' : RgR w1 v9 (r.and q) := h9
    obtain ⟨x1, y1, x2, y2, x3, y3, rfl, p1, p2, p3⟩ := h9'.ex
    have HT1 := Lib.hid (block_later HT.out hx1)
    have hxw := hx0.trans hx1
    have P1 := Lib.hid p1
    have P2 := Lib.hid p2
    have P3 := Lib.hid p3
    clear h8 h9 h9' r0 r1 r2 r3 q0 q1 q2 q3 HC1 HC2 p1 p2 p3 hx1 hx0
    go_wp2_with (refine wpList_store_whole 72 (.tmp 4) (.tmp 9) rfl rfl (w.heap.size + 1 + 1) rfl #[.slice x1 (r.and q).i.length y1, .slice x2 (r.and q).s.length y2, .slice x3 (r.and q).b.length y3, .bool (r.and q).odd] rfl _ 72 HT1.out rfl info72s (by simp [Value.oneCell']) ?_)
    have hq := setRow_heap _ _ _ #[.slice x1 (r.and q).i.length y1, .slice x2 (r.and q).s.length y2, .slice x3 (r.and q).b.length y3, .bool (r.and q).odd] _ _ HT1.out
    have g0 := cell_of_row _ _ 0 _ _ _ hq
    have g1 := cell_of_row _ _ 1 _ _ _ hq
    have g2 := cell_of_row _ _ 2 _ _ _ hq
    have g3 := cell_of_row _ _ 3 _ _ _ hq
    refine bodyPost_ret (v := .agg #[.slice x1 (r.and q).i.length y1, .slice x2 (r.and q).s.length y2, .slice x3 (r.and q).b.length y3, .bool (r.and q).odd]) (by simp [results, Tryz.results83, go_sem, g0, g1, g2, g3]) rfl ⟨_, rfl, ?_, hxw.setRow (by omega) _⟩
    exact RgR.of (spr_setRow P1.out HT1.out (by simp)) (spr_setRow P2.out HT1.out (by simp)) (spr_setRow P3.out HT1.out (by simp))
end Go.Proofs.YtlhbpflcffjhmaaGreat

namespace Go.Proofs.YtlhbpflcffjhmaaGreat
open Go.RowKit

theorem spr_step {W W' : World} {h : Value} {l : List Sp} (k : SpR W h l) {b : Nat} {c : Array Value} {t : TypeId} {fr : Nat × Nat} (hb : W.heap[b]? = some (.cells c t fr)) (hc : ∀ s, Value.string s ∉ c.toList) (ho : ∀ i, i < W.heap.size → i ≠ b → W'.heap[i]? = W.heap[i]?) : SpR W' h l := by
  rcases spr_apart k hb hc with rfl | ⟨B, o, n, cap, rfl, hne⟩
  · obtain ⟨h1, a, cap, e, h3, h4, h5, h6, _⟩ := k
    exact ⟨h1, a, cap, e, h3, h4, h5, h6, fun j u hj => by simp at hj⟩
  · obtain ⟨h1, a, cap, e, h3, h4, h5, h6, h7⟩ := k
    simp only [Value.slice.injEq] at e
    obtain ⟨rfl, rfl, rfl⟩ := e
    refine ⟨h1, _, _, rfl, h3, h4, h5, h6, fun j u hj => ?_⟩
    obtain ⟨p, e2, hcl⟩ := h7 j u hj
    cases e2
    refine ⟨_, rfl, ?_⟩
    have hlt := World.block_lt_of_cell? W ⟨B, o + j, none⟩ hcl
    rw [World.cell?_of_block (a := ⟨B, o + j, none⟩) (ho B hlt hne)]
    exact hcl
/-- Block b holds a region that reads as r. -/
def GoodR (b : Nat) (r : Rg) (w : World) : Prop := ∃ cs, w.heap[b]? = some (.cells cs 72 (0, 0)) ∧ RgR w (.agg cs) r
theorem GoodR.no {r : Rg} {w : World} {cs : Array Value} (h : RgR w (.agg cs) r) : ∀ s, Value.string s ∉ cs.toList := by
  obtain ⟨a1, c1, a2, c2, a3, c3, e, _⟩ := h.ex
  cases e
  simp
theorem GoodR.step {b : Nat} {r : Rg} {w w' : World} (h : GoodR b r w) (ho : ∀ i, i < w.heap.size → i ≠ b → w'.heap[i]? = w.heap[i]?) (hb : w'.heap[b]? = w.heap[b]?) : GoodR b r w' := by
  obtain ⟨cs, h1, h2⟩ := h
  have hno := GoodR.no h2
  refine ⟨cs, hb.trans h1, ?_⟩
  obtain ⟨a1, c1, a2, c2, a3, c3, e, k1, k2, k3⟩ := h2.ex
  exact ⟨a1, c1, a2, c2, a3, c3, e, spr_step k1 h1 hno ho, spr_step k2 h1 hno ho, spr_step k3 h1 hno ho⟩
structure StG (b : Nat) (r : Rg) (w w' : World) : Prop where
  os : w'.os = w.os
  tape : w'.tape = w.tape
  output : w'.output = w.output
  size : w.heap.size ≤ w'.heap.size
  block : ∀ k, k < w.heap.size → k ≠ b → w'.heap[k]? = w.heap[k]?
  hb : b < w.heap.size → w'.heap[b]? = w.heap[b]? ∨ GoodR b r w'
theorem StG.of_ext {b : Nat} {r : Rg} {w w' : World} (h : Ext w w') : StG b r w w' := ⟨h.os, h.tape, h.output, h.size, fun k hk _ => h.block k hk, fun hk => .inl (h.block b hk)⟩
theorem StG.trans {b : Nat} {r : Rg} {x y z : World} (h : StG b r x y) (k : StG b r y z) : StG b r x z := by
  refine ⟨k.os.trans h.os, k.tape.trans h.tape, k.output.trans h.output, Nat.le_trans h.size k.size, fun i hi h1 => (k.block i (Nat.lt_of_lt_of_le hi h.size) h1).trans (h.block i hi h1), fun hb => ?_⟩
  rcases k.hb (Nat.lt_of_lt_of_le hb h.size) with e | e
  · rcases h.hb hb with e2 | e2
    · exact .inl (e.trans e2)
    · exact .inr (e2.step k.block e)
  · exact .inr e
def StepG (b : Nat) (r : Rg) : Rg.Step := ⟨StG b r, fun w => StG.of_ext (Ext.refl w), fun h k => h.trans k, fun w => StG.of_ext (Ext.refl w).drew⟩
theorem StG.good {b : Nat} {r : Rg} {w w' : World} (h : StG b r w w') (k : GoodR b r w) : GoodR b r w' := by
  obtain ⟨cs, h1, h2⟩ := k
  rcases h.hb (Array.getElem?_eq_some_iff.1 h1).1 with e | e
  · exact GoodR.step ⟨cs, h1, h2⟩ h.block e
  · exact e
end Go.Proofs.YtlhbpflcffjhmaaGreat

namespace Go.Proofs.YtlhbpflcffjhmaaGreat
open Go.RowKit Go.Sort

theorem fst2 {a b : Nat} : a ≤ a + 1 + b := by omega
/-- One of a region's boxes is filled. -/
theorem set_box {W : World} {b : Nat} {k : Int} (hk : k = 1 ∨ k = 2 ∨ k = 3) {u : Value} {l : List Sp} (hu : SpR W u l) (hb : W.heap[b]? = some (.cells #[.slice none 0 0, .slice none 0 0, .slice none 0 0, .bool false] 72 (0, 0))) :
    W.cell? ⟨b, k.toNat - 1, none⟩ = some (.slice none 0 0) ∧ W.frozen? ⟨b, k.toNat - 1, none⟩ = false ∧ ∃ z1 z2 z3, (W.setCell ⟨b, k.toNat - 1, none⟩ u).heap[b]? = some (.cells #[z1, z2, z3, .bool false] 72 (0, 0)) ∧ RgR (W.setCell ⟨b, k.toNat - 1, none⟩ u) (.agg #[z1, z2, z3, .bool false]) (setR k l) := by
  have hnil : ∀ W, SpR W (.slice none 0 0) [] := fun W => SpR.nil W
  rcases hk with rfl | rfl | rfl
  · refine ⟨cell_of_row _ _ 0 _ _ _ hb, by simp [World.frozen?, hb], _, _, _, setCell_block W b 0 u _ _ _ hb, ?_⟩
    exact RgR.of (r := ⟨l, [], [], false⟩) (spr_setCell hu 0 u hb (by simp)) (hnil _) (hnil _)
  · refine ⟨cell_of_row _ _ 1 _ _ _ hb, by simp [World.frozen?, hb], _, _, _, setCell_block W b 1 u _ _ _ hb, ?_⟩
    exact RgR.of (r := ⟨[], l, [], false⟩) (hnil _) (spr_setCell hu 1 u hb (by simp)) (hnil _)
  · refine ⟨cell_of_row _ _ 2 _ _ _ hb, by simp [World.frozen?, hb], _, _, _, setCell_block W b 2 u _ _ _ hb, ?_⟩
    exact RgR.of (r := ⟨[], [], l, false⟩) (hnil _) (hnil _) (spr_setCell hu 2 u hb (by simp))
theorem rgr_set {W : World} {v : Value} {r : Rg} (h : RgR W v r) {b : Nat} {cs c : Array Value} {t : TypeId} {fr : Nat × Nat} (hb : W.heap[b]? = some (.cells c t fr)) (hc : ∀ s, Value.string s ∉ c.toList) : RgR (W.setRow b cs) v r := by
  obtain ⟨a1, c1, a2, c2, a3, c3, rfl, h1, h2, h3⟩ := h.ex
  exact ⟨a1, c1, a2, c2, a3, c3, rfl, spr_setRow h1 hb hc, spr_setRow h2 hb hc, spr_setRow h3 hb hc⟩
theorem mayV_k {v : V} (h : mayV v = true) : (v.k = 1 ∨ v.k = 2 ∨ v.k = 3) ∧ v.s.length ≤ 32 := by
  unfold mayV at h
  split at h
  · rename_i h1
    simp only [Bool.and_eq_true] at h
    exact ⟨.inl h1, by simp_all⟩
  · split at h
    · rename_i h2
      simp only [Bool.and_eq_true, decide_eq_true_eq] at h
      exact ⟨.inr (.inl h2), by simp_all⟩
    · split at h
      · rename_i h3
        simp only [Bool.and_eq_true, decide_eq_true_eq] at h
        exact ⟨.inr (.inr h3), by simp_all⟩
      · cases h

def Fact.sp (l : List Sp) : Fact := ⟨fun v w => SpR w v l, fun _ _ _ hx h => h.ext hx⟩

set_option maxRecDepth 100000 in
set_option maxHeartbeats 8000000 in
theorem Of_no (w : World) (c : C) (sa : Option Addr) (sc : Nat) (hs : SetR w (.slice sa c.set.length sc) c.set) (hm : mayC c = false) :
    Calls Tryz.prog 82 #[.agg #[.string (strOf c.name), .int .i64 c.op, .int .i64 c.v.k, .int .i64 c.v.n, .string (strOf c.v.s), .bool c.v.b, .slice sa c.set.length sc]] w fun e w' => ∃ v, e = .returned (.tuple #[v, .int .i64 30]) ∧ RgR w' v noneR ∧ Ext w w' := by
  obtain ⟨hx0, hC, hT, hQ⟩ := boxes3 w (.cells #[.string (strOf c.name), .int .i64 c.op, .int .i64 c.v.k, .int .i64 c.v.n, .string (strOf c.v.s), .bool c.v.b, .slice sa c.set.length sc] 64) (.cells #[.slice none 0 0, .slice none 0 0, .slice none 0 0, .bool false] 72) (.cells #[.slice none 0 0, .slice none 0 0, .slice none 0 0, .bool false] 72)
  have hcall := maycons_any (((w.alloc (.cells #[.string (strOf c.name), .int .i64 c.op, .int .i64 c.v.k, .int .i64 c.v.n, .string (strOf c.v.s), .bool c.v.b, .slice sa c.set.length sc] 64)).alloc (.cells #[.slice none 0 0, .slice none 0 0, .slice none 0 0, .bool false] 72)).alloc (.cells #[.slice none 0 0, .slice none 0 0, .slice none 0 0, .bool false] 72)) c sa sc (hs.ext hx0)
  obtain ⟨_, _, es, hcs, hms⟩ := Row.shape hs
  simp only [Value.slice.injEq] at es
  obtain ⟨rfl, _, rfl⟩ := es
  unfold maxLen at hms
  rw [hm] at hcall
  have HC := Lib.hid hC
  have HT := Lib.hid hT
  have HQ := Lib.hid hQ
  have HS := Lib.hid hs
  have HCALL := Lib.hid hcall
  have c0 := cell_of_row _ _ 0 _ _ _ hC
  have c1 := cell_of_row _ _ 1 _ _ _ hC
  have c2 := cell_of_row _ _ 2 _ _ _ hC
  have c3 := cell_of_row _ _ 3 _ _ _ hC
  have c4 := cell_of_row _ _ 4 _ _ _ hC
  have c5 := cell_of_row _ _ 5 _ _ _ hC
  have c6 := cell_of_row _ _ 6 _ _ _ hC
  clear hC hT hQ hs hcall
  generalize hN : c.set.length = N at *
  have HN := Lib.hid hN
  clear hN
  go_enter Tryz.func82, Tryz.ntmps82
  go_upto_region 2 with fail
  generalize ((w.alloc (.cells #[.string (strOf c.name), .int .i64 c.op, .int .i64 c.v.k, .int .i64 c.v.n, .string (strOf c.v.s), .bool c.v.b, .slice sa N sc] 64)).alloc (.cells #[.slice none 0 0, .slice none 0 0, .slice none 0 0, .bool false] 72)).alloc (.cells #[.slice none 0 0, .slice none 0 0, .slice none 0 0, .bool false] 72) = w0 at *
  go_wp2_with fail
  refine HCALL.out.mono ?_
  rintro e y1 ⟨rfl, hy1⟩
  have hxw := hx0.trans hy1
  have c0 := hy1.cell c0
  have c1 := hy1.cell c1
  have c2 := hy1.cell c2
  have c3 := hy1.cell c3
  have c4 := hy1.cell c4
  have c5 := hy1.cell c5
  have c6 := hy1.cell c6
  have HC := Lib.hid (block_later HC.out hy1)
  have HT := Lib.hid (block_later HT.out hy1)
  have HQ := Lib.hid (block_later HQ.out hy1)
  clear hy1 hx0
  have q0 := cell_of_row _ _ 0 _ _ _ HQ.out
  have q1 := cell_of_row _ _ 1 _ _ _ HQ.out
  have q2 := cell_of_row _ _ 2 _ _ _ HQ.out
  have q3 := cell_of_row _ _ 3 _ _ _ HQ.out
  go_wp2_with (refine wpList_store_whole 72 (.tmp 2) (.tmp 13) rfl rfl (w.heap.size + 1) rfl #[.slice none 0 0, .slice none 0 0, .slice none 0 0, .bool false] rfl _ 72 HT.out rfl info72s (by simp [Value.oneCell']) ?_)
  have hq := setRow_heap _ _ _ #[.slice none 0 0, .slice none 0 0, .slice none 0 0, .bool false] _ _ HT.out
  have g0 := cell_of_row _ _ 0 _ _ _ hq
  have g1 := cell_of_row _ _ 1 _ _ _ hq
  have g2 := cell_of_row _ _ 2 _ _ _ hq
  have g3 := cell_of_row _ _ 3 _ _ _ hq
  refine bodyPost_ret (v := .tuple #[.agg #[.slice none 0 0, .slice none 0 0, .slice none 0 0, .bool false], .int .i64 30]) (by simp [results, Tryz.results82, go_sem, g0, g1, g2, g3]) rfl ⟨.agg #[.slice none 0 0, .slice none 0 0, .slice none 0 0, .bool false], rfl, ?_, (hxw).setRow (by omega) _⟩
  exact rgr_set (RgR.of (r := noneR) (SpR.nil _) (SpR.nil _) (SpR.nil _)) HT.out (by simp)

set_option maxRecDepth 100000 in
set_option maxHeartbeats 8000000 in
theorem Of_has (w : World) (c : C) (sa : Option Addr) (sc : Nat) (hs : SetR w (.slice sa c.set.length sc) c.set) (hm : mayC c = true) (h1 : c.op = 1) :
    Calls Tryz.prog 82 #[.agg #[.string (strOf c.name), .int .i64 c.op, .int .i64 c.v.k, .int .i64 c.v.n, .string (strOf c.v.s), .bool c.v.b, .slice sa c.set.length sc]] w fun e w' => ∃ v, e = .returned (.tuple #[v, .int .i64 0]) ∧ RgR w' v allR ∧ Ext w w' := by
  obtain ⟨hx0, hC, hT, hQ⟩ := boxes3 w (.cells #[.string (strOf c.name), .int .i64 c.op, .int .i64 c.v.k, .int .i64 c.v.n, .string (strOf c.v.s), .bool c.v.b, .slice sa c.set.length sc] 64) (.cells #[.slice none 0 0, .slice none 0 0, .slice none 0 0, .bool false] 72) (.cells #[.slice none 0 0, .slice none 0 0, .slice none 0 0, .bool false] 72)
  have hcall := maycons_any (((w.alloc (.cells #[.string (strOf c.name), .int .i64 c.op, .int .i64 c.v.k, .int .i64 c.v.n, .string (strOf c.v.s), .bool c.v.b, .slice sa c.set.length sc] 64)).alloc (.cells #[.slice none 0 0, .slice none 0 0, .slice none 0 0, .bool false] 72)).alloc (.cells #[.slice none 0 0, .slice none 0 0, .slice none 0 0, .bool false] 72)) c sa sc (hs.ext hx0)
  obtain ⟨_, _, es, hcs, hms⟩ := Row.shape hs
  simp only [Value.slice.injEq] at es
  obtain ⟨rfl, _, rfl⟩ := es
  unfold maxLen at hms
  rw [hm] at hcall
  have d1 : (c.op == 1) = true := beq_iff_eq.2 h1
  clear h1
  have HC := Lib.hid hC
  have HT := Lib.hid hT
  have HQ := Lib.hid hQ
  have HS := Lib.hid hs
  have HCALL := Lib.hid hcall
  have c0 := cell_of_row _ _ 0 _ _ _ hC
  have c1 := cell_of_row _ _ 1 _ _ _ hC
  have c2 := cell_of_row _ _ 2 _ _ _ hC
  have c3 := cell_of_row _ _ 3 _ _ _ hC
  have c4 := cell_of_row _ _ 4 _ _ _ hC
  have c5 := cell_of_row _ _ 5 _ _ _ hC
  have c6 := cell_of_row _ _ 6 _ _ _ hC
  clear hC hT hQ hs hcall
  generalize hN : c.set.length = N at *
  have HN := Lib.hid hN
  clear hN
  go_enter Tryz.func82, Tryz.ntmps82
  go_upto_region 2 with fail
  generalize ((w.alloc (.cells #[.string (strOf c.name), .int .i64 c.op, .int .i64 c.v.k, .int .i64 c.v.n, .string (strOf c.v.s), .bool c.v.b, .slice sa N sc] 64)).alloc (.cells #[.slice none 0 0, .slice none 0 0, .slice none 0 0, .bool false] 72)).alloc (.cells #[.slice none 0 0, .slice none 0 0, .slice none 0 0, .bool false] 72) = w0 at *
  go_wp2_with fail
  refine HCALL.out.mono ?_
  rintro e y1 ⟨rfl, hy1⟩
  have hxw := hx0.trans hy1
  have c0 := hy1.cell c0
  have c1 := hy1.cell c1
  have c2 := hy1.cell c2
  have c3 := hy1.cell c3
  have c4 := hy1.cell c4
  have c5 := hy1.cell c5
  have c6 := hy1.cell c6
  have HC := Lib.hid (block_later HC.out hy1)
  have HT := Lib.hid (block_later HT.out hy1)
  have HQ := Lib.hid (block_later HQ.out hy1)
  clear hy1 hx0
  go_wp2_with fail
  refine (all_any _).mono ?_
  rintro e y2 ⟨v, rfl, hv, hy2⟩
  obtain ⟨b1, e1, b2, e2, b3, e3, rfl, p1, p2, p3⟩ := hv.ex
  have HV := Lib.hid hv
  have HT := Lib.hid (block_later HT.out hy2)
  have hxw := hxw.trans hy2
  clear hv p1 p2 p3 hy2
  go_wp2_with (refine wpList_store_whole 72 (.tmp 2) (.tmp 18) rfl rfl (w.heap.size + 1) rfl #[.slice b1 allR.i.length e1, .slice b2 allR.s.length e2, .slice b3 allR.b.length e3, .bool allR.odd] rfl _ 72 HT.out rfl info72s (by simp [Value.oneCell']) ?_)
  have hq := setRow_heap _ _ _ #[.slice b1 allR.i.length e1, .slice b2 allR.s.length e2, .slice b3 allR.b.length e3, .bool allR.odd] _ _ HT.out
  have g0 := cell_of_row _ _ 0 _ _ _ hq
  have g1 := cell_of_row _ _ 1 _ _ _ hq
  have g2 := cell_of_row _ _ 2 _ _ _ hq
  have g3 := cell_of_row _ _ 3 _ _ _ hq
  refine bodyPost_ret (v := .tuple #[.agg #[.slice b1 allR.i.length e1, .slice b2 allR.s.length e2, .slice b3 allR.b.length e3, .bool allR.odd], .int .i64 0]) (by simp [results, Tryz.results82, go_sem, g0, g1, g2, g3]) rfl ⟨.agg #[.slice b1 allR.i.length e1, .slice b2 allR.s.length e2, .slice b3 allR.b.length e3, .bool allR.odd], rfl, ?_, (hxw).setRow (by omega) _⟩
  exact rgr_set HV.out HT.out (by simp)

set_option maxRecDepth 100000 in
set_option maxHeartbeats 8000000 in
theorem Of_val (w : World) (c : C) (sa : Option Addr) (sc : Nat) (hs : SetR w (.slice sa c.set.length sc) c.set) (hm : mayC c = true) (h1 : c.op ≠ 1) (h9 : c.op ≠ 9) (hk : c.v.k = 1 ∨ c.v.k = 2 ∨ c.v.k = 3) (hn : okN c.v.n) (hv : c.v.s.length ≤ 140737488355328) :
    Calls Tryz.prog 82 #[.agg #[.string (strOf c.name), .int .i64 c.op, .int .i64 c.v.k, .int .i64 c.v.n, .string (strOf c.v.s), .bool c.v.b, .slice sa c.set.length sc]] w fun e w' => ∃ v, e = .returned (.tuple #[v, .int .i64 0]) ∧ RgR w' v (setR c.v.k (ofL c)) ∧ Ext w w' := by
  obtain ⟨hx0, hC, hT, hQ⟩ := boxes3 w (.cells #[.string (strOf c.name), .int .i64 c.op, .int .i64 c.v.k, .int .i64 c.v.n, .string (strOf c.v.s), .bool c.v.b, .slice sa c.set.length sc] 64) (.cells #[.slice none 0 0, .slice none 0 0, .slice none 0 0, .bool false] 72) (.cells #[.slice none 0 0, .slice none 0 0, .slice none 0 0, .bool false] 72)
  have hcall := maycons_any (((w.alloc (.cells #[.string (strOf c.name), .int .i64 c.op, .int .i64 c.v.k, .int .i64 c.v.n, .string (strOf c.v.s), .bool c.v.b, .slice sa c.set.length sc] 64)).alloc (.cells #[.slice none 0 0, .slice none 0 0, .slice none 0 0, .bool false] 72)).alloc (.cells #[.slice none 0 0, .slice none 0 0, .slice none 0 0, .bool false] 72)) c sa sc (hs.ext hx0)
  obtain ⟨_, _, es, hcs, hms⟩ := Row.shape hs
  simp only [Value.slice.injEq] at es
  obtain ⟨rfl, _, rfl⟩ := es
  unfold maxLen at hms
  rw [hm] at hcall
  have d1 := beq_int_ne h1
  have d9 := beq_int_ne h9
  have hof := fun W => of_any W (strOf c.name) c.op c.v sa c.set.length sc hn hv
  have hol : ofL ⟨[], c.op, c.v, []⟩ = ofL c := rfl
  rw [hol] at hof
  have HOF := Lib.hid hof
  have HK := Lib.hid hk
  have hb1 : 1 ≤ c.v.k := by omega
  have hb2 : c.v.k ≤ 3 := by omega
  have hb3 : (0 : Int) ≤ c.v.k - 1 := by omega
  have hb4 : c.v.k - 1 < 3 := by omega
  clear h1 h9 hk hn hv hof hol
  generalize ofL c = L at *
  have HC := Lib.hid hC
  have HT := Lib.hid hT
  have HQ := Lib.hid hQ
  have HS := Lib.hid hs
  have HCALL := Lib.hid hcall
  have c0 := cell_of_row _ _ 0 _ _ _ hC
  have c1 := cell_of_row _ _ 1 _ _ _ hC
  have c2 := cell_of_row _ _ 2 _ _ _ hC
  have c3 := cell_of_row _ _ 3 _ _ _ hC
  have c4 := cell_of_row _ _ 4 _ _ _ hC
  have c5 := cell_of_row _ _ 5 _ _ _ hC
  have c6 := cell_of_row _ _ 6 _ _ _ hC
  clear hC hT hQ hs hcall
  generalize hN : c.set.length = N at *
  have HN := Lib.hid hN
  clear hN
  go_enter Tryz.func82, Tryz.ntmps82
  go_upto_region 2 with fail
  generalize ((w.alloc (.cells #[.string (strOf c.name), .int .i64 c.op, .int .i64 c.v.k, .int .i64 c.v.n, .string (strOf c.v.s), .bool c.v.b, .slice sa N sc] 64)).alloc (.cells #[.slice none 0 0, .slice none 0 0, .slice none 0 0, .bool false] 72)).alloc (.cells #[.slice none 0 0, .slice none 0 0, .slice none 0 0, .bool false] 72) = w0 at *
  go_wp2_with fail
  refine HCALL.out.mono ?_
  rintro e y1 ⟨rfl, hy1⟩
  have hxw := hx0.trans hy1
  have c0 := hy1.cell c0
  have c1 := hy1.cell c1
  have c2 := hy1.cell c2
  have c3 := hy1.cell c3
  have c4 := hy1.cell c4
  have c5 := hy1.cell c5
  have c6 := hy1.cell c6
  have HC := Lib.hid (block_later HC.out hy1)
  have HT := Lib.hid (block_later HT.out hy1)
  have HQ := Lib.hid (block_later HQ.out hy1)
  clear hy1 hx0
  go_upto_region 17 with fail
  refine wp_region_chain 8 [Fact.eq (.pointer (some ⟨w.heap.size, 2, none⟩)),
      Fact.eq (.pointer (some ⟨w.heap.size, 2, none⟩)),
      Fact.eq (.int .i64 c.v.k),
      Fact.eq (.int .i64 (c.v.k - 1)),
      Fact.eq (.agg #[.string (strOf c.name), .int .i64 c.op, .int .i64 c.v.k, .int .i64 c.v.n, .string (strOf c.v.s), .bool c.v.b, .slice sa N sc]),
      Fact.sp L,
      Fact.eq (.pointer (some ⟨w.heap.size + 1 + 1, 0, none⟩)),
      Fact.eq (.pointer (some ⟨w.heap.size + 1 + 1, (c.v.k - 1).toNat, none⟩))]
    [[], [(0, 47)], [(1, 48)], [(2, 49)], [], [(4, 51)], [], [(6, 53), (3, 50)]]
    [(0, 47), (1, 48), (2, 49), (3, 50), (4, 51), (5, 52), (6, 53), (7, 54)] (by kernel_rfl) (by kernel_rfl) ?_ ?_
  · refine ⟨?_, ?_, ?_, ?_, ?_, ?_, ?_, ?_, trivial⟩
    · intro w1 hx1; change wpList _ _ _ _ _ _; go_wp2_with fail; exact ⟨rfl, Ext.refl _, rfl, rfl⟩
    · intro w1 hx1; rintro _ rfl; change wpList _ _ _ _ _ _; go_wp2_with fail; exact ⟨rfl, Ext.refl _, rfl, rfl⟩
    · intro w1 hx1; rintro _ rfl; change wpList _ _ _ _ _ _; have m := hx1.cell c2; go_wp2_with fail; exact ⟨rfl, Ext.refl _, rfl, rfl⟩
    · intro w1 hx1; rintro _ rfl; change wpList _ _ _ _ _ _; go_wp2_with fail; exact ⟨rfl, Ext.refl _, rfl, rfl⟩
    · intro w1 hx1; change wpList _ _ _ _ _ _; have m0 := hx1.cell c0; have m1 := hx1.cell c1; have m2 := hx1.cell c2; have m3 := hx1.cell c3; have m4 := hx1.cell c4; have m5 := hx1.cell c5; have m6 := hx1.cell c6; go_wp2_with fail; exact ⟨rfl, Ext.refl _, rfl, rfl⟩
    · intro w1 hx1; rintro _ rfl; change wpList _ _ _ _ _ _; go_wp2_with fail; refine (HOF.out w1).mono ?_; rintro e w2 ⟨u, rfl, hu, hx2⟩; go_wp2_with fail; exact ⟨rfl, hx2, rfl, hu⟩
    · intro w1 hx1; change wpList _ _ _ _ _ _; go_wp2_with fail; exact ⟨rfl, Ext.refl _, rfl, rfl⟩
    · intro w1 hx1; rintro _ rfl; rintro _ rfl; change wpList _ _ _ _ _ _; go_wp2_with fail; exact ⟨rfl, Ext.refl _, rfl, rfl⟩
  · intro w1 hx1; rintro _ rfl; rintro _ rfl; rintro _ rfl; rintro _ rfl; rintro _ rfl; intro v52 h52; rintro _ rfl; rintro _ rfl; refine depsThen_nil ?_; dsimp only; simp only [Act.put, List.setIfInBounds_toArray, List.set_cons_zero, List.set_cons_succ, List.drop_succ_cons, List.drop_zero]
    replace h52 : (Fact.sp L).p v52 w1 := h52
    have h52' : SpR w1 v52 L := h52
    have HQ1 := Lib.hid (block_later HQ.out hx1)
    have HT1 := Lib.hid (block_later HT.out hx1)
    have hxw1 := hxw.trans hx1
    obtain ⟨k1, k2, z1, z2, z3, k3, k4⟩ := set_box HK.out h52' HQ1.out
    have hT2 := (setCell_block_other w1 ⟨w.heap.size + 1 + 1, c.v.k.toNat - 1, none⟩ v52 (w.heap.size + 1) (by simp)).trans HT1.out
    have hx2 := hxw1.setCell (p := ⟨w.heap.size + 1 + 1, c.v.k.toNat - 1, none⟩) (by simp; omega) v52
    obtain ⟨aa, cc, rfl, _, _⟩ := Row.shape h52'
    generalize hW2 : w1.setCell ⟨w.heap.size + 1 + 1, c.v.k.toNat - 1, none⟩ (.slice aa L.length cc) = W2 at *
    have HW2 := Lib.hid hW2
    have q0 := cell_of_row _ _ 0 _ _ _ k3
    have q1 := cell_of_row _ _ 1 _ _ _ k3
    have q2 := cell_of_row _ _ 2 _ _ _ k3
    have q3 := cell_of_row _ _ 3 _ _ _ k3
    obtain ⟨b1, e1, b2, e2, b3, e3, ee, _⟩ := k4.ex
    have hz : z1.oneCell' = true ∧ z2.oneCell' = true ∧ z3.oneCell' = true := by
      simp only [Value.agg.injEq, Array.mk.injEq, List.cons.injEq] at ee
      obtain ⟨rfl, rfl, rfl, _⟩ := ee
      exact ⟨rfl, rfl, rfl⟩
    obtain ⟨hz1, hz2, hz3⟩ := hz
    have K4 := Lib.hid k4
    have HT2 := Lib.hid hT2
    clear hW2 k3 k4 hT2 ee h52 h52' hx1 hxw1 hxw HT1 HQ1
    go_upto_region 18 with fail
    rw [HW2.out]
    go_wp2_with (refine wpList_store_whole 72 (.tmp 2) (.tmp 55) rfl rfl (w.heap.size + 1) rfl #[z1, z2, z3, .bool false] rfl _ 72 HT2.out rfl info72s (by simp only [List.mem_cons, List.not_mem_nil, or_false]; rintro v (rfl | rfl | rfl | rfl); exact hz1; exact hz2; exact hz3; rfl) ?_)
    have hq := setRow_heap _ _ _ #[z1, z2, z3, .bool false] _ _ HT2.out
    have g0 := cell_of_row _ _ 0 _ _ _ hq
    have g1 := cell_of_row _ _ 1 _ _ _ hq
    have g2 := cell_of_row _ _ 2 _ _ _ hq
    have g3 := cell_of_row _ _ 3 _ _ _ hq
    refine bodyPost_ret (v := .tuple #[.agg #[z1, z2, z3, .bool false], .int .i64 0]) (by simp [results, Tryz.results82, go_sem, g0, g1, g2, g3]) rfl ⟨.agg #[z1, z2, z3, .bool false], rfl, ?_, (hx2).setRow (by omega) _⟩
    exact rgr_set K4.out HT2.out (by simp)
end Go.Proofs.YtlhbpflcffjhmaaGreat

namespace Go.Proofs.YtlhbpflcffjhmaaGreat
open Go.RowKit Go.Sort

/-- All that none of some values is. -/
def outF (l : List V) : Rg := l.foldl (fun r v => r.minus (oneV v)) allR
theorem outF_snoc (l : List V) (x : V) : outF (l ++ [x]) = (outF l).minus (oneV x) := by unfold outF; rw [List.foldl_append]; rfl
theorem outF_few (l : List V) : Rises (outF l) ∧ Few (1 + l.length) (outF l) := fold_few l 1 allR rises_all few_all
theorem few_one (x : V) : Few 1 (oneV x) := few_set _ (one_len x)

set_option maxRecDepth 100000 in
set_option maxHeartbeats 8000000 in
theorem Of_in (w : World) (c : C) (sa : Option Addr) (sc : Nat) (hs : SetR w (.slice sa c.set.length sc) c.set) (hm : mayC c = true) (h9 : c.op = 9) (hv : ∀ x ∈ c.set, mayV x = true ∧ okN x.n) (h6 : c.set.length ≤ 6) :
    Calls Tryz.prog 82 #[.agg #[.string (strOf c.name), .int .i64 c.op, .int .i64 c.v.k, .int .i64 c.v.n, .string (strOf c.v.s), .bool c.v.b, .slice sa c.set.length sc]] w fun e w' => ∃ v, e = .returned (.tuple #[v, .int .i64 0]) ∧ RgR w' v (allR.minus (outF c.set)) ∧ Ext w w' := by
  obtain ⟨hx0, hC, hT, hQ⟩ := boxes3 w (.cells #[.string (strOf c.name), .int .i64 c.op, .int .i64 c.v.k, .int .i64 c.v.n, .string (strOf c.v.s), .bool c.v.b, .slice sa c.set.length sc] 64) (.cells #[.slice none 0 0, .slice none 0 0, .slice none 0 0, .bool false] 72) (.cells #[.slice none 0 0, .slice none 0 0, .slice none 0 0, .bool false] 72)
  have hcall := maycons_any (((w.alloc (.cells #[.string (strOf c.name), .int .i64 c.op, .int .i64 c.v.k, .int .i64 c.v.n, .string (strOf c.v.s), .bool c.v.b, .slice sa c.set.length sc] 64)).alloc (.cells #[.slice none 0 0, .slice none 0 0, .slice none 0 0, .bool false] 72)).alloc (.cells #[.slice none 0 0, .slice none 0 0, .slice none 0 0, .bool false] 72)) c sa sc (hs.ext hx0)
  obtain ⟨_, _, es, hcs, hms⟩ := Row.shape hs
  simp only [Value.slice.injEq] at es
  obtain ⟨rfl, _, rfl⟩ := es
  unfold maxLen at hms
  rw [hm] at hcall
  have d1 : (c.op == 1) = false := beq_eq_false_iff_ne.2 (by omega)
  have d9 : (c.op == 9) = true := beq_iff_eq.2 h9
  have HV := Lib.hid hv
  clear h9 hm hv
  have HC := Lib.hid hC
  have HT := Lib.hid hT
  have HQ := Lib.hid hQ
  have HS := Lib.hid hs
  have HCALL := Lib.hid hcall
  have c0 := cell_of_row _ _ 0 _ _ _ hC
  have c1 := cell_of_row _ _ 1 _ _ _ hC
  have c2 := cell_of_row _ _ 2 _ _ _ hC
  have c3 := cell_of_row _ _ 3 _ _ _ hC
  have c4 := cell_of_row _ _ 4 _ _ _ hC
  have c5 := cell_of_row _ _ 5 _ _ _ hC
  have c6 := cell_of_row _ _ 6 _ _ _ hC
  clear hC hT hQ hs hcall
  generalize hN : c.set.length = N at *
  have HN := Lib.hid hN
  clear hN
  go_enter Tryz.func82, Tryz.ntmps82
  go_upto_region 2 with fail
  generalize ((w.alloc (.cells #[.string (strOf c.name), .int .i64 c.op, .int .i64 c.v.k, .int .i64 c.v.n, .string (strOf c.v.s), .bool c.v.b, .slice sa N sc] 64)).alloc (.cells #[.slice none 0 0, .slice none 0 0, .slice none 0 0, .bool false] 72)).alloc (.cells #[.slice none 0 0, .slice none 0 0, .slice none 0 0, .bool false] 72) = w0 at *
  go_wp2_with fail
  refine HCALL.out.mono ?_
  rintro e y1 ⟨rfl, hy1⟩
  have hxw := hx0.trans hy1
  have c0 := hy1.cell c0
  have c1 := hy1.cell c1
  have c2 := hy1.cell c2
  have c3 := hy1.cell c3
  have c4 := hy1.cell c4
  have c5 := hy1.cell c5
  have c6 := hy1.cell c6
  have HC := Lib.hid (block_later HC.out hy1)
  have HT := Lib.hid (block_later HT.out hy1)
  have HQ := Lib.hid (block_later HQ.out hy1)
  clear hy1 hx0
  clear c0 c2 c3 c4 c5 HC HCALL
  go_wp2_with fail
  refine (all_any _).mono ?_
  rintro e y2 ⟨v, rfl, hv, hy2⟩
  obtain ⟨b1, i1, b2, i2, b3, i3, rfl, p1, p2, p3⟩ := hv.ex
  obtain ⟨hxa, hb5⟩ := boxes1 y2 (.cells #[.slice b1 allR.i.length i1, .slice b2 allR.s.length i2, .slice b3 allR.b.length i3, .bool allR.odd] 72)
  have hgood : Hid (GoodR y2.heap.size allR (y2.alloc (.cells #[.slice b1 allR.i.length i1, .slice b2 allR.s.length i2, .slice b3 allR.b.length i3, .bool allR.odd] 72))) := ⟨_, hb5, hv.ext hxa⟩
  have hx2 := hy2.trans hxa
  have c6 := hx2.cell c6
  have hlt5 := (Array.getElem?_eq_some_iff.1 (block_later HQ.out hy2)).1
  have HT := Lib.hid (block_later HT.out hx2)
  have HQ := Lib.hid (block_later HQ.out hx2)
  have hxw := hxw.trans hx2
  clear hv p1 p2 p3 hxa hb5 hx2 hy2 c1
  generalize allR.i.length = n1 at *
  generalize allR.s.length = n2 at *
  generalize allR.b.length = n3 at *
  generalize allR.odd = od at *
  go_wp2_with fail
  generalize y2.alloc (.cells #[.slice b1 n1 i1, .slice b2 n2 i2, .slice b3 n3 i3, .bool od] 72) = y3 at *
  go_loopw [27] (fun i wr => ∃ k : Nat, k ≤ N ∧ i = .int .i64 k ∧ Hid (GoodR y2.heap.size (outF (c.set.take k)) wr) ∧ Hid (wr.heap[w.heap.size + 1]? = some (.cells #[.slice none 0 0, .slice none 0 0, .slice none 0 0, .bool false] 72 (0, 0))) ∧ Hid (wr.heap[w.heap.size + 1 + 1]? = some (.cells #[.slice none 0 0, .slice none 0 0, .slice none 0 0, .bool false] 72 (0, 0))) ∧ Ext w wr) (fun i _ => N - (intOf i).toNat)
  case atStart => exact ⟨0, Nat.zero_le _, rfl, hgood, HT, HQ, hxw⟩
  case round =>
    clear hgood HT HQ hxw c6
    obtain ⟨k, hk, rfl, hgood, HT, HQ, hx⟩ := hrel
    by_cases hlt : k < N
    · have hI : decide ((k : Int) < (N : Int)) = true := decide_eq_true (by omega)
      have hkl : k < c.set.length := by rw [HN.out]; exact hlt
      obtain ⟨B, o, rfl, f0, f1, f2, f3⟩ := SetR.at (HS.out.ext hx) hkl
      have hvk := HV.out c.set[k] (List.getElem_mem hkl)
      have hstep : outF (c.set.take (k + 1)) = (outF (c.set.take k)).minus (oneV c.set[k]) := by
        rw [List.take_succ_eq_append_getElem hkl, outF_snoc]
      have hfew := outF_few (c.set.take k)
      have hlen : (c.set.take k).length ≤ 6 := by rw [List.length_take, HN.out]; omega
      have HSTEP := Lib.hid hstep
      have HFEW := Lib.hid hfew
      have HLEN := Lib.hid hlen
      clear hstep hfew hlen
      generalize c.set[k] = x at *
      generalize hR : outF (c.set.take k) = R at *
      clear hR
      obtain ⟨hmv, hxn⟩ := hvk
      obtain ⟨hxk, hxs⟩ := mayV_k hmv
      have hof := fun W => of_any W ⟨#[]⟩ 2 x none 0 0 hxn (by omega)
      have HOF := Lib.hid hof
      have HK := Lib.hid hxk
      have hb1 : 1 ≤ x.k := by omega
      have hb2 : x.k ≤ 3 := by omega
      have hb3 : (0 : Int) ≤ x.k - 1 := by omega
      have hb4 : x.k - 1 < 3 := by omega
      obtain ⟨hxa, hVb, hO⟩ := boxes2 wr (.cells #[.int .i64 x.k, .int .i64 x.n, .string (strOf x.s), .bool x.b] 61) (.cells #[.slice none 0 0, .slice none 0 0, .slice none 0 0, .bool false] 72)
      have v0 := cell_of_row _ _ 0 _ _ _ hVb
      have v1 := cell_of_row _ _ 1 _ _ _ hVb
      have v2 := cell_of_row _ _ 2 _ _ _ hVb
      have v3 := cell_of_row _ _ 3 _ _ _ hVb
      have HO := Lib.hid hO
      clear hof hxk hVb hO hmv hxn hxs
      go_upto_region 12 with fail
      generalize (wr.alloc (.cells #[.int .i64 x.k, .int .i64 x.n, .string (strOf x.s), .bool x.b] 61)).alloc (.cells #[.slice none 0 0, .slice none 0 0, .slice none 0 0, .bool false] 72) = wa at *
      clear f0 f1 f2 f3
      refine wp_region_chain 8 [Fact.eq (.pointer (some ⟨wr.heap.size, 0, none⟩)),
          Fact.eq (.int .i64 x.k),
          Fact.eq (.int .i64 (x.k - 1)),
          Fact.eq (.agg #[.int .i64 x.k, .int .i64 x.n, .string (strOf x.s), .bool x.b]),
          Fact.eq (.agg #[.string ⟨#[]⟩, .int .i64 2, .int .i64 x.k, .int .i64 x.n, .string (strOf x.s), .bool x.b, .slice none 0 0]),
          Fact.sp (ofL ⟨[], 2, x, []⟩),
          Fact.eq (.pointer (some ⟨wr.heap.size + 1, 0, none⟩)),
          Fact.eq (.pointer (some ⟨wr.heap.size + 1, (x.k - 1).toNat, none⟩))]
        [[], [(0, 31)], [(1, 32)], [], [(3, 34)], [(4, 35)], [], [(6, 37), (2, 33)]]
        [(0, 31), (1, 32), (2, 33), (3, 34), (4, 35), (5, 36), (6, 37), (7, 38)] (by kernel_rfl) (by kernel_rfl) ?_ ?_
      · refine ⟨?_, ?_, ?_, ?_, ?_, ?_, ?_, ?_, trivial⟩
        · intro w1 hx1; change wpList _ _ _ _ _ _; go_wp2_with fail; exact ⟨rfl, Ext.refl _, rfl, rfl⟩
        · intro w1 hx1; rintro _ rfl; change wpList _ _ _ _ _ _; have m := hx1.cell v0; go_wp2_with fail; exact ⟨rfl, Ext.refl _, rfl, rfl⟩
        · intro w1 hx1; rintro _ rfl; change wpList _ _ _ _ _ _; go_wp2_with fail; exact ⟨rfl, Ext.refl _, rfl, rfl⟩
        · intro w1 hx1; change wpList _ _ _ _ _ _; have m0 := hx1.cell v0; have m1 := hx1.cell v1; have m2 := hx1.cell v2; have m3 := hx1.cell v3; go_wp2_with fail; exact ⟨rfl, Ext.refl _, rfl, rfl⟩
        · intro w1 hx1; rintro _ rfl; change wpList _ _ _ _ _ _; go_wp2_with fail; exact ⟨rfl, Ext.refl _, rfl, rfl⟩
        · intro w1 hx1; rintro _ rfl; change wpList _ _ _ _ _ _; go_wp2_with fail; refine (HOF.out w1).mono ?_; rintro e w2 ⟨u, rfl, hu, hx2⟩; go_wp2_with fail; exact ⟨rfl, hx2, rfl, hu⟩
        · intro w1 hx1; change wpList _ _ _ _ _ _; go_wp2_with fail; exact ⟨rfl, Ext.refl _, rfl, rfl⟩
        · intro w1 hx1; rintro _ rfl; rintro _ rfl; change wpList _ _ _ _ _ _; go_wp2_with fail; exact ⟨rfl, Ext.refl _, rfl, rfl⟩
      · intro w1 hx1; rintro _ rfl; rintro _ rfl; rintro _ rfl; rintro _ rfl; rintro _ rfl; intro v36 h36; rintro _ rfl; rintro _ rfl; refine depsThen_nil ?_; dsimp only; simp only [Act.put, List.setIfInBounds_toArray, List.set_cons_zero, List.set_cons_succ, List.drop_succ_cons, List.drop_zero]
        replace h36 : (Fact.sp (ofL ⟨[], 2, x, []⟩)).p v36 w1 := h36
        have h36' : SpR w1 v36 (ofL ⟨[], 2, x, []⟩) := h36
        have hO1 := block_later HO.out hx1
        have hxr := hxa.trans hx1
        obtain ⟨k1, k2, z1, z2, z3, k3, k4⟩ := set_box HK.out h36' hO1
        have hxr2 := hxr.setCell (p := ⟨wr.heap.size + 1, x.k.toNat - 1, none⟩) (by simp) v36
        obtain ⟨aa, cc, rfl, _, _⟩ := Row.shape h36'
        generalize (ofL ⟨[], 2, x, []⟩).length = ln at *
        generalize hW2 : w1.setCell ⟨wr.heap.size + 1, x.k.toNat - 1, none⟩ (.slice aa ln cc) = W2 at *
        have HW2 := Lib.hid hW2
        have q0 := cell_of_row _ _ 0 _ _ _ k3
        have q1 := cell_of_row _ _ 1 _ _ _ k3
        have q2 := cell_of_row _ _ 2 _ _ _ k3
        have q3 := cell_of_row _ _ 3 _ _ _ k3
        obtain ⟨cs, hb5, hr5⟩ := hgood.out
        have hb5 := block_later hb5 hxr2
        have hr5 := hr5.ext hxr2
        obtain ⟨r1, e1, r2, e2, r3, e3, ee, _⟩ := hr5.ex
        cases ee
        have s0 := cell_of_row _ _ 0 _ _ _ hb5
        have s1 := cell_of_row _ _ 1 _ _ _ hb5
        have s2 := cell_of_row _ _ 2 _ _ _ hb5
        have s3 := cell_of_row _ _ 3 _ _ _ hb5
        have hmin := minusR_any W2 _ _ R (oneV x) hr5 k4 HFEW.out.1 (good_one x).full (HFEW.out.2.mono (by have := HLEN.out; omega)) ((few_one x).mono (by omega))
        have HMIN := Lib.hid hmin
        have HT := Lib.hid (block_later HT.out hxr2)
        have HQ := Lib.hid (block_later HQ.out hxr2)
        have HB5 := Lib.hid hb5
        have hxw := hx.trans hxr2
        clear hW2 k3 k4 h36 h36' hx1 hxr hO1 hb5 hr5 hmin hxr2 hx hxa v0 v1 v2 v3 hgood
        generalize R.i.length = m1 at *
        generalize R.s.length = m2 at *
        generalize R.b.length = m3 at *
        generalize R.odd = mo at *
        go_upto_region 13 with fail
        rw [HW2.out]
        clear k1 k2 HW2
        go_wp2_with fail
        refine HMIN.out.mono ?_
        rintro e y4 ⟨v, rfl, hv, hy4⟩
        obtain ⟨j1, t1, j2, t2, j3, t3, rfl, _, _, _⟩ := hv.ex
        have HV4 := Lib.hid hv
        have HB5 := Lib.hid (block_later HB5.out hy4)
        have HT := Lib.hid (block_later HT.out hy4)
        have HQ := Lib.hid (block_later HQ.out hy4)
        have hxw := hxw.trans hy4
        clear hv hy4 q0 q1 q2 q3 s0 s1 s2 s3
        have hq := setRow_heap _ _ _ #[.slice j1 (R.minus (oneV x)).i.length t1, .slice j2 (R.minus (oneV x)).s.length t2, .slice j3 (R.minus (oneV x)).b.length t3, .bool (R.minus (oneV x)).odd] _ _ HB5.out
        have hrq := rgr_set (cs := #[.slice j1 (R.minus (oneV x)).i.length t1, .slice j2 (R.minus (oneV x)).s.length t2, .slice j3 (R.minus (oneV x)).b.length t3, .bool (R.minus (oneV x)).odd]) HV4.out HB5.out (by simp)
        have hgn : GoodR y2.heap.size (outF (c.set.take (k + 1))) _ := ⟨_, hq, by rw [HSTEP.out]; exact hrq⟩
        have HGN := Lib.hid hgn
        have HT := Lib.hid ((setRow_other y4 y2.heap.size (w.heap.size + 1) #[.slice j1 (R.minus (oneV x)).i.length t1, .slice j2 (R.minus (oneV x)).s.length t2, .slice j3 (R.minus (oneV x)).b.length t3, .bool (R.minus (oneV x)).odd] (by omega)).trans HT.out)
        have HQ := Lib.hid ((setRow_other y4 y2.heap.size (w.heap.size + 1 + 1) #[.slice j1 (R.minus (oneV x)).i.length t1, .slice j2 (R.minus (oneV x)).s.length t2, .slice j3 (R.minus (oneV x)).b.length t3, .bool (R.minus (oneV x)).odd] (by omega)).trans HQ.out)
        have hxw := hxw.setRow (g := y2.heap.size) (by omega) #[.slice j1 (R.minus (oneV x)).i.length t1, .slice j2 (R.minus (oneV x)).s.length t2, .slice j3 (R.minus (oneV x)).b.length t3, .bool (R.minus (oneV x)).odd]
        clear hq hrq hgn
        generalize (R.minus (oneV x)).i.length = m1 at *
        generalize (R.minus (oneV x)).s.length = m2 at *
        generalize (R.minus (oneV x)).b.length = m3 at *
        generalize (R.minus (oneV x)).odd = mo at *
        generalize hy5 : y4.setRow y2.heap.size #[.slice j1 m1 t1, .slice j2 m2 t2, .slice j3 m3 t3, .bool mo] = y5 at *
        have HY5 := Lib.hid hy5
        clear hy5
        go_wp2_with (refine wpList_store_whole 72 (.tmp 5) (.tmp 41) rfl rfl y2.heap.size rfl #[.slice j1 m1 t1, .slice j2 m2 t2, .slice j3 m3 t3, .bool mo] rfl _ 72 HB5.out rfl info72s (by simp [Value.oneCell']) ?_; rw [HY5.out])
        go_roundw
        case rel => exact ⟨k + 1, hlt, by go_num, HGN, HT, HQ, hxw⟩
        case measure => simp [intOf]; omega
    · obtain rfl : k = N := by omega
      have hI : decide ((k : Int) < (k : Int)) = false := decide_eq_false (by omega)
      have htk : c.set.take k = c.set := List.take_of_length_le (by rw [HN.out]; exact Nat.le_refl _)
      have hfew := outF_few c.set
      obtain ⟨cs, hb5, hr5⟩ := hgood.out
      rw [htk] at hr5
      obtain ⟨r1, e1, r2, e2, r3, e3, ee, _⟩ := hr5.ex
      cases ee
      have s0 := cell_of_row _ _ 0 _ _ _ hb5
      have s1 := cell_of_row _ _ 1 _ _ _ hb5
      have s2 := cell_of_row _ _ 2 _ _ _ hb5
      have s3 := cell_of_row _ _ 3 _ _ _ hb5
      have hmin := fun W va (hW : Ext wr W) (hva : RgR W va allR) => minusR_any W va _ allR (outF c.set) hva (hr5.ext hW) rises_all hfew.1.full (few_all.mono (by omega)) (hfew.2.mono (by have := HN.out; omega))
      have HMIN := Lib.hid hmin
      clear hmin hb5 hr5 htk hfew hgood
      generalize (outF c.set).i.length = m1 at *
      generalize (outF c.set).s.length = m2 at *
      generalize (outF c.set).b.length = m3 at *
      generalize (outF c.set).odd = mo at *
      go_upto_region 15 with fail
      refine wp_region_chain 3 [Fact.rg allR,
          Fact.eq (.agg #[.slice r1 m1 e1, .slice r2 m2 e2, .slice r3 m3 e3, .bool mo]),
          Fact.rg (allR.minus (outF c.set))]
        [[], [], [(0, 43), (1, 44)]]
        [(0, 43), (1, 44), (2, 45)] (by kernel_rfl) (by kernel_rfl) ?_ ?_
      · refine ⟨?_, ?_, ?_, trivial⟩
        · intro w1 hx1; change wpList _ _ _ _ _ _; go_wp2_with fail; refine (all_any w1).mono ?_; rintro e w2 ⟨u, rfl, hu, hx2⟩; go_wp2_with fail; exact ⟨rfl, hx2, rfl, hu⟩
        · intro w1 hx1; change wpList _ _ _ _ _ _; have g0 := hx1.cell s0; have g1 := hx1.cell s1; have g2 := hx1.cell s2; have g3 := hx1.cell s3; go_wp2_with fail; exact ⟨rfl, Ext.refl _, rfl, rfl⟩
        · intro w1 hx1; intro v43 h43; rintro _ rfl; change wpList _ _ _ _ _ _; go_wp2_with fail; refine (HMIN.out w1 v43 hx1 h43).mono ?_; rintro e w2 ⟨u, rfl, hu, hx2⟩; go_wp2_with fail; exact ⟨rfl, hx2, rfl, hu⟩
      · intro w1 hx1; intro v43 h43; rintro _ rfl; intro v45 h45; refine depsThen_nil ?_; dsimp only; simp only [Act.put, List.setIfInBounds_toArray, List.set_cons_zero, List.set_cons_succ, List.drop_succ_cons, List.drop_zero]
        replace h43 : (Fact.rg allR).p v43 w1 := h43
        replace h45 : (Fact.rg (allR.minus (outF c.set))).p v45 w1 := h45
        have hv : RgR w1 v45 (allR.minus (outF c.set)) := h45
        obtain ⟨j1, t1, j2, t2, j3, t3, rfl, _, _, _⟩ := hv.ex
        have HT := Lib.hid (block_later HT.out hx1)
        have HQ := Lib.hid (block_later HQ.out hx1)
        have hxw := hx.trans hx1
        have hV := rgr_set (cs := #[.slice j1 (allR.minus (outF c.set)).i.length t1, .slice j2 (allR.minus (outF c.set)).s.length t2, .slice j3 (allR.minus (outF c.set)).b.length t3, .bool (allR.minus (outF c.set)).odd]) hv HQ.out (by simp)
        have HV5 := Lib.hid hV
        clear hv hV h43 h45 hx1 hx s0 s1 s2 s3 HMIN
        generalize (allR.minus (outF c.set)).i.length = m1 at *
        generalize (allR.minus (outF c.set)).s.length = m2 at *
        generalize (allR.minus (outF c.set)).b.length = m3 at *
        generalize (allR.minus (outF c.set)).odd = mo at *
        have hq := setRow_heap _ _ _ #[.slice j1 m1 t1, .slice j2 m2 t2, .slice j3 m3 t3, .bool mo] _ _ HQ.out
        have g0 := cell_of_row _ _ 0 _ _ _ hq
        have g1 := cell_of_row _ _ 1 _ _ _ hq
        have g2 := cell_of_row _ _ 2 _ _ _ hq
        have g3 := cell_of_row _ _ 3 _ _ _ hq
        have HT := Lib.hid ((setRow_other w1 (w.heap.size + 1 + 1) (w.heap.size + 1) #[.slice j1 m1 t1, .slice j2 m2 t2, .slice j3 m3 t3, .bool mo] (by omega)).trans HT.out)
        have hxw := hxw.setRow (g := w.heap.size + 1 + 1) (by omega) #[.slice j1 m1 t1, .slice j2 m2 t2, .slice j3 m3 t3, .bool mo]
        generalize hy5 : w1.setRow (w.heap.size + 1 + 1) #[.slice j1 m1 t1, .slice j2 m2 t2, .slice j3 m3 t3, .bool mo] = y5 at *
        have HY5 := Lib.hid hy5
        clear hy5 hq
        go_wp2_with (first | (refine wpList_store_whole 72 (.tmp 4) (.tmp 45) rfl rfl (w.heap.size + 1 + 1) rfl #[.slice j1 m1 t1, .slice j2 m2 t2, .slice j3 m3 t3, .bool mo] rfl _ 72 HQ.out rfl info72s (by simp [Value.oneCell']) ?_; rw [HY5.out]) | refine wpList_store_whole 72 (.tmp 2) (.tmp 46) rfl rfl (w.heap.size + 1) rfl #[.slice j1 m1 t1, .slice j2 m2 t2, .slice j3 m3 t3, .bool mo] rfl _ 72 HT.out rfl info72s (by simp [Value.oneCell']) ?_)
        have hq := setRow_heap _ _ _ #[.slice j1 m1 t1, .slice j2 m2 t2, .slice j3 m3 t3, .bool mo] _ _ HT.out
        have g0 := cell_of_row _ _ 0 _ _ _ hq
        have g1 := cell_of_row _ _ 1 _ _ _ hq
        have g2 := cell_of_row _ _ 2 _ _ _ hq
        have g3 := cell_of_row _ _ 3 _ _ _ hq
        refine bodyPost_ret (v := .tuple #[.agg #[.slice j1 m1 t1, .slice j2 m2 t2, .slice j3 m3 t3, .bool mo], .int .i64 0]) (by simp [results, Tryz.results82, go_sem, g0, g1, g2, g3]) rfl ⟨.agg #[.slice j1 m1 t1, .slice j2 m2 t2, .slice j3 m3 t3, .bool mo], rfl, ?_, hxw.setRow (by omega) _⟩
        exact rgr_set HV5.out HT.out (by simp)

theorem may_in {c : C} (hm : mayC c = true) (h9 : c.op = 9) : (∀ x ∈ c.set, mayV x = true) ∧ c.set.length ≤ 6 := by
  unfold mayC at hm
  by_cases h0 : c.name.length < 1 ∨ 16 < c.name.length
  · rw [if_pos h0] at hm; cases hm
  · rw [if_neg h0, if_neg (show ¬ c.op = 1 by omega), if_neg (show ¬ (2 ≤ c.op ∧ c.op ≤ 7) by omega), if_neg (show ¬ c.op = 8 by omega), if_pos h9] at hm
    simp only [Bool.and_eq_true, decide_eq_true_eq] at hm
    exact ⟨fun x hx => List.all_eq_true.1 hm.2 x hx, hm.1.2⟩
theorem may_val {c : C} (hm : mayC c = true) (h1 : c.op ≠ 1) (h9 : c.op ≠ 9) : mayV c.v = true := by
  unfold mayC at hm
  by_cases h0 : c.name.length < 1 ∨ 16 < c.name.length
  · rw [if_pos h0] at hm; cases hm
  · rw [if_neg h0, if_neg h1] at hm
    by_cases h2 : 2 ≤ c.op ∧ c.op ≤ 7
    · rw [if_pos h2] at hm
      simp only [Bool.and_eq_true] at hm
      exact hm.1
    · rw [if_neg h2] at hm
      by_cases h8 : c.op = 8
      · rw [if_pos h8] at hm
        simp only [Bool.and_eq_true] at hm
        exact hm.1.1
      · rw [if_neg h8, if_neg h9] at hm; cases hm
theorem Of_any (w : World) (c : C) (sa : Option Addr) (sc : Nat) (hs : SetR w (.slice sa c.set.length sc) c.set) (hn : okN c.v.n) (hv : ∀ x ∈ c.set, okN x.n) :
    Calls Tryz.prog 82 #[.agg #[.string (strOf c.name), .int .i64 c.op, .int .i64 c.v.k, .int .i64 c.v.n, .string (strOf c.v.s), .bool c.v.b, .slice sa c.set.length sc]] w fun e w' => ∃ v, e = .returned (.tuple #[v, .int .i64 (if mayC c then 0 else 30)]) ∧ RgR w' v (ofR c) ∧ Ext w w' := by
  unfold ofR
  cases hm : mayC c with
  | false => exact Of_no w c sa sc hs hm
  | true =>
    by_cases h1 : c.op = 1
    · rw [if_neg (show ¬ (!true) = true by decide), if_pos h1]
      exact Of_has w c sa sc hs hm h1
    · by_cases h9 : c.op = 9
      · rw [if_neg (show ¬ (!true) = true by decide), if_neg h1, if_pos h9]
        obtain ⟨k1, k2⟩ := may_in hm h9
        exact Of_in w c sa sc hs hm h9 (fun x hx => ⟨k1 x hx, hv x hx⟩) k2
      · rw [if_neg (show ¬ (!true) = true by decide), if_neg h1, if_neg h9]
        obtain ⟨k1, k2⟩ := mayV_k (may_val hm h1 h9)
        exact Of_val w c sa sc hs hm h1 h9 k1 hn (by omega)
end Go.Proofs.YtlhbpflcffjhmaaGreat
