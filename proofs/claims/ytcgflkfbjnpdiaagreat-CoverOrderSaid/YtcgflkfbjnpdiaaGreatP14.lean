/- Regions: the spans of a constraint that has a value: of. (Walks alike, printed by a program.)
Regions: Within.
Regions: And.
A box of the call's own that is to hold a region: memory turns there alone. -/
import Derived.Test.YtcgflkfbjnpdiaaGreatP12
import Derived.Test.YtcgflkfbjnpdiaaGreatP13
import Derived.Test.YtcgflkfbjnpdiaaGreatP6
namespace Go.Proofs.YtcgflkfbjnpdiaaGreat
open Go.RowKit Go.Sort

theorem own_sp (w : World) (base : Nat) (l : List Sp) (C : Array Value) (hC : C = (l.flatMap spC).toArray) (hb : base ≤ w.heap.size) (hm : l.length ≤ maxLen) : (w.alloc (.cells C 113)).ownsRow base 113 4 (.slice (some ⟨w.heap.size, 0, none⟩) l.length l.length) l.length (l.flatMap spC) := by
  subst hC
  exact World.ownsRow_lit w (l.flatMap spC).toArray l.length hb hm (by simp only [List.size_toArray]; exact flat_len spC 4 spC_len l)
def Fact.ownSp (b : Nat) (l : List Sp) : Fact := ⟨fun v w => w.ownsRow b 113 4 v l.length (l.flatMap spC), fun _ _ _ hx h => own_ext h hx⟩
theorem full_not (l : List Sp) : (l.filter fun x => !(!Cut.lt x.lo x.hi)) = fullS l := by
  unfold fullS; congr 1; funext x; exact Bool.not_not _
theorem delete_full (w W : World) (u : Value) (l : List Sp) (hx : Ext w W) (ho : W.ownsRow w.heap.size 113 4 u l.length (l.flatMap spC)) (hl : l.length ≤ 2) :
    Calls Tryz.prog 116 #[u, .func (.func 117) #[] #[]] W fun e w' => ∃ u', e = .returned u' ∧ SpR w' u' (fullS l) ∧ Ext w w' := by
  refine (deleteSp_any W w.heap.size u l ho (by omega) 117 #[] (fun x => !Cut.lt x.lo x.hi) ent133 fun W' x _ _ => full133_any W' x).mono ?_
  rintro e w' ⟨u', rfl, h1, h2⟩
  rw [full_not] at h1
  exact ⟨u', rfl, Row.of_own h1, hx.grown_none h2 (own_base ho)⟩

set_option maxRecDepth 100000 in
set_option maxHeartbeats 8000000 in
theorem of_2 (w : World) (nm : ByteArray) (v : V) (sa : Option Addr) (sn sc : Nat) (hn : okN v.n) (hs : v.s.length ≤ 140737488355328) :
    Calls Tryz.prog 86 #[.agg #[.string nm, .int .i64 2, .int .i64 v.k, .int .i64 v.n, .string (strOf v.s), .bool v.b, .slice sa sn sc]] w fun e w' => ∃ u, e = .returned u ∧ SpR w' u (ofL ⟨[], 2, v, []⟩) ∧ Ext w w' := by
  have hres : ofL ⟨[], 2, v, []⟩ = fullS [⟨(aroundV v).1, (aroundV v).2⟩] := rfl
  obtain ⟨hx0, hC⟩ := boxes1 w (.cells #[.string nm, .int .i64 2, .int .i64 v.k, .int .i64 v.n, .string (strOf v.s), .bool v.b, .slice sa sn sc] 37)
  have har := fun W => around_any W v hn hs
  have hfi := fun W => first_any W v.k
  have hfe := firstC_e v.k
  have hD := fun W u l => delete_full w W u l
  have HRES := Lib.hid hres
  have HAR := Lib.hid har
  have HFI := Lib.hid hfi
  have HFE := Lib.hid hfe
  have HD := Lib.hid hD
  clear hres har hfi hfe hD hn hs
  generalize aroundV v = cu at *
  generalize hvk : firstC v.k = fc at *
  clear hvk
  have HCE : Hid ((#[.string (strOf cu.1.a), .bool cu.1.e, .string (strOf cu.2.a), .bool cu.2.e] : Array Value) = (([⟨cu.1, cu.2⟩] : List Sp).flatMap spC).toArray) := by
    show _ = _
    simp only [List.flatMap_cons, List.flatMap_nil, spC]
    rfl
  have c1 := cell_of_row _ _ 1 _ _ _ hC
  have c2 := cell_of_row _ _ 2 _ _ _ hC
  have c3 := cell_of_row _ _ 3 _ _ _ hC
  have c4 := cell_of_row _ _ 4 _ _ _ hC
  have c5 := cell_of_row _ _ 5 _ _ _ hC
  clear hC
  go_enter Tryz.func86, Tryz.ntmps86
  go_wp2_with fail
  refine (HAR.out _).mono ?_
  rintro e y1 ⟨rfl, hy1⟩
  obtain ⟨hxb, hA, hB⟩ := boxes2 y1 (.cells #[.string (strOf cu.1.a), .bool cu.1.e] 111) (.cells #[.string (strOf cu.2.a), .bool cu.2.e] 111)
  have hxy := hy1.trans hxb
  have c1 := hxy.cell c1
  have c2 := hxy.cell c2
  have c4 := hxy.cell c4
  have hxw := hx0.trans hxy
  have HA := Lib.hid hA
  have HB := Lib.hid hB
  clear hA hB hxb hxy hy1 hx0 c3 c5
  go_wp2_with fail
  generalize (y1.alloc (.cells #[.string (strOf cu.1.a), .bool cu.1.e] 111)).alloc (.cells #[.string (strOf cu.2.a), .bool cu.2.e] 111) = y2 at *
  refine (HFI.out _).mono ?_
  rintro e y3 ⟨rfl, hy3⟩
  obtain ⟨hxd, hDb⟩ := boxes1 y3 (.cells #[.string (strOf fc.a), .bool false] 111)
  have hxy := hy3.trans hxd
  have c1 := hxy.cell c1
  have c4 := hxy.cell c4
  have hA := block_later HA.out hxy
  have hB := block_later HB.out hxy
  have hxw := hxw.trans hxy
  have a0 := cell_of_row _ _ 0 _ _ _ hA
  have a1 := cell_of_row _ _ 1 _ _ _ hA
  have b0 := cell_of_row _ _ 0 _ _ _ hB
  have b1 := cell_of_row _ _ 1 _ _ _ hB
  have d0 := cell_of_row _ _ 0 _ _ _ hDb
  have e1 := cell_of_row _ _ 1 _ _ _ hDb
  clear hA hB hDb hxd hxy hy3 HA HB HAR HFI c2
  have hy4 : Ext w (y3.alloc (.cells #[.string (strOf fc.a), .bool false] 111)) := hxw
  have hcall := HD.out ((y3.alloc (.cells #[.string (strOf fc.a), .bool false] 111)).alloc (.cells #[.string (strOf cu.1.a), .bool cu.1.e, .string (strOf cu.2.a), .bool cu.2.e] 113)) _ [⟨cu.1, cu.2⟩] (hy4.alloc _) (own_sp _ w.heap.size _ _ HCE.out hy4.size (by simp [maxLen])) (by simp)
  rw [World.size_alloc] at hcall
  have HCALL := Lib.hid hcall
  clear hcall
  go_wp2_with fail
  refine HCALL.out.mono ?_
  rintro e w5 ⟨u, rfl, h1, h2⟩
  go_wp2_with fail
  go_ret
  exact ⟨u, rfl, by rw [HRES.out]; exact h1, h2⟩

set_option maxRecDepth 100000 in
set_option maxHeartbeats 8000000 in
theorem of_3 (w : World) (nm : ByteArray) (v : V) (sa : Option Addr) (sn sc : Nat) (hn : okN v.n) (hs : v.s.length ≤ 140737488355328) :
    Calls Tryz.prog 86 #[.agg #[.string nm, .int .i64 3, .int .i64 v.k, .int .i64 v.n, .string (strOf v.s), .bool v.b, .slice sa sn sc]] w fun e w' => ∃ u, e = .returned u ∧ SpR w' u (ofL ⟨[], 3, v, []⟩) ∧ Ext w w' := by
  have hres : ofL ⟨[], 3, v, []⟩ = fullS [⟨firstC v.k, (aroundV v).1⟩, ⟨(aroundV v).2, endC⟩] := rfl
  obtain ⟨hx0, hC⟩ := boxes1 w (.cells #[.string nm, .int .i64 3, .int .i64 v.k, .int .i64 v.n, .string (strOf v.s), .bool v.b, .slice sa sn sc] 37)
  have har := fun W => around_any W v hn hs
  have hfi := fun W => first_any W v.k
  have hfe := firstC_e v.k
  have hD := fun W u l => delete_full w W u l
  have HRES := Lib.hid hres
  have HAR := Lib.hid har
  have HFI := Lib.hid hfi
  have HFE := Lib.hid hfe
  have HD := Lib.hid hD
  clear hres har hfi hfe hD hn hs
  generalize aroundV v = cu at *
  generalize hvk : firstC v.k = fc at *
  clear hvk
  have HCE : Hid ((#[.string (strOf fc.a), .bool false, .string (strOf cu.1.a), .bool cu.1.e, .string (strOf cu.2.a), .bool cu.2.e, .string ⟨#[]⟩, .bool true] : Array Value) = (([⟨fc, cu.1⟩, ⟨cu.2, endC⟩] : List Sp).flatMap spC).toArray) := by
    show _ = _
    simp only [List.flatMap_cons, List.flatMap_nil, spC, HFE.out]
    rfl
  have c1 := cell_of_row _ _ 1 _ _ _ hC
  have c2 := cell_of_row _ _ 2 _ _ _ hC
  have c3 := cell_of_row _ _ 3 _ _ _ hC
  have c4 := cell_of_row _ _ 4 _ _ _ hC
  have c5 := cell_of_row _ _ 5 _ _ _ hC
  clear hC
  go_enter Tryz.func86, Tryz.ntmps86
  go_wp2_with fail
  refine (HAR.out _).mono ?_
  rintro e y1 ⟨rfl, hy1⟩
  obtain ⟨hxb, hA, hB⟩ := boxes2 y1 (.cells #[.string (strOf cu.1.a), .bool cu.1.e] 111) (.cells #[.string (strOf cu.2.a), .bool cu.2.e] 111)
  have hxy := hy1.trans hxb
  have c1 := hxy.cell c1
  have c2 := hxy.cell c2
  have c4 := hxy.cell c4
  have hxw := hx0.trans hxy
  have HA := Lib.hid hA
  have HB := Lib.hid hB
  clear hA hB hxb hxy hy1 hx0 c3 c5
  go_wp2_with fail
  generalize (y1.alloc (.cells #[.string (strOf cu.1.a), .bool cu.1.e] 111)).alloc (.cells #[.string (strOf cu.2.a), .bool cu.2.e] 111) = y2 at *
  refine (HFI.out _).mono ?_
  rintro e y3 ⟨rfl, hy3⟩
  obtain ⟨hxd, hDb⟩ := boxes1 y3 (.cells #[.string (strOf fc.a), .bool false] 111)
  have hxy := hy3.trans hxd
  have c1 := hxy.cell c1
  have c4 := hxy.cell c4
  have hA := block_later HA.out hxy
  have hB := block_later HB.out hxy
  have hxw := hxw.trans hxy
  have a0 := cell_of_row _ _ 0 _ _ _ hA
  have a1 := cell_of_row _ _ 1 _ _ _ hA
  have b0 := cell_of_row _ _ 0 _ _ _ hB
  have b1 := cell_of_row _ _ 1 _ _ _ hB
  have d0 := cell_of_row _ _ 0 _ _ _ hDb
  have e1 := cell_of_row _ _ 1 _ _ _ hDb
  clear hA hB hDb hxd hxy hy3 HA HB HAR HFI c2
  go_upto_region 8 with fail
  generalize y3.alloc (.cells #[.string (strOf fc.a), .bool false] 111) = y4 at *
  refine wp_region_facts [Fact.eq (.agg #[.string (strOf fc.a), .bool false]),
      Fact.eq (.agg #[.string (strOf cu.1.a), .bool cu.1.e]),
      Fact.eq (.agg #[.string (strOf fc.a), .bool false, .string (strOf cu.1.a), .bool cu.1.e]),
      Fact.eq (.agg #[.string (strOf cu.2.a), .bool cu.2.e]),
      Fact.eq (.agg #[.string ⟨#[]⟩, .bool true]),
      Fact.eq (.agg #[.string (strOf cu.2.a), .bool cu.2.e, .string ⟨#[]⟩, .bool true]),
      Fact.ownSp w.heap.size [⟨fc, cu.1⟩, ⟨cu.2, endC⟩],
      Fact.ownSp w.heap.size [⟨fc, cu.1⟩, ⟨cu.2, endC⟩]]
    [[], [], [(0, 27), (1, 28)], [], [], [(3, 30), (4, 31)], [(2, 29), (5, 32)], [(6, 33)]]
    [(0, 27), (1, 28), (2, 29), (3, 30), (4, 31), (5, 32), (6, 33), (7, 6)] (by kernel_rfl) (by kernel_rfl) ?_ ?_
  · refine ⟨?_, ?_, ?_, ?_, ?_, ?_, ?_, ?_, trivial⟩
    · intro w1 hx1; change wpList _ _ _ _ _ _; have m0 := hx1.cell d0; have m1 := hx1.cell e1; go_wp2_with fail; exact ⟨rfl, Ext.refl _, rfl, rfl⟩
    · intro w1 hx1; change wpList _ _ _ _ _ _; have m0 := hx1.cell a0; have m1 := hx1.cell a1; go_wp2_with fail; exact ⟨rfl, Ext.refl _, rfl, rfl⟩
    · intro w1 hx1; rintro _ rfl; rintro _ rfl; change wpList _ _ _ _ _ _; go_wp2_with fail; exact ⟨rfl, Ext.refl _, rfl, rfl⟩
    · intro w1 hx1; change wpList _ _ _ _ _ _; have m0 := hx1.cell b0; have m1 := hx1.cell b1; go_wp2_with fail; exact ⟨rfl, Ext.refl _, rfl, rfl⟩
    · intro w1 hx1; change wpList _ _ _ _ _ _; go_wp2_with fail; refine (end_any w1).mono ?_; rintro e w2 ⟨rfl, hx2⟩; go_wp2_with fail; exact ⟨rfl, hx2, rfl, rfl⟩
    · intro w1 hx1; rintro _ rfl; rintro _ rfl; change wpList _ _ _ _ _ _; go_wp2_with fail; exact ⟨rfl, Ext.refl _, rfl, rfl⟩
    · intro w1 hx1; rintro _ rfl; rintro _ rfl; change wpList _ _ _ _ _ _; go_wp2_with fail; exact ⟨rfl, (Ext.refl _).alloc _, rfl, own_sp w1 _ _ _ HCE.out (hxw.trans hx1).size (by simp [maxLen])⟩
    · intro w1 hx1; intro v33 h33; change wpList _ _ _ _ _ _; exact ob_assign rfl rfl rfl rfl h33
  · intro w1 hx1; rintro _ rfl; rintro _ rfl; rintro _ rfl; rintro _ rfl; rintro _ rfl; rintro _ rfl; intro v33 h33; intro v6 h6; refine depsThen_nil ?_; dsimp only; simp only [Act.put, List.setIfInBounds_toArray, List.set_cons_zero, List.set_cons_succ]
    replace h33 : (Fact.ownSp w.heap.size [⟨fc, cu.1⟩, ⟨cu.2, endC⟩]).p v33 w1 := h33
    replace h6 : (Fact.ownSp w.heap.size [⟨fc, cu.1⟩, ⟨cu.2, endC⟩]).p v6 w1 := h6
    have ho : w1.ownsRow w.heap.size 113 4 v6 ([⟨fc, cu.1⟩, ⟨cu.2, endC⟩] : List Sp).length (([⟨fc, cu.1⟩, ⟨cu.2, endC⟩] : List Sp).flatMap spC) := h6
    obtain ⟨aa, cc, rfl, _, _⟩ := Row.shape (Row.of_own ho)
    have hcall := HD.out w1 _ [⟨fc, cu.1⟩, ⟨cu.2, endC⟩] (hxw.trans hx1) ho (by simp)
    have HCALL := Lib.hid hcall
    clear hcall ho h6 h33
    go_wp2_with fail
    refine HCALL.out.mono ?_
    rintro e w5 ⟨u, rfl, h1, h2⟩
    go_wp2_with fail
    go_ret
    exact ⟨u, rfl, by rw [HRES.out]; exact h1, h2⟩

set_option maxRecDepth 100000 in
set_option maxHeartbeats 8000000 in
theorem of_4 (w : World) (nm : ByteArray) (v : V) (sa : Option Addr) (sn sc : Nat) (hn : okN v.n) (hs : v.s.length ≤ 140737488355328) :
    Calls Tryz.prog 86 #[.agg #[.string nm, .int .i64 4, .int .i64 v.k, .int .i64 v.n, .string (strOf v.s), .bool v.b, .slice sa sn sc]] w fun e w' => ∃ u, e = .returned u ∧ SpR w' u (ofL ⟨[], 4, v, []⟩) ∧ Ext w w' := by
  have hres : ofL ⟨[], 4, v, []⟩ = fullS [⟨firstC v.k, (aroundV v).1⟩] := rfl
  obtain ⟨hx0, hC⟩ := boxes1 w (.cells #[.string nm, .int .i64 4, .int .i64 v.k, .int .i64 v.n, .string (strOf v.s), .bool v.b, .slice sa sn sc] 37)
  have har := fun W => around_any W v hn hs
  have hfi := fun W => first_any W v.k
  have hfe := firstC_e v.k
  have hD := fun W u l => delete_full w W u l
  have HRES := Lib.hid hres
  have HAR := Lib.hid har
  have HFI := Lib.hid hfi
  have HFE := Lib.hid hfe
  have HD := Lib.hid hD
  clear hres har hfi hfe hD hn hs
  generalize aroundV v = cu at *
  generalize hvk : firstC v.k = fc at *
  clear hvk
  have HCE : Hid ((#[.string (strOf fc.a), .bool false, .string (strOf cu.1.a), .bool cu.1.e] : Array Value) = (([⟨fc, cu.1⟩] : List Sp).flatMap spC).toArray) := by
    show _ = _
    simp only [List.flatMap_cons, List.flatMap_nil, spC, HFE.out]
    rfl
  have c1 := cell_of_row _ _ 1 _ _ _ hC
  have c2 := cell_of_row _ _ 2 _ _ _ hC
  have c3 := cell_of_row _ _ 3 _ _ _ hC
  have c4 := cell_of_row _ _ 4 _ _ _ hC
  have c5 := cell_of_row _ _ 5 _ _ _ hC
  clear hC
  go_enter Tryz.func86, Tryz.ntmps86
  go_wp2_with fail
  refine (HAR.out _).mono ?_
  rintro e y1 ⟨rfl, hy1⟩
  obtain ⟨hxb, hA, hB⟩ := boxes2 y1 (.cells #[.string (strOf cu.1.a), .bool cu.1.e] 111) (.cells #[.string (strOf cu.2.a), .bool cu.2.e] 111)
  have hxy := hy1.trans hxb
  have c1 := hxy.cell c1
  have c2 := hxy.cell c2
  have c4 := hxy.cell c4
  have hxw := hx0.trans hxy
  have HA := Lib.hid hA
  have HB := Lib.hid hB
  clear hA hB hxb hxy hy1 hx0 c3 c5
  go_wp2_with fail
  generalize (y1.alloc (.cells #[.string (strOf cu.1.a), .bool cu.1.e] 111)).alloc (.cells #[.string (strOf cu.2.a), .bool cu.2.e] 111) = y2 at *
  refine (HFI.out _).mono ?_
  rintro e y3 ⟨rfl, hy3⟩
  obtain ⟨hxd, hDb⟩ := boxes1 y3 (.cells #[.string (strOf fc.a), .bool false] 111)
  have hxy := hy3.trans hxd
  have c1 := hxy.cell c1
  have c4 := hxy.cell c4
  have hA := block_later HA.out hxy
  have hB := block_later HB.out hxy
  have hxw := hxw.trans hxy
  have a0 := cell_of_row _ _ 0 _ _ _ hA
  have a1 := cell_of_row _ _ 1 _ _ _ hA
  have b0 := cell_of_row _ _ 0 _ _ _ hB
  have b1 := cell_of_row _ _ 1 _ _ _ hB
  have d0 := cell_of_row _ _ 0 _ _ _ hDb
  have e1 := cell_of_row _ _ 1 _ _ _ hDb
  clear hA hB hDb hxd hxy hy3 HA HB HAR HFI c2
  have hy4 : Ext w (y3.alloc (.cells #[.string (strOf fc.a), .bool false] 111)) := hxw
  have hcall := HD.out ((y3.alloc (.cells #[.string (strOf fc.a), .bool false] 111)).alloc (.cells #[.string (strOf fc.a), .bool false, .string (strOf cu.1.a), .bool cu.1.e] 113)) _ [⟨fc, cu.1⟩] (hy4.alloc _) (own_sp _ w.heap.size _ _ HCE.out hy4.size (by simp [maxLen])) (by simp)
  rw [World.size_alloc] at hcall
  have HCALL := Lib.hid hcall
  clear hcall
  go_wp2_with fail
  refine HCALL.out.mono ?_
  rintro e w5 ⟨u, rfl, h1, h2⟩
  go_wp2_with fail
  go_ret
  exact ⟨u, rfl, by rw [HRES.out]; exact h1, h2⟩

set_option maxRecDepth 100000 in
set_option maxHeartbeats 8000000 in
theorem of_5 (w : World) (nm : ByteArray) (v : V) (sa : Option Addr) (sn sc : Nat) (hn : okN v.n) (hs : v.s.length ≤ 140737488355328) :
    Calls Tryz.prog 86 #[.agg #[.string nm, .int .i64 5, .int .i64 v.k, .int .i64 v.n, .string (strOf v.s), .bool v.b, .slice sa sn sc]] w fun e w' => ∃ u, e = .returned u ∧ SpR w' u (ofL ⟨[], 5, v, []⟩) ∧ Ext w w' := by
  have hres : ofL ⟨[], 5, v, []⟩ = fullS [⟨firstC v.k, (aroundV v).2⟩] := rfl
  obtain ⟨hx0, hC⟩ := boxes1 w (.cells #[.string nm, .int .i64 5, .int .i64 v.k, .int .i64 v.n, .string (strOf v.s), .bool v.b, .slice sa sn sc] 37)
  have har := fun W => around_any W v hn hs
  have hfi := fun W => first_any W v.k
  have hfe := firstC_e v.k
  have hD := fun W u l => delete_full w W u l
  have HRES := Lib.hid hres
  have HAR := Lib.hid har
  have HFI := Lib.hid hfi
  have HFE := Lib.hid hfe
  have HD := Lib.hid hD
  clear hres har hfi hfe hD hn hs
  generalize aroundV v = cu at *
  generalize hvk : firstC v.k = fc at *
  clear hvk
  have HCE : Hid ((#[.string (strOf fc.a), .bool false, .string (strOf cu.2.a), .bool cu.2.e] : Array Value) = (([⟨fc, cu.2⟩] : List Sp).flatMap spC).toArray) := by
    show _ = _
    simp only [List.flatMap_cons, List.flatMap_nil, spC, HFE.out]
    rfl
  have c1 := cell_of_row _ _ 1 _ _ _ hC
  have c2 := cell_of_row _ _ 2 _ _ _ hC
  have c3 := cell_of_row _ _ 3 _ _ _ hC
  have c4 := cell_of_row _ _ 4 _ _ _ hC
  have c5 := cell_of_row _ _ 5 _ _ _ hC
  clear hC
  go_enter Tryz.func86, Tryz.ntmps86
  go_wp2_with fail
  refine (HAR.out _).mono ?_
  rintro e y1 ⟨rfl, hy1⟩
  obtain ⟨hxb, hA, hB⟩ := boxes2 y1 (.cells #[.string (strOf cu.1.a), .bool cu.1.e] 111) (.cells #[.string (strOf cu.2.a), .bool cu.2.e] 111)
  have hxy := hy1.trans hxb
  have c1 := hxy.cell c1
  have c2 := hxy.cell c2
  have c4 := hxy.cell c4
  have hxw := hx0.trans hxy
  have HA := Lib.hid hA
  have HB := Lib.hid hB
  clear hA hB hxb hxy hy1 hx0 c3 c5
  go_wp2_with fail
  generalize (y1.alloc (.cells #[.string (strOf cu.1.a), .bool cu.1.e] 111)).alloc (.cells #[.string (strOf cu.2.a), .bool cu.2.e] 111) = y2 at *
  refine (HFI.out _).mono ?_
  rintro e y3 ⟨rfl, hy3⟩
  obtain ⟨hxd, hDb⟩ := boxes1 y3 (.cells #[.string (strOf fc.a), .bool false] 111)
  have hxy := hy3.trans hxd
  have c1 := hxy.cell c1
  have c4 := hxy.cell c4
  have hA := block_later HA.out hxy
  have hB := block_later HB.out hxy
  have hxw := hxw.trans hxy
  have a0 := cell_of_row _ _ 0 _ _ _ hA
  have a1 := cell_of_row _ _ 1 _ _ _ hA
  have b0 := cell_of_row _ _ 0 _ _ _ hB
  have b1 := cell_of_row _ _ 1 _ _ _ hB
  have d0 := cell_of_row _ _ 0 _ _ _ hDb
  have e1 := cell_of_row _ _ 1 _ _ _ hDb
  clear hA hB hDb hxd hxy hy3 HA HB HAR HFI c2
  have hy4 : Ext w (y3.alloc (.cells #[.string (strOf fc.a), .bool false] 111)) := hxw
  have hcall := HD.out ((y3.alloc (.cells #[.string (strOf fc.a), .bool false] 111)).alloc (.cells #[.string (strOf fc.a), .bool false, .string (strOf cu.2.a), .bool cu.2.e] 113)) _ [⟨fc, cu.2⟩] (hy4.alloc _) (own_sp _ w.heap.size _ _ HCE.out hy4.size (by simp [maxLen])) (by simp)
  rw [World.size_alloc] at hcall
  have HCALL := Lib.hid hcall
  clear hcall
  go_wp2_with fail
  refine HCALL.out.mono ?_
  rintro e w5 ⟨u, rfl, h1, h2⟩
  go_wp2_with fail
  go_ret
  exact ⟨u, rfl, by rw [HRES.out]; exact h1, h2⟩

set_option maxRecDepth 100000 in
set_option maxHeartbeats 8000000 in
theorem of_6 (w : World) (nm : ByteArray) (v : V) (sa : Option Addr) (sn sc : Nat) (hn : okN v.n) (hs : v.s.length ≤ 140737488355328) :
    Calls Tryz.prog 86 #[.agg #[.string nm, .int .i64 6, .int .i64 v.k, .int .i64 v.n, .string (strOf v.s), .bool v.b, .slice sa sn sc]] w fun e w' => ∃ u, e = .returned u ∧ SpR w' u (ofL ⟨[], 6, v, []⟩) ∧ Ext w w' := by
  have hres : ofL ⟨[], 6, v, []⟩ = fullS [⟨(aroundV v).2, endC⟩] := rfl
  obtain ⟨hx0, hC⟩ := boxes1 w (.cells #[.string nm, .int .i64 6, .int .i64 v.k, .int .i64 v.n, .string (strOf v.s), .bool v.b, .slice sa sn sc] 37)
  have har := fun W => around_any W v hn hs
  have hfi := fun W => first_any W v.k
  have hfe := firstC_e v.k
  have hD := fun W u l => delete_full w W u l
  have HRES := Lib.hid hres
  have HAR := Lib.hid har
  have HFI := Lib.hid hfi
  have HFE := Lib.hid hfe
  have HD := Lib.hid hD
  clear hres har hfi hfe hD hn hs
  generalize aroundV v = cu at *
  generalize hvk : firstC v.k = fc at *
  clear hvk
  have HCE : Hid ((#[.string (strOf cu.2.a), .bool cu.2.e, .string ⟨#[]⟩, .bool true] : Array Value) = (([⟨cu.2, endC⟩] : List Sp).flatMap spC).toArray) := by
    show _ = _
    simp only [List.flatMap_cons, List.flatMap_nil, spC]
    rfl
  have c1 := cell_of_row _ _ 1 _ _ _ hC
  have c2 := cell_of_row _ _ 2 _ _ _ hC
  have c3 := cell_of_row _ _ 3 _ _ _ hC
  have c4 := cell_of_row _ _ 4 _ _ _ hC
  have c5 := cell_of_row _ _ 5 _ _ _ hC
  clear hC
  go_enter Tryz.func86, Tryz.ntmps86
  go_wp2_with fail
  refine (HAR.out _).mono ?_
  rintro e y1 ⟨rfl, hy1⟩
  obtain ⟨hxb, hA, hB⟩ := boxes2 y1 (.cells #[.string (strOf cu.1.a), .bool cu.1.e] 111) (.cells #[.string (strOf cu.2.a), .bool cu.2.e] 111)
  have hxy := hy1.trans hxb
  have c1 := hxy.cell c1
  have c2 := hxy.cell c2
  have c4 := hxy.cell c4
  have hxw := hx0.trans hxy
  have HA := Lib.hid hA
  have HB := Lib.hid hB
  clear hA hB hxb hxy hy1 hx0 c3 c5
  go_wp2_with fail
  generalize (y1.alloc (.cells #[.string (strOf cu.1.a), .bool cu.1.e] 111)).alloc (.cells #[.string (strOf cu.2.a), .bool cu.2.e] 111) = y2 at *
  refine (HFI.out _).mono ?_
  rintro e y3 ⟨rfl, hy3⟩
  obtain ⟨hxd, hDb⟩ := boxes1 y3 (.cells #[.string (strOf fc.a), .bool false] 111)
  have hxy := hy3.trans hxd
  have c1 := hxy.cell c1
  have c4 := hxy.cell c4
  have hA := block_later HA.out hxy
  have hB := block_later HB.out hxy
  have hxw := hxw.trans hxy
  have a0 := cell_of_row _ _ 0 _ _ _ hA
  have a1 := cell_of_row _ _ 1 _ _ _ hA
  have b0 := cell_of_row _ _ 0 _ _ _ hB
  have b1 := cell_of_row _ _ 1 _ _ _ hB
  have d0 := cell_of_row _ _ 0 _ _ _ hDb
  have e1 := cell_of_row _ _ 1 _ _ _ hDb
  clear hA hB hDb hxd hxy hy3 HA HB HAR HFI c2
  go_upto_region 14 with fail
  generalize y3.alloc (.cells #[.string (strOf fc.a), .bool false] 111) = y4 at *
  refine wp_region_facts [Fact.eq (.agg #[.string (strOf cu.2.a), .bool cu.2.e]),
      Fact.eq (.agg #[.string ⟨#[]⟩, .bool true]),
      Fact.eq (.agg #[.string (strOf cu.2.a), .bool cu.2.e, .string ⟨#[]⟩, .bool true]),
      Fact.ownSp w.heap.size [⟨cu.2, endC⟩],
      Fact.ownSp w.heap.size [⟨cu.2, endC⟩]]
    [[], [], [(0, 48), (1, 49)], [(2, 50)], [(3, 51)]]
    [(0, 48), (1, 49), (2, 50), (3, 51), (4, 6)] (by kernel_rfl) (by kernel_rfl) ?_ ?_
  · refine ⟨?_, ?_, ?_, ?_, ?_, trivial⟩
    · intro w1 hx1; change wpList _ _ _ _ _ _; have m0 := hx1.cell b0; have m1 := hx1.cell b1; go_wp2_with fail; exact ⟨rfl, Ext.refl _, rfl, rfl⟩
    · intro w1 hx1; change wpList _ _ _ _ _ _; go_wp2_with fail; refine (end_any w1).mono ?_; rintro e w2 ⟨rfl, hx2⟩; go_wp2_with fail; exact ⟨rfl, hx2, rfl, rfl⟩
    · intro w1 hx1; rintro _ rfl; rintro _ rfl; change wpList _ _ _ _ _ _; go_wp2_with fail; exact ⟨rfl, Ext.refl _, rfl, rfl⟩
    · intro w1 hx1; rintro _ rfl; change wpList _ _ _ _ _ _; go_wp2_with fail; exact ⟨rfl, (Ext.refl _).alloc _, rfl, own_sp w1 _ _ _ HCE.out (hxw.trans hx1).size (by simp [maxLen])⟩
    · intro w1 hx1; intro v51 h51; change wpList _ _ _ _ _ _; exact ob_assign rfl rfl rfl rfl h51
  · intro w1 hx1; rintro _ rfl; rintro _ rfl; rintro _ rfl; intro v51 h51; intro v6 h6; refine depsThen_nil ?_; dsimp only; simp only [Act.put, List.setIfInBounds_toArray, List.set_cons_zero, List.set_cons_succ]
    replace h51 : (Fact.ownSp w.heap.size [⟨cu.2, endC⟩]).p v51 w1 := h51
    replace h6 : (Fact.ownSp w.heap.size [⟨cu.2, endC⟩]).p v6 w1 := h6
    have ho : w1.ownsRow w.heap.size 113 4 v6 ([⟨cu.2, endC⟩] : List Sp).length (([⟨cu.2, endC⟩] : List Sp).flatMap spC) := h6
    obtain ⟨aa, cc, rfl, _, _⟩ := Row.shape (Row.of_own ho)
    have hcall := HD.out w1 _ [⟨cu.2, endC⟩] (hxw.trans hx1) ho (by simp)
    have HCALL := Lib.hid hcall
    clear hcall ho h6 h51
    go_wp2_with fail
    refine HCALL.out.mono ?_
    rintro e w5 ⟨u, rfl, h1, h2⟩
    go_wp2_with fail
    go_ret
    exact ⟨u, rfl, by rw [HRES.out]; exact h1, h2⟩

set_option maxRecDepth 100000 in
set_option maxHeartbeats 8000000 in
theorem of_7 (w : World) (nm : ByteArray) (v : V) (sa : Option Addr) (sn sc : Nat) (hn : okN v.n) (hs : v.s.length ≤ 140737488355328) :
    Calls Tryz.prog 86 #[.agg #[.string nm, .int .i64 7, .int .i64 v.k, .int .i64 v.n, .string (strOf v.s), .bool v.b, .slice sa sn sc]] w fun e w' => ∃ u, e = .returned u ∧ SpR w' u (ofL ⟨[], 7, v, []⟩) ∧ Ext w w' := by
  have hres : ofL ⟨[], 7, v, []⟩ = fullS [⟨(aroundV v).1, endC⟩] := rfl
  obtain ⟨hx0, hC⟩ := boxes1 w (.cells #[.string nm, .int .i64 7, .int .i64 v.k, .int .i64 v.n, .string (strOf v.s), .bool v.b, .slice sa sn sc] 37)
  have har := fun W => around_any W v hn hs
  have hfi := fun W => first_any W v.k
  have hfe := firstC_e v.k
  have hD := fun W u l => delete_full w W u l
  have HRES := Lib.hid hres
  have HAR := Lib.hid har
  have HFI := Lib.hid hfi
  have HFE := Lib.hid hfe
  have HD := Lib.hid hD
  clear hres har hfi hfe hD hn hs
  generalize aroundV v = cu at *
  generalize hvk : firstC v.k = fc at *
  clear hvk
  have HCE : Hid ((#[.string (strOf cu.1.a), .bool cu.1.e, .string ⟨#[]⟩, .bool true] : Array Value) = (([⟨cu.1, endC⟩] : List Sp).flatMap spC).toArray) := by
    show _ = _
    simp only [List.flatMap_cons, List.flatMap_nil, spC]
    rfl
  have c1 := cell_of_row _ _ 1 _ _ _ hC
  have c2 := cell_of_row _ _ 2 _ _ _ hC
  have c3 := cell_of_row _ _ 3 _ _ _ hC
  have c4 := cell_of_row _ _ 4 _ _ _ hC
  have c5 := cell_of_row _ _ 5 _ _ _ hC
  clear hC
  go_enter Tryz.func86, Tryz.ntmps86
  go_wp2_with fail
  refine (HAR.out _).mono ?_
  rintro e y1 ⟨rfl, hy1⟩
  obtain ⟨hxb, hA, hB⟩ := boxes2 y1 (.cells #[.string (strOf cu.1.a), .bool cu.1.e] 111) (.cells #[.string (strOf cu.2.a), .bool cu.2.e] 111)
  have hxy := hy1.trans hxb
  have c1 := hxy.cell c1
  have c2 := hxy.cell c2
  have c4 := hxy.cell c4
  have hxw := hx0.trans hxy
  have HA := Lib.hid hA
  have HB := Lib.hid hB
  clear hA hB hxb hxy hy1 hx0 c3 c5
  go_wp2_with fail
  generalize (y1.alloc (.cells #[.string (strOf cu.1.a), .bool cu.1.e] 111)).alloc (.cells #[.string (strOf cu.2.a), .bool cu.2.e] 111) = y2 at *
  refine (HFI.out _).mono ?_
  rintro e y3 ⟨rfl, hy3⟩
  obtain ⟨hxd, hDb⟩ := boxes1 y3 (.cells #[.string (strOf fc.a), .bool false] 111)
  have hxy := hy3.trans hxd
  have c1 := hxy.cell c1
  have c4 := hxy.cell c4
  have hA := block_later HA.out hxy
  have hB := block_later HB.out hxy
  have hxw := hxw.trans hxy
  have a0 := cell_of_row _ _ 0 _ _ _ hA
  have a1 := cell_of_row _ _ 1 _ _ _ hA
  have b0 := cell_of_row _ _ 0 _ _ _ hB
  have b1 := cell_of_row _ _ 1 _ _ _ hB
  have d0 := cell_of_row _ _ 0 _ _ _ hDb
  have e1 := cell_of_row _ _ 1 _ _ _ hDb
  clear hA hB hDb hxd hxy hy3 HA HB HAR HFI c2
  go_upto_region 16 with fail
  generalize y3.alloc (.cells #[.string (strOf fc.a), .bool false] 111) = y4 at *
  refine wp_region_facts [Fact.eq (.agg #[.string (strOf cu.1.a), .bool cu.1.e]),
      Fact.eq (.agg #[.string ⟨#[]⟩, .bool true]),
      Fact.eq (.agg #[.string (strOf cu.1.a), .bool cu.1.e, .string ⟨#[]⟩, .bool true]),
      Fact.ownSp w.heap.size [⟨cu.1, endC⟩],
      Fact.ownSp w.heap.size [⟨cu.1, endC⟩]]
    [[], [], [(0, 54), (1, 55)], [(2, 56)], [(3, 57)]]
    [(0, 54), (1, 55), (2, 56), (3, 57), (4, 6)] (by kernel_rfl) (by kernel_rfl) ?_ ?_
  · refine ⟨?_, ?_, ?_, ?_, ?_, trivial⟩
    · intro w1 hx1; change wpList _ _ _ _ _ _; have m0 := hx1.cell a0; have m1 := hx1.cell a1; go_wp2_with fail; exact ⟨rfl, Ext.refl _, rfl, rfl⟩
    · intro w1 hx1; change wpList _ _ _ _ _ _; go_wp2_with fail; refine (end_any w1).mono ?_; rintro e w2 ⟨rfl, hx2⟩; go_wp2_with fail; exact ⟨rfl, hx2, rfl, rfl⟩
    · intro w1 hx1; rintro _ rfl; rintro _ rfl; change wpList _ _ _ _ _ _; go_wp2_with fail; exact ⟨rfl, Ext.refl _, rfl, rfl⟩
    · intro w1 hx1; rintro _ rfl; change wpList _ _ _ _ _ _; go_wp2_with fail; exact ⟨rfl, (Ext.refl _).alloc _, rfl, own_sp w1 _ _ _ HCE.out (hxw.trans hx1).size (by simp [maxLen])⟩
    · intro w1 hx1; intro v57 h57; change wpList _ _ _ _ _ _; exact ob_assign rfl rfl rfl rfl h57
  · intro w1 hx1; rintro _ rfl; rintro _ rfl; rintro _ rfl; intro v57 h57; intro v6 h6; refine depsThen_nil ?_; dsimp only; simp only [Act.put, List.setIfInBounds_toArray, List.set_cons_zero, List.set_cons_succ]
    replace h57 : (Fact.ownSp w.heap.size [⟨cu.1, endC⟩]).p v57 w1 := h57
    replace h6 : (Fact.ownSp w.heap.size [⟨cu.1, endC⟩]).p v6 w1 := h6
    have ho : w1.ownsRow w.heap.size 113 4 v6 ([⟨cu.1, endC⟩] : List Sp).length (([⟨cu.1, endC⟩] : List Sp).flatMap spC) := h6
    obtain ⟨aa, cc, rfl, _, _⟩ := Row.shape (Row.of_own ho)
    have hcall := HD.out w1 _ [⟨cu.1, endC⟩] (hxw.trans hx1) ho (by simp)
    have HCALL := Lib.hid hcall
    clear hcall ho h6 h57
    go_wp2_with fail
    refine HCALL.out.mono ?_
    rintro e w5 ⟨u, rfl, h1, h2⟩
    go_wp2_with fail
    go_ret
    exact ⟨u, rfl, by rw [HRES.out]; exact h1, h2⟩

set_option maxRecDepth 100000 in
set_option maxHeartbeats 8000000 in
theorem of_8 (w : World) (nm : ByteArray) (v : V) (sa : Option Addr) (sn sc : Nat) (hn : okN v.n) (hs : v.s.length ≤ 140737488355328) :
    Calls Tryz.prog 86 #[.agg #[.string nm, .int .i64 8, .int .i64 v.k, .int .i64 v.n, .string (strOf v.s), .bool v.b, .slice sa sn sc]] w fun e w' => ∃ u, e = .returned u ∧ SpR w' u (ofL ⟨[], 8, v, []⟩) ∧ Ext w w' := by
  have hres : ofL ⟨[], 8, v, []⟩ = fullS [⟨(aroundV v).1, pastF v.s⟩] := rfl
  obtain ⟨hx0, hC⟩ := boxes1 w (.cells #[.string nm, .int .i64 8, .int .i64 v.k, .int .i64 v.n, .string (strOf v.s), .bool v.b, .slice sa sn sc] 37)
  have har := fun W => around_any W v hn hs
  have hfi := fun W => first_any W v.k
  have hfe := firstC_e v.k
  have hD := fun W u l => delete_full w W u l
  have hpa := fun W => past_any W v.s hs
  have HPA := Lib.hid hpa
  clear hpa
  generalize pastF v.s = pc at *
  have HRES := Lib.hid hres
  have HAR := Lib.hid har
  have HFI := Lib.hid hfi
  have HFE := Lib.hid hfe
  have HD := Lib.hid hD
  clear hres har hfi hfe hD hn hs
  generalize aroundV v = cu at *
  generalize hvk : firstC v.k = fc at *
  clear hvk
  have HCE : Hid ((#[.string (strOf cu.1.a), .bool cu.1.e, .string (strOf pc.a), .bool pc.e] : Array Value) = (([⟨cu.1, pc⟩] : List Sp).flatMap spC).toArray) := by
    show _ = _
    simp only [List.flatMap_cons, List.flatMap_nil, spC]
    rfl
  have c1 := cell_of_row _ _ 1 _ _ _ hC
  have c2 := cell_of_row _ _ 2 _ _ _ hC
  have c3 := cell_of_row _ _ 3 _ _ _ hC
  have c4 := cell_of_row _ _ 4 _ _ _ hC
  have c5 := cell_of_row _ _ 5 _ _ _ hC
  clear hC
  go_enter Tryz.func86, Tryz.ntmps86
  go_wp2_with fail
  refine (HAR.out _).mono ?_
  rintro e y1 ⟨rfl, hy1⟩
  obtain ⟨hxb, hA, hB⟩ := boxes2 y1 (.cells #[.string (strOf cu.1.a), .bool cu.1.e] 111) (.cells #[.string (strOf cu.2.a), .bool cu.2.e] 111)
  have hxy := hy1.trans hxb
  have c1 := hxy.cell c1
  have c2 := hxy.cell c2
  have c4 := hxy.cell c4
  have hxw := hx0.trans hxy
  have HA := Lib.hid hA
  have HB := Lib.hid hB
  clear hA hB hxb hxy hy1 hx0 c3 c5
  go_wp2_with fail
  generalize (y1.alloc (.cells #[.string (strOf cu.1.a), .bool cu.1.e] 111)).alloc (.cells #[.string (strOf cu.2.a), .bool cu.2.e] 111) = y2 at *
  refine (HFI.out _).mono ?_
  rintro e y3 ⟨rfl, hy3⟩
  obtain ⟨hxd, hDb⟩ := boxes1 y3 (.cells #[.string (strOf fc.a), .bool false] 111)
  have hxy := hy3.trans hxd
  have c1 := hxy.cell c1
  have c4 := hxy.cell c4
  have hA := block_later HA.out hxy
  have hB := block_later HB.out hxy
  have hxw := hxw.trans hxy
  have a0 := cell_of_row _ _ 0 _ _ _ hA
  have a1 := cell_of_row _ _ 1 _ _ _ hA
  have b0 := cell_of_row _ _ 0 _ _ _ hB
  have b1 := cell_of_row _ _ 1 _ _ _ hB
  have d0 := cell_of_row _ _ 0 _ _ _ hDb
  have e1 := cell_of_row _ _ 1 _ _ _ hDb
  clear hA hB hDb hxd hxy hy3 HA HB HAR HFI c2
  go_upto_region 18 with fail
  generalize y3.alloc (.cells #[.string (strOf fc.a), .bool false] 111) = y4 at *
  refine wp_region_facts [Fact.eq (.agg #[.string (strOf cu.1.a), .bool cu.1.e]),
      Fact.eq (.pointer (some ⟨w.heap.size, 2, none⟩)),
      Fact.eq (.pointer (some ⟨w.heap.size, 4, none⟩)),
      Fact.eq (.string (strOf v.s)),
      Fact.eq (.agg #[.string (strOf pc.a), .bool pc.e]),
      Fact.eq (.agg #[.string (strOf cu.1.a), .bool cu.1.e, .string (strOf pc.a), .bool pc.e]),
      Fact.ownSp w.heap.size [⟨cu.1, pc⟩],
      Fact.ownSp w.heap.size [⟨cu.1, pc⟩]]
    [[], [], [(1, 61)], [(2, 62)], [(3, 63)], [(0, 60), (4, 64)], [(5, 65)], [(6, 66)]]
    [(0, 60), (1, 61), (2, 62), (3, 63), (4, 64), (5, 65), (6, 66), (7, 6)] (by kernel_rfl) (by kernel_rfl) ?_ ?_
  · refine ⟨?_, ?_, ?_, ?_, ?_, ?_, ?_, ?_, trivial⟩
    · intro w1 hx1; change wpList _ _ _ _ _ _; have m0 := hx1.cell a0; have m1 := hx1.cell a1; go_wp2_with fail; exact ⟨rfl, Ext.refl _, rfl, rfl⟩
    · intro w1 hx1; change wpList _ _ _ _ _ _; go_wp2_with fail; exact ⟨rfl, Ext.refl _, rfl, rfl⟩
    · intro w1 hx1; rintro _ rfl; change wpList _ _ _ _ _ _; go_wp2_with fail; exact ⟨rfl, Ext.refl _, rfl, rfl⟩
    · intro w1 hx1; rintro _ rfl; change wpList _ _ _ _ _ _; have m := hx1.cell c4; go_wp2_with fail; exact ⟨rfl, Ext.refl _, rfl, rfl⟩
    · intro w1 hx1; rintro _ rfl; change wpList _ _ _ _ _ _; go_wp2_with fail; refine (HPA.out w1).mono ?_; rintro e w2 ⟨rfl, hx2⟩; go_wp2_with fail; exact ⟨rfl, hx2, rfl, rfl⟩
    · intro w1 hx1; rintro _ rfl; rintro _ rfl; change wpList _ _ _ _ _ _; go_wp2_with fail; exact ⟨rfl, Ext.refl _, rfl, rfl⟩
    · intro w1 hx1; rintro _ rfl; change wpList _ _ _ _ _ _; go_wp2_with fail; exact ⟨rfl, (Ext.refl _).alloc _, rfl, own_sp w1 _ _ _ HCE.out (hxw.trans hx1).size (by simp [maxLen])⟩
    · intro w1 hx1; intro v66 h66; change wpList _ _ _ _ _ _; exact ob_assign rfl rfl rfl rfl h66
  · intro w1 hx1; rintro _ rfl; rintro _ rfl; rintro _ rfl; rintro _ rfl; rintro _ rfl; rintro _ rfl; intro v66 h66; intro v6 h6; refine depsThen_nil ?_; dsimp only; simp only [Act.put, List.setIfInBounds_toArray, List.set_cons_zero, List.set_cons_succ]
    replace h66 : (Fact.ownSp w.heap.size [⟨cu.1, pc⟩]).p v66 w1 := h66
    replace h6 : (Fact.ownSp w.heap.size [⟨cu.1, pc⟩]).p v6 w1 := h6
    have ho : w1.ownsRow w.heap.size 113 4 v6 ([⟨cu.1, pc⟩] : List Sp).length (([⟨cu.1, pc⟩] : List Sp).flatMap spC) := h6
    obtain ⟨aa, cc, rfl, _, _⟩ := Row.shape (Row.of_own ho)
    have hcall := HD.out w1 _ [⟨cu.1, pc⟩] (hxw.trans hx1) ho (by simp)
    have HCALL := Lib.hid hcall
    clear hcall ho h6 h66
    go_wp2_with fail
    refine HCALL.out.mono ?_
    rintro e w5 ⟨u, rfl, h1, h2⟩
    go_wp2_with fail
    go_ret
    exact ⟨u, rfl, by rw [HRES.out]; exact h1, h2⟩

set_option maxRecDepth 100000 in
set_option maxHeartbeats 8000000 in
theorem of_0 (w : World) (nm : ByteArray) (op : Int) (v : V) (sa : Option Addr) (sn sc : Nat) (hn : okN v.n) (hs : v.s.length ≤ 140737488355328) (ho : op < 2 ∨ 8 < op) :
    Calls Tryz.prog 86 #[.agg #[.string nm, .int .i64 op, .int .i64 v.k, .int .i64 v.n, .string (strOf v.s), .bool v.b, .slice sa sn sc]] w fun e w' => ∃ u, e = .returned u ∧ SpR w' u (ofL ⟨[], op, v, []⟩) ∧ Ext w w' := by
  have hres : ofL ⟨[], op, v, []⟩ = fullS [] := by
    unfold ofL
    rw [if_neg (show ¬ op = 2 by omega), if_neg (show ¬ op = 3 by omega), if_neg (show ¬ op = 4 by omega), if_neg (show ¬ op = 5 by omega), if_neg (show ¬ op = 6 by omega), if_neg (show ¬ op = 7 by omega), if_neg (show ¬ op = 8 by omega)]
  have d2 : (op == 2) = false := beq_eq_false_iff_ne.2 (by omega)
  have d3 : (op == 3) = false := beq_eq_false_iff_ne.2 (by omega)
  have d4 : (op == 4) = false := beq_eq_false_iff_ne.2 (by omega)
  have d5 : (op == 5) = false := beq_eq_false_iff_ne.2 (by omega)
  have d6 : (op == 6) = false := beq_eq_false_iff_ne.2 (by omega)
  have d7 : (op == 7) = false := beq_eq_false_iff_ne.2 (by omega)
  have d8 : (op == 8) = false := beq_eq_false_iff_ne.2 (by omega)
  obtain ⟨hx0, hC⟩ := boxes1 w (.cells #[.string nm, .int .i64 op, .int .i64 v.k, .int .i64 v.n, .string (strOf v.s), .bool v.b, .slice sa sn sc] 37)
  have har := fun W => around_any W v hn hs
  have hfi := fun W => first_any W v.k
  have hfe := firstC_e v.k
  have hD := fun W u l => delete_full w W u l
  have HRES := Lib.hid hres
  have HAR := Lib.hid har
  have HFI := Lib.hid hfi
  have HFE := Lib.hid hfe
  have HD := Lib.hid hD
  clear hres har hfi hfe hD hn hs
  generalize aroundV v = cu at *
  generalize hvk : firstC v.k = fc at *
  clear hvk
  clear ho
  have c1 := cell_of_row _ _ 1 _ _ _ hC
  have c2 := cell_of_row _ _ 2 _ _ _ hC
  have c3 := cell_of_row _ _ 3 _ _ _ hC
  have c4 := cell_of_row _ _ 4 _ _ _ hC
  have c5 := cell_of_row _ _ 5 _ _ _ hC
  clear hC
  go_enter Tryz.func86, Tryz.ntmps86
  go_wp2_with fail
  refine (HAR.out _).mono ?_
  rintro e y1 ⟨rfl, hy1⟩
  obtain ⟨hxb, hA, hB⟩ := boxes2 y1 (.cells #[.string (strOf cu.1.a), .bool cu.1.e] 111) (.cells #[.string (strOf cu.2.a), .bool cu.2.e] 111)
  have hxy := hy1.trans hxb
  have c1 := hxy.cell c1
  have c2 := hxy.cell c2
  have c4 := hxy.cell c4
  have hxw := hx0.trans hxy
  have HA := Lib.hid hA
  have HB := Lib.hid hB
  clear hA hB hxb hxy hy1 hx0 c3 c5
  go_wp2_with fail
  generalize (y1.alloc (.cells #[.string (strOf cu.1.a), .bool cu.1.e] 111)).alloc (.cells #[.string (strOf cu.2.a), .bool cu.2.e] 111) = y2 at *
  refine (HFI.out _).mono ?_
  rintro e y3 ⟨rfl, hy3⟩
  obtain ⟨hxd, hDb⟩ := boxes1 y3 (.cells #[.string (strOf fc.a), .bool false] 111)
  have hxy := hy3.trans hxd
  have c1 := hxy.cell c1
  have c4 := hxy.cell c4
  have hA := block_later HA.out hxy
  have hB := block_later HB.out hxy
  have hxw := hxw.trans hxy
  have a0 := cell_of_row _ _ 0 _ _ _ hA
  have a1 := cell_of_row _ _ 1 _ _ _ hA
  have b0 := cell_of_row _ _ 0 _ _ _ hB
  have b1 := cell_of_row _ _ 1 _ _ _ hB
  have d0 := cell_of_row _ _ 0 _ _ _ hDb
  have e1 := cell_of_row _ _ 1 _ _ _ hDb
  clear hA hB hDb hxd hxy hy3 HA HB HAR HFI c2
  have hcall := HD.out (y3.alloc (.cells #[.string (strOf fc.a), .bool false] 111)) (.slice none 0 0) [] hxw ⟨rfl, .inl ⟨rfl, rfl⟩⟩ (by decide)
  have HCALL := Lib.hid hcall
  clear hcall
  go_wp2_with fail
  refine HCALL.out.mono ?_
  rintro e w5 ⟨u, rfl, h1, h2⟩
  go_wp2_with fail
  go_ret
  exact ⟨u, rfl, by rw [HRES.out]; exact h1, h2⟩

theorem of_any (w : World) (nm : ByteArray) (op : Int) (v : V) (sa : Option Addr) (sn sc : Nat) (hn : okN v.n) (hs : v.s.length ≤ 140737488355328) :
    Calls Tryz.prog 86 #[.agg #[.string nm, .int .i64 op, .int .i64 v.k, .int .i64 v.n, .string (strOf v.s), .bool v.b, .slice sa sn sc]] w fun e w' => ∃ u, e = .returned u ∧ SpR w' u (ofL ⟨[], op, v, []⟩) ∧ Ext w w' := by
  by_cases ho : op < 2 ∨ 8 < op
  · exact of_0 w nm op v sa sn sc hn hs ho
  · have h : op = 2 ∨ op = 3 ∨ op = 4 ∨ op = 5 ∨ op = 6 ∨ op = 7 ∨ op = 8 := by omega
    rcases h with rfl | rfl | rfl | rfl | rfl | rfl | rfl
    · exact of_2 w nm v sa sn sc hn hs
    · exact of_3 w nm v sa sn sc hn hs
    · exact of_4 w nm v sa sn sc hn hs
    · exact of_5 w nm v sa sn sc hn hs
    · exact of_6 w nm v sa sn sc hn hs
    · exact of_7 w nm v sa sn sc hn hs
    · exact of_8 w nm v sa sn sc hn hs
end Go.Proofs.YtcgflkfbjnpdiaaGreat

namespace Go.Proofs.YtcgflkfbjnpdiaaGreat
open Go.RowKit

theorem minus_few {r q : Rg} (hr : Rises r) (hq : Fulls q) {m n : Nat} (h1 : Few m r) (h2 : Few n q) : Few (m + n) (r.minus q) := Few.minus hr hq h1 h2

set_option maxRecDepth 100000 in
set_option maxHeartbeats 4000000 in
theorem within_any (w : World) (v1 v2 : Value) (r q : Rg) (h1 : RgR w v1 r) (h2 : RgR w v2 q) (hr : Rises r) (hq : Fulls q) (hf1 : Few 400000 r) (hf2 : Few 400000 q) :
    Calls Tryz.prog 48 #[v1, v2] w fun e w' => e = .returned (.bool (r.within q)) ∧ Ext w w' := by
  obtain ⟨a1, c1, a2, c2, a3, c3, rfl, k1, k2, k3⟩ := h1.ex
  obtain ⟨b1, d1, b2, d2, b3, d3, rfl, j1, j2, j3⟩ := h2.ex
  have hx0 : Ext w ((w.alloc (.cells #[.slice a1 r.i.length c1, .slice a2 r.s.length c2, .slice a3 r.b.length c3, .bool r.odd] 69)).alloc (.cells #[.slice b1 q.i.length d1, .slice b2 q.s.length d2, .slice b3 q.b.length d3, .bool q.odd] 69)) := ((Ext.refl w).alloc _).alloc _
  have hcall := minusR_any _ _ _ r q (h1.ext hx0) (h2.ext hx0) hr hq hf1 hf2
  have HC := Lib.hid hcall
  clear hcall h1 h2 k1 k2 k3 j1 j2 j3
  unfold Rg.within
  go_enter Tryz.func48, Tryz.ntmps48
  go_wp2_with fail
  refine HC.out.mono ?_
  rintro e w2 ⟨v, rfl, hv, hx2⟩
  have hem := empty_any w2 v _ hv
  go_wp2_with fail
  refine hem.mono ?_
  rintro e w3 ⟨rfl, hx3⟩
  go_wp2_with fail
  go_ret
  exact ⟨rfl, hx0.trans (hx2.trans hx3)⟩

end Go.Proofs.YtcgflkfbjnpdiaaGreat

namespace Go.Proofs.YtcgflkfbjnpdiaaGreat
open Go.RowKit

def Fact.rg (r : Rg) : Fact := ⟨fun v w => RgR w v r, fun _ _ _ hx h => h.ext hx⟩

set_option maxRecDepth 100000 in
set_option maxHeartbeats 8000000 in
theorem andR_any (w : World) (v1 v2 : Value) (r q : Rg) (h1 : RgR w v1 r) (h2 : RgR w v2 q) (hr : Rises r) (hq : Fulls q) (hf1 : Few 100000 r) (hf2 : Few 100000 q) :
    Calls Tryz.prog 83 #[v1, v2] w fun e w' => ∃ v, e = .returned v ∧ RgR w' v (r.and q) ∧ Ext w w' := by
  obtain ⟨a1, c1, a2, c2, a3, c3, rfl, k1, k2, k3⟩ := h1.ex
  obtain ⟨b1, d1, b2, d2, b3, d3, rfl, j1, j2, j3⟩ := h2.ex
  obtain ⟨hx0, hR, hQ, hT⟩ := boxes3 w (.cells #[.slice a1 r.i.length c1, .slice a2 r.s.length c2, .slice a3 r.b.length c3, .bool r.odd] 69) (.cells #[.slice b1 q.i.length d1, .slice b2 q.s.length d2, .slice b3 q.b.length d3, .bool q.odd] 69) (.cells #[.slice none 0 0, .slice none 0 0, .slice none 0 0, .bool false] 69)
  have hC1 : ∀ W, Ext w W → Calls Tryz.prog 85 #[.agg #[.slice a1 r.i.length c1, .slice a2 r.s.length c2, .slice a3 r.b.length c3, .bool r.odd], .agg #[.slice b1 q.i.length d1, .slice b2 q.s.length d2, .slice b3 q.b.length d3, .bool q.odd]] W fun e w' => ∃ v, e = .returned v ∧ RgR w' v (r.minus q) ∧ Ext W w' := fun W hW => minusR_any W _ _ r q (h1.ext hW) (h2.ext hW) hr hq (hf1.mono (by omega)) (hf2.mono (by omega))
  have hC2 : ∀ W va, Ext w W → RgR W va (r.minus q) → Calls Tryz.prog 85 #[.agg #[.slice a1 r.i.length c1, .slice a2 r.s.length c2, .slice a3 r.b.length c3, .bool r.odd], va] W fun e w' => ∃ v, e = .returned v ∧ RgR w' v (r.and q) ∧ Ext W w' := fun W va hW hva => minusR_any W _ _ r (r.minus q) (h1.ext hW) hva hr (hr.minus hq).full (hf1.mono (by omega)) ((Few.minus hr hq hf1 hf2).mono (by omega))
  have HC1 := Lib.hid hC1
  have HC2 := Lib.hid hC2
  have HT := Lib.hid hT
  have r0 := cell_of_row _ _ 0 _ _ _ hR
  have r1 := cell_of_row _ _ 1 _ _ _ hR
  have r2 := cell_of_row _ _ 2 _ _ _ hR
  have r3 := cell_of_row _ _ 3 _ _ _ hR
  have q0 := cell_of_row _ _ 0 _ _ _ hQ
  have q1 := cell_of_row _ _ 1 _ _ _ hQ
  have q2 := cell_of_row _ _ 2 _ _ _ hQ
  have q3 := cell_of_row _ _ 3 _ _ _ hQ
  clear hC1 hC2 h1 h2 k1 k2 k3 j1 j2 j3 hr hq hf1 hf2 hR hQ hT
  go_enter Tryz.func83, Tryz.ntmps83
  go_upto_region 1 with fail
  generalize ((w.alloc (.cells #[.slice a1 r.i.length c1, .slice a2 r.s.length c2, .slice a3 r.b.length c3, .bool r.odd] 69)).alloc (.cells #[.slice b1 q.i.length d1, .slice b2 q.s.length d2, .slice b3 q.b.length d3, .bool q.odd] 69)).alloc (.cells #[.slice none 0 0, .slice none 0 0, .slice none 0 0, .bool false] 69) = w0 at *
  refine wp_region_chain 5 [Fact.eq (.agg #[.slice a1 r.i.length c1, .slice a2 r.s.length c2, .slice a3 r.b.length c3, .bool r.odd]),
      Fact.eq (.agg #[.slice a1 r.i.length c1, .slice a2 r.s.length c2, .slice a3 r.b.length c3, .bool r.odd]),
      Fact.eq (.agg #[.slice b1 q.i.length d1, .slice b2 q.s.length d2, .slice b3 q.b.length d3, .bool q.odd]),
      Fact.rg (r.minus q),
      Fact.rg (r.and q)]
    [[], [], [], [(1, 6), (2, 7)], [(0, 5), (3, 8)]]
    [(0, 5), (1, 6), (2, 7), (3, 8), (4, 9)] (by kernel_rfl) (by kernel_rfl) ?_ ?_
  · refine ⟨?_, ?_, ?_, ?_, ?_, trivial⟩
    · intro w1 hx1; change wpList _ _ _ _ _ _; have m0 := hx1.cell r0; have m1 := hx1.cell r1; have m2 := hx1.cell r2; have m3 := hx1.cell r3; go_wp2_with fail; exact ⟨rfl, Ext.refl _, rfl, rfl⟩
    · intro w1 hx1; change wpList _ _ _ _ _ _; have m0 := hx1.cell r0; have m1 := hx1.cell r1; have m2 := hx1.cell r2; have m3 := hx1.cell r3; go_wp2_with fail; exact ⟨rfl, Ext.refl _, rfl, rfl⟩
    · intro w1 hx1; change wpList _ _ _ _ _ _; have m0 := hx1.cell q0; have m1 := hx1.cell q1; have m2 := hx1.cell q2; have m3 := hx1.cell q3; go_wp2_with fail; exact ⟨rfl, Ext.refl _, rfl, rfl⟩
    · intro w1 hx1; rintro _ rfl; rintro _ rfl; change wpList _ _ _ _ _ _; go_wp2_with fail; refine (HC1.out w1 (hx0.trans hx1)).mono ?_; rintro e w2 ⟨va, rfl, hA, hx2⟩; go_wp2_with fail; exact ⟨rfl, hx2, rfl, hA⟩
    · intro w1 hx1; rintro _ rfl; intro v8 h8; change wpList _ _ _ _ _ _; go_wp2_with fail; refine (HC2.out w1 v8 (hx0.trans hx1) h8).mono ?_; rintro e w2 ⟨va, rfl, hA, hx2⟩; go_wp2_with fail; exact ⟨rfl, hx2, rfl, hA⟩
  · intro w1 hx1; rintro _ rfl; rintro _ rfl; rintro _ rfl; intro v8 h8; intro v9 h9; refine depsThen_nil ?_; dsimp only; simp only [Act.put, List.setIfInBounds_toArray, List.set_cons_zero, List.set_cons_succ, List.drop_succ_cons, List.drop_zero]
    replace h8 : (Fact.rg (r.minus q)).p v8 w1 := h8
    replace h9 : (Fact.rg (r.and q)).p v9 w1 := h9
    have h9' : RgR w1 v9 (r.and q) := h9
    obtain ⟨x1, y1, x2, y2, x3, y3, rfl, p1, p2, p3⟩ := h9'.ex
    have HT1 := Lib.hid (block_later HT.out hx1)
    have hxw := hx0.trans hx1
    have P1 := Lib.hid p1
    have P2 := Lib.hid p2
    have P3 := Lib.hid p3
    clear h8 h9 h9' r0 r1 r2 r3 q0 q1 q2 q3 HC1 HC2 p1 p2 p3 hx1 hx0
    go_wp2_with (refine wpList_store_whole 69 (.tmp 4) (.tmp 9) rfl rfl (w.heap.size + 1 + 1) rfl #[.slice x1 (r.and q).i.length y1, .slice x2 (r.and q).s.length y2, .slice x3 (r.and q).b.length y3, .bool (r.and q).odd] rfl _ 69 HT1.out rfl info69s (by simp [Value.oneCell']) ?_)
    have hq := setRow_heap _ _ _ #[.slice x1 (r.and q).i.length y1, .slice x2 (r.and q).s.length y2, .slice x3 (r.and q).b.length y3, .bool (r.and q).odd] _ _ HT1.out
    have g0 := cell_of_row _ _ 0 _ _ _ hq
    have g1 := cell_of_row _ _ 1 _ _ _ hq
    have g2 := cell_of_row _ _ 2 _ _ _ hq
    have g3 := cell_of_row _ _ 3 _ _ _ hq
    refine bodyPost_ret (v := .agg #[.slice x1 (r.and q).i.length y1, .slice x2 (r.and q).s.length y2, .slice x3 (r.and q).b.length y3, .bool (r.and q).odd]) (by simp [results, Tryz.results83, go_sem, g0, g1, g2, g3]) rfl ⟨_, rfl, ?_, hxw.setRow (by omega) _⟩
    exact RgR.of (spr_setRow P1.out HT1.out (by simp)) (spr_setRow P2.out HT1.out (by simp)) (spr_setRow P3.out HT1.out (by simp))
end Go.Proofs.YtcgflkfbjnpdiaaGreat

namespace Go.Proofs.YtcgflkfbjnpdiaaGreat
open Go.RowKit

theorem spr_step {W W' : World} {h : Value} {l : List Sp} (k : SpR W h l) {b : Nat} {c : Array Value} {t : TypeId} {fr : Nat × Nat} (hb : W.heap[b]? = some (.cells c t fr)) (hc : ∀ s, Value.string s ∉ c.toList) (ho : ∀ i, i < W.heap.size → i ≠ b → W'.heap[i]? = W.heap[i]?) : SpR W' h l := by
  rcases spr_apart k hb hc with rfl | ⟨B, o, n, cap, rfl, hne⟩
  · obtain ⟨h1, a, cap, e, h3, h4, h5, h6, _⟩ := k
    exact ⟨h1, a, cap, e, h3, h4, h5, h6, fun j u hj => by simp at hj⟩
  · obtain ⟨h1, a, cap, e, h3, h4, h5, h6, h7⟩ := k
    simp only [Value.slice.injEq] at e
    obtain ⟨rfl, rfl, rfl⟩ := e
    refine ⟨h1, _, _, rfl, h3, h4, h5, h6, fun j u hj => ?_⟩
    obtain ⟨p, e2, hcl⟩ := h7 j u hj
    cases e2
    refine ⟨_, rfl, ?_⟩
    have hlt := World.block_lt_of_cell? W ⟨B, o + j, none⟩ hcl
    rw [World.cell?_of_block (a := ⟨B, o + j, none⟩) (ho B hlt hne)]
    exact hcl
/-- Block b holds a region that reads as r. -/
def GoodR (b : Nat) (r : Rg) (w : World) : Prop := ∃ cs, w.heap[b]? = some (.cells cs 69 (0, 0)) ∧ RgR w (.agg cs) r
theorem GoodR.no {r : Rg} {w : World} {cs : Array Value} (h : RgR w (.agg cs) r) : ∀ s, Value.string s ∉ cs.toList := by
  obtain ⟨a1, c1, a2, c2, a3, c3, e, _⟩ := h.ex
  cases e
  simp
theorem GoodR.step {b : Nat} {r : Rg} {w w' : World} (h : GoodR b r w) (ho : ∀ i, i < w.heap.size → i ≠ b → w'.heap[i]? = w.heap[i]?) (hb : w'.heap[b]? = w.heap[b]?) : GoodR b r w' := by
  obtain ⟨cs, h1, h2⟩ := h
  have hno := GoodR.no h2
  refine ⟨cs, hb.trans h1, ?_⟩
  obtain ⟨a1, c1, a2, c2, a3, c3, e, k1, k2, k3⟩ := h2.ex
  exact ⟨a1, c1, a2, c2, a3, c3, e, spr_step k1 h1 hno ho, spr_step k2 h1 hno ho, spr_step k3 h1 hno ho⟩
structure StG (b : Nat) (r : Rg) (w w' : World) : Prop where
  os : w'.os = w.os
  tape : w'.tape = w.tape
  output : w'.output = w.output
  size : w.heap.size ≤ w'.heap.size
  block : ∀ k, k < w.heap.size → k ≠ b → w'.heap[k]? = w.heap[k]?
  hb : b < w.heap.size → w'.heap[b]? = w.heap[b]? ∨ GoodR b r w'
theorem StG.of_ext {b : Nat} {r : Rg} {w w' : World} (h : Ext w w') : StG b r w w' := ⟨h.os, h.tape, h.output, h.size, fun k hk _ => h.block k hk, fun hk => .inl (h.block b hk)⟩
theorem StG.trans {b : Nat} {r : Rg} {x y z : World} (h : StG b r x y) (k : StG b r y z) : StG b r x z := by
  refine ⟨k.os.trans h.os, k.tape.trans h.tape, k.output.trans h.output, Nat.le_trans h.size k.size, fun i hi h1 => (k.block i (Nat.lt_of_lt_of_le hi h.size) h1).trans (h.block i hi h1), fun hb => ?_⟩
  rcases k.hb (Nat.lt_of_lt_of_le hb h.size) with e | e
  · rcases h.hb hb with e2 | e2
    · exact .inl (e.trans e2)
    · exact .inr (e2.step k.block e)
  · exact .inr e
def StepG (b : Nat) (r : Rg) : Rg.Step := ⟨StG b r, fun w => StG.of_ext (Ext.refl w), fun h k => h.trans k, fun w => StG.of_ext (Ext.refl w).drew⟩
theorem StG.good {b : Nat} {r : Rg} {w w' : World} (h : StG b r w w') (k : GoodR b r w) : GoodR b r w' := by
  obtain ⟨cs, h1, h2⟩ := k
  rcases h.hb (Array.getElem?_eq_some_iff.1 h1).1 with e | e
  · exact GoodR.step ⟨cs, h1, h2⟩ h.block e
  · exact e
end Go.Proofs.YtcgflkfbjnpdiaaGreat
