/- Disk: the questions on lengths (Append's, Truncate's). -/
import Derived.Test.YtdfnfmanpdafpaaDoorD8
namespace Go.Proofs.YtdfnfmanpdafpaaDoor
open Go.RowKit

set_option maxRecDepth 100000 in
set_option maxHeartbeats 4000000 in
theorem append1_any (w : World) (bb b2 b bm : Nat) (gs : List FG) (q fz : Int) (h2 : PBox w b2 b) (hd : DkR w b bm gs q fz false) (hw : ∀ g ∈ gs, g.nm.length ≤ 32) (hl : gs.length ≤ 1000000) (hu : usedG gs ≤ 1000000000) (hq0 : 0 ≤ q) (hq1 : q ≤ 1000000000) (a : Option Addr) (m c : Nat) (h1 : w.heap[bb]? = some (.cells #[.slice a m c] 24 (0, 0))) :
    Calls Tryd.prog 41 #[.pointer (some ⟨bb, 0, none⟩), .pointer (some ⟨b2, 0, none⟩)] w fun e w' => e = .returned (.int .i64 (errB (decide (q - (usedG gs : Nat) < (m : Int))) 7)) ∧ Ext w w' := by
  have n1 := cell_of_row _ _ 0 _ _ _ h1
  have n2 := cell_of_row _ _ 0 _ _ _ h2
  have n3 := cell_of_row _ _ 1 _ _ _ hd.box
  have husd : ∀ w', Ext w w' → Calls Tryd.prog 27 #[.pointer (some ⟨b, 0, none⟩)] w' fun e w2 => e = .returned (.int .i64 (usedG gs : Nat)) ∧ Ext w' w2 := fun w' hx => usedG_on w' b bm gs q fz (hd.ext hx) hw hl hu
  have HUS := Lib.hid husd
  clear h1 h2 hd hw hl husd
  obtain ⟨is, his⟩ : ∃ is, is = decide (q - (usedG gs : Nat) < (m : Int)) := ⟨_, rfl⟩
  obtain ⟨u, hu2⟩ : ∃ u, u = usedG gs := ⟨_, rfl⟩
  rw [← his]
  rw [← hu2] at hu HUS his
  clear hu2
  have hwr : IntKind.i64.wrap (q - (u : Int)) = q - (u : Int) := by rw [IntKind.wrap_i64]; omega
  have hgt : decide ((m : Int) > q - (u : Int)) = is := by rw [his]
  clear his hu hq0 hq1
  go_enter Tryd.func41, Tryd.ntmps41
  go_upto_region 1 with fail
  refine wp_region_chain 11 [Fact.eq (.slice a m c),
      Fact.eq (.int .i64 m),
      Fact.eq (.pointer (some ⟨b, 0, none⟩)),
      Fact.eq (.pointer (some ⟨b, 0, none⟩)),
      Fact.eq (.pointer (some ⟨b, 1, none⟩)),
      Fact.eq (.int .i64 q),
      Fact.eq (.pointer (some ⟨b, 0, none⟩)),
      Fact.eq (.int .i64 u),
      Fact.eq (.int .i64 (q - (u : Int))),
      Fact.eq (.bool is),
      Fact.wqF is 7]
    [[], [(0, 3)], [], [(2, 5)], [(3, 6)], [(4, 7)], [], [(6, 9)], [(5, 8), (7, 10)], [(1, 4), (8, 11)], [(9, 12)]]
    [(0, 3), (1, 4), (2, 5), (3, 6), (4, 7), (5, 8), (6, 9), (7, 10), (8, 11), (9, 12), (10, 13)] (by kernel_rfl) (by kernel_rfl) ?_ ?_
  · refine ⟨?_, ?_, ?_, ?_, ?_, ?_, ?_, ?_, ?_, ?_, ?_, trivial⟩
    · intro w1 hx1; change wpList _ _ _ _ _ _; have m0 := hx1.cell n1; go_wp2_with fail; exact ⟨rfl, Ext.refl _, rfl, rfl⟩
    · intro w1 hx1; rintro _ rfl; change wpList _ _ _ _ _ _; go_wp2_with fail; exact ⟨rfl, Ext.refl _, rfl, rfl⟩
    · intro w1 hx1; change wpList _ _ _ _ _ _; have m0 := hx1.cell n2; go_wp2_with fail; exact ⟨rfl, Ext.refl _, rfl, rfl⟩
    · intro w1 hx1; rintro _ rfl; change wpList _ _ _ _ _ _; go_wp2_with fail; exact ⟨rfl, Ext.refl _, rfl, rfl⟩
    · intro w1 hx1; rintro _ rfl; change wpList _ _ _ _ _ _; go_wp2_with fail; exact ⟨rfl, Ext.refl _, rfl, rfl⟩
    · intro w1 hx1; rintro _ rfl; change wpList _ _ _ _ _ _; have m0 := hx1.cell n3; go_wp2_with fail; exact ⟨rfl, Ext.refl _, rfl, rfl⟩
    · intro w1 hx1; change wpList _ _ _ _ _ _; have m0 := hx1.cell n2; go_wp2_with fail; exact ⟨rfl, Ext.refl _, rfl, rfl⟩
    · intro w1 hx1; rintro _ rfl; change wpList _ _ _ _ _ _; go_wp2_with ((with_reducible refine (HUS.out _ hx1).mono ?_); rintro e w2 ⟨rfl, hx2⟩); exact ⟨rfl, hx2, rfl, rfl⟩
    · intro w1 hx1; rintro _ rfl; rintro _ rfl; change wpList _ _ _ _ _ _; go_wp2_with fail; exact ⟨rfl, Ext.refl _, rfl, rfl⟩
    · intro w1 hx1; rintro _ rfl; rintro _ rfl; change wpList _ _ _ _ _ _; go_wp2_with fail; exact ⟨rfl, Ext.refl _, rfl, rfl⟩
    · intro w1 hx1; rintro _ rfl; change wpList _ _ _ _ _ _; go_wp2_with ((with_reducible refine (wrong_fact _ is 7).mono ?_); rintro e w2 ⟨c1, c2, rfl, g1, g2, hx2⟩); exact ⟨rfl, hx2, rfl, c1, c2, rfl, g1, g2⟩
  · intro w1 hx1; rintro _ rfl; rintro _ rfl; rintro _ rfl; rintro _ rfl; rintro _ rfl; rintro _ rfl; rintro _ rfl; rintro _ rfl; rintro _ rfl; rintro _ rfl; intro v13 h13; refine depsThen_nil ?_; dsimp only; simp only [Act.put, List.setIfInBounds_toArray, List.set_cons_zero, List.set_cons_succ, List.drop_succ_cons, List.drop_zero]
    replace h13 : (Fact.wqF is 7).p v13 w1 := h13
    obtain ⟨c1, c2, rfl, g1, g2⟩ : ∃ c1 c2, v13 = wqV c1 c2 ∧ w1.heap[c1]? = some (.cells #[.bool is] 4 (0, 0)) ∧ w1.heap[c2]? = some (.cells #[.int .i64 7] 26 (0, 0)) := h13
    have HW := Lib.hid (wrongq_err w1 c1 c2 is 7 g1 g2)
    have HX1 := Lib.hid hx1
    clear hx1 g1 g2 hgt hwr
    go_wp2_with ((with_reducible refine HW.out.mono ?_); rintro e w5 ⟨rfl, rfl⟩)
    go_ret
    exact ⟨rfl, HX1.out⟩
set_option maxRecDepth 100000 in
set_option maxHeartbeats 4000000 in
theorem trunc1_any (w : World) (bz b1 b2 b bm : Nat) (gs : List FG) (q fz : Int) (off : Bool) (n : List UInt8) (g : FG) (hg : nget FG.nm gs n = some g) (z : Int) (h0 : w.heap[bz]? = some (.cells #[.int .i64 z] 3 (0, 0))) (h1 : SBox w b1 n) (h2 : PBox w b2 b) (hd : DkR w b bm gs q fz off) :
    Calls Tryd.prog 40 #[.pointer (some ⟨bz, 0, none⟩), .pointer (some ⟨b2, 0, none⟩), .pointer (some ⟨b1, 0, none⟩)] w fun e w' => e = .returned (.int .i64 (errB (decide ((g.b.length : Int) < z)) 1)) ∧ Ext w w' := by
  have n0 := cell_of_row _ _ 0 _ _ _ h0
  have n1 := cell_of_row _ _ 0 _ _ _ h1
  have n2 := cell_of_row _ _ 0 _ _ _ h2
  have n3 := cell_of_row _ _ 0 _ _ _ hd.box
  have hlk : ∀ w', Ext w w' → (Instr.lookup 56 (.map (some bm)) (.string (strOf n)) false).run Tryd.prog w' = .ok (.pointer (some ⟨g.p, 0, none⟩)) w' := fun w' hx => by
    have := (hd.ext hx).look n
    unfold ptrG at this
    rw [hg] at this
    exact this
  have hf := hd.files g (nget_some hg).1
  obtain ⟨fa, fc, hfh, hfc, hfm⟩ := own_shape hf.row
  have n4 := cell_of_row _ _ 0 _ _ _ hf.cell
  rw [hfh] at n4
  have HLK := Lib.hid hlk
  clear h0 h1 h2 hd hg hlk hf hfh hfc hfm
  obtain ⟨is, his⟩ : ∃ is, is = decide ((g.b.length : Int) < z) := ⟨_, rfl⟩
  rw [← his]
  have hgt : decide (z > (g.b.length : Int)) = is := by rw [his]
  clear his
  generalize g.b.length = m at *
  generalize g.p = gp at *
  go_enter Tryd.func40, Tryd.ntmps40
  go_upto_region 1 with fail
  refine wp_region_chain 13 [Fact.eq (.int .i64 z),
      Fact.eq (.pointer (some ⟨b, 0, none⟩)),
      Fact.eq (.pointer (some ⟨b, 0, none⟩)),
      Fact.eq (.pointer (some ⟨b, 0, none⟩)),
      Fact.eq (.map (some bm)),
      Fact.eq (.string (strOf n)),
      Fact.eq (.pointer (some ⟨gp, 0, none⟩)),
      Fact.eq (.pointer (some ⟨gp, 0, none⟩)),
      Fact.eq (.pointer (some ⟨gp, 0, none⟩)),
      Fact.eq (.slice fa m fc),
      Fact.eq (.int .i64 m),
      Fact.eq (.bool is),
      Fact.wqF is 1]
    [[], [], [(1, 5)], [(2, 6)], [(3, 7)], [], [(4, 8), (5, 9)], [(6, 10)], [(7, 11)], [(8, 12)], [(9, 13)], [(0, 4), (10, 14)], [(11, 15)]]
    [(0, 4), (1, 5), (2, 6), (3, 7), (4, 8), (5, 9), (6, 10), (7, 11), (8, 12), (9, 13), (10, 14), (11, 15), (12, 16)] (by kernel_rfl) (by kernel_rfl) ?_ ?_
  · refine ⟨?_, ?_, ?_, ?_, ?_, ?_, ?_, ?_, ?_, ?_, ?_, ?_, ?_, trivial⟩
    · intro w1 hx1; change wpList _ _ _ _ _ _; have m0 := hx1.cell n0; go_wp2_with fail; exact ⟨rfl, Ext.refl _, rfl, rfl⟩
    · intro w1 hx1; change wpList _ _ _ _ _ _; have m0 := hx1.cell n2; go_wp2_with fail; exact ⟨rfl, Ext.refl _, rfl, rfl⟩
    · intro w1 hx1; rintro _ rfl; change wpList _ _ _ _ _ _; go_wp2_with fail; exact ⟨rfl, Ext.refl _, rfl, rfl⟩
    · intro w1 hx1; rintro _ rfl; change wpList _ _ _ _ _ _; go_wp2_with fail; exact ⟨rfl, Ext.refl _, rfl, rfl⟩
    · intro w1 hx1; rintro _ rfl; change wpList _ _ _ _ _ _; have m0 := hx1.cell n3; go_wp2_with fail; exact ⟨rfl, Ext.refl _, rfl, rfl⟩
    · intro w1 hx1; change wpList _ _ _ _ _ _; have m0 := hx1.cell n1; go_wp2_with fail; exact ⟨rfl, Ext.refl _, rfl, rfl⟩
    · intro w1 hx1; rintro _ rfl; rintro _ rfl; change wpList _ _ _ _ _ _; have k1 := HLK.out w1 hx1; go_wp2_with fail; exact ⟨rfl, Ext.refl _, rfl, rfl⟩
    · intro w1 hx1; rintro _ rfl; change wpList _ _ _ _ _ _; go_wp2_with fail; exact ⟨rfl, Ext.refl _, rfl, rfl⟩
    · intro w1 hx1; rintro _ rfl; change wpList _ _ _ _ _ _; go_wp2_with fail; exact ⟨rfl, Ext.refl _, rfl, rfl⟩
    · intro w1 hx1; rintro _ rfl; change wpList _ _ _ _ _ _; have m0 := hx1.cell n4; go_wp2_with fail; exact ⟨rfl, Ext.refl _, rfl, rfl⟩
    · intro w1 hx1; rintro _ rfl; change wpList _ _ _ _ _ _; go_wp2_with fail; exact ⟨rfl, Ext.refl _, rfl, rfl⟩
    · intro w1 hx1; rintro _ rfl; rintro _ rfl; change wpList _ _ _ _ _ _; go_wp2_with fail; exact ⟨rfl, Ext.refl _, rfl, rfl⟩
    · intro w1 hx1; rintro _ rfl; change wpList _ _ _ _ _ _; go_wp2_with ((with_reducible refine (wrong_fact _ is 1).mono ?_); rintro e w2 ⟨c1, c2, rfl, g1, g2, hx2⟩); exact ⟨rfl, hx2, rfl, c1, c2, rfl, g1, g2⟩
  · intro w1 hx1; rintro _ rfl; rintro _ rfl; rintro _ rfl; rintro _ rfl; rintro _ rfl; rintro _ rfl; rintro _ rfl; rintro _ rfl; rintro _ rfl; rintro _ rfl; rintro _ rfl; rintro _ rfl; intro v16 h16; refine depsThen_nil ?_; dsimp only; simp only [Act.put, List.setIfInBounds_toArray, List.set_cons_zero, List.set_cons_succ, List.drop_succ_cons, List.drop_zero]
    replace h16 : (Fact.wqF is 1).p v16 w1 := h16
    obtain ⟨c1, c2, rfl, g1, g2⟩ : ∃ c1 c2, v16 = wqV c1 c2 ∧ w1.heap[c1]? = some (.cells #[.bool is] 4 (0, 0)) ∧ w1.heap[c2]? = some (.cells #[.int .i64 1] 26 (0, 0)) := h16
    have HW := Lib.hid (wrongq_err w1 c1 c2 is 1 g1 g2)
    have HX1 := Lib.hid hx1
    clear hx1 g1 g2 hgt
    go_wp2_with ((with_reducible refine HW.out.mono ?_); rintro e w5 ⟨rfl, rfl⟩)
    go_ret
    exact ⟨rfl, HX1.out⟩
end Go.Proofs.YtdfnfmanpdafpaaDoor
