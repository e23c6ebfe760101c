/- The walk through SpliceWhole. -/
import Derived.Deep.CutBlock
import Derived.Test.YtaklnpjpndkccaaGreatPk14
import Derived.Test.YtaklnpjpndkccaaGreatPk13
namespace Go.Proofs.YtaklnpjpndkccaaGreat
open Go.RowKit Go.Sort

def Fact.imW (M : List Bool) (n : Nat) : Fact := ⟨fun v w => ∃ x : IM, v = .agg #[.int .u64 x.n, .int .u64 x.t, .string (strOf x.key), .slice x.ha x.av.length x.hc] ∧ (x.pi = itW M n ∧ AttrR w x.h x.av), fun _ _ _ hx ⟨x, h1, h2, h3⟩ => ⟨x, h1, h2, AttrR.ext h3 hx⟩⟩
def Fact.evW (M : List Bool) (n : Nat) : Fact := ⟨fun v w => ∃ x : IM, v = .agg #[.string (strOf x.key), .slice x.ha x.av.length x.hc] ∧ (x.pi = itW M n ∧ AttrR w x.h x.av), fun _ _ _ hx ⟨x, h1, h2, h3⟩ => ⟨x, h1, h2, AttrR.ext h3 hx⟩⟩
theorem imW_mk {M : List Bool} {n b : Nat} {W w' : World} {x : IM} (h : Hid (x.pi = itW M n ∧ AttrO b w' x.h x.av ∧ Ext W w')) : (Fact.imW M n).p (.agg #[.int .u64 x.n, .int .u64 x.t, .string (strOf x.key), .slice x.ha x.av.length x.hc]) w' := ⟨x, rfl, h.out.1, Row.of_own h.out.2.1⟩
theorem evW_mk {M : List Bool} {n : Nat} {w : World} {x : IM} (h : x.pi = itW M n ∧ AttrR w x.h x.av) : (Fact.evW M n).p (.agg #[.string (strOf x.key), .slice x.ha x.av.length x.hc]) w := ⟨x, rfl, h⟩
/-- The head of a row of Booleans. -/
theorem bls_take {w : World} {a : Option Addr} {n c m : Nat} {l : List Bool} (h : Row w 1 (.slice a n c) l.length (blsC l)) (hm : m ≤ l.length) : Row w 1 (.slice a m c) (l.take m).length (blsC (l.take m)) := by
  have e : ∀ l : List Bool, blsC l = l.flatMap fun b => [Value.bool b] := fun l => by
    induction l with
    | nil => rfl
    | cons x r ih => rw [List.flatMap_cons, ← ih]; rfl
  obtain ⟨a', c', e1, _, _⟩ := Row.shape h
  simp only [Value.slice.injEq] at e1
  obtain ⟨_, rfl, _⟩ := e1
  rw [e] at h ⊢
  have := cut_head (fun b => [Value.bool b]) 1 (fun _ => rfl) h hm
  rwa [List.length_take, Nat.min_eq_left hm]
set_option maxRecDepth 100000 in
set_option maxHeartbeats 0 in
theorem spliceWhole_walk (w : World) (gv mv : Value) (d : Int) (G0 M0 : List Bool) (hg : Row w 1 gv G0.length (blsC G0)) (hm : Row w 1 mv M0.length (blsC M0)) (nx : Nat) (hnx : nx < 256)
    (vl : Value) (us : List (Int × Nat × Nat)) (hu : Row w 3 vl us.length (us.flatMap mvC)) (hall : ∀ x ∈ us, x.2.1 < 256 ∧ x.2.2 < 256) :
    Calls Tryz.prog 4 #[.agg #[gv, mv, .int .i64 d], .int .u8 nx, vl] w fun e w' => e = .returned (.bool true) ∧ Ext w w' := by
  obtain ⟨ga, gc, rfl, hgc, _⟩ := Row.shape hg
  obtain ⟨ma, mc, rfl, hmc, _⟩ := Row.shape hm
  obtain ⟨la, lc, rfl, _, _⟩ := Row.shape hu
  obtain ⟨hx, hb⟩ := boxes1 w (.cells #[.slice ga G0.length gc, .slice ma M0.length mc, .int .i64 d] 58)
  obtain ⟨m1, hm1⟩ : ∃ m, m = min G0.length 200 := ⟨_, rfl⟩
  obtain ⟨m2, hm2⟩ : ∃ m, m = min M0.length 200 := ⟨_, rfl⟩
  have q1 : min ((G0.length : Nat) : Int) 200 = (m1 : Int) := by omega
  have q2 : min ((M0.length : Nat) : Int) 200 = (m2 : Int) := by omega
  have l1 : m1 ≤ G0.length := by omega
  have l2 : m2 ≤ M0.length := by omega
  have HB := Lib.hid hb
  have HX := Lib.hid hx
  have HG := Lib.hid hg
  have HM := Lib.hid hm
  have HU := Lib.hid hu
  have HA := Lib.hid hall
  have HM12 := Lib.hid (And.intro hm1 hm2)
  clear hx hb hg hm hu hall hm1 hm2
  go_enter Tryz.func4, Tryz.ntmps4
  go_upto_region 1 with fail
  generalize hwb : w.alloc (.cells #[.slice ga G0.length gc, .slice ma M0.length mc, .int .i64 d] 58) = wb at *
  clear hwb
  go_cut [] from 24 to 39 (fun wx => Hid (wx.heap[w.heap.size]? = some (.cells #[.slice ga m1 gc, .slice ma m2 mc, .int .i64 d] 58 (0, 0)) ∧ Ext w wx))
  case first =>
    have k0 := HB.out
    have x0 := cell_of_row _ _ 0 _ _ _ k0
    have z0 := frozen_of_row _ _ 0 _ _ k0
    have x1 := cell_of_row _ _ 1 _ _ _ k0
    have z1 := frozen_of_row _ _ 1 _ _ k0
    have p1 : m1 ≤ gc := by omega
    have p2 : m2 ≤ mc := by omega
    have k1 := setCell_blockJ 0 (.slice ga m1 gc) k0
    simp only [List.setIfInBounds_toArray, List.set_cons_zero] at k1
    have k2 := setCell_blockJ 1 (.slice ma m2 mc) k1
    simp only [List.setIfInBounds_toArray, List.set_cons_zero, List.set_cons_succ] at k2
    have hxe := (HX.out.setCell (p := ⟨w.heap.size, 0, none⟩) (Nat.le_refl _) (.slice ga m1 gc)).setCell (p := ⟨w.heap.size, 1, none⟩) (Nat.le_refl _) (.slice ma m2 mc)
    have HR := Lib.hid (And.intro k2 hxe.drew)
    clear HB HX HG HM HU HA HM12 k0 k1 k2 hxe
    go_region
    go_wp2_with fail
    go_meet
    exact HR.out
  case rest =>
    obtain ⟨k0, hx1⟩ := hcut.out
    have hw0 : 0 ≤ IntKind.u64.wrap d := by rw [IntKind.wrap_u64]; omega
    obtain ⟨D0, hD0⟩ : ∃ D0 : Nat, (IntKind.u64.wrap d).tmod 60 = (D0 : Int) := ⟨((IntKind.u64.wrap d).tmod 60).toNat, (Int.toNat_of_nonneg (Int.tmod_nonneg _ hw0)).symm⟩
    have hD1 : D0 < 60 := by have := Int.tmod_lt_of_pos (IntKind.u64.wrap d) (b := 60) (by decide); omega
    obtain ⟨f0, hf0⟩ : ∃ f0 : Nat, (nx : Int).tmod 250 = (f0 : Int) := ⟨nx % 250, by rw [Int.tmod_eq_emod_of_nonneg (by omega)]; omega⟩
    have hf1 : f0 < 250 := by have := Int.tmod_lt_of_pos (nx : Int) (b := 250) (by decide); omega
    obtain ⟨first, hfst⟩ : ∃ first : Nat, 1 + (f0 : Int) = (first : Int) := ⟨f0 + 1, by omega⟩
    have hfs1 : 1 ≤ first := by omega
    have hfs2 : first ≤ 250 := by omega
    obtain ⟨m3, hm3⟩ : ∃ m3 : Nat, min (m1 : Int) (D0 : Int) = (m3 : Int) := ⟨min m1 D0, by omega⟩
    have l3 : m3 ≤ gc := by omega
    have l4 : m3 ≤ m1 := by omega
    have l5 : m3 ≤ D0 := by omega
    have k1 := setCell_blockJ 2 (.int .i64 D0) k0
    simp only [List.setIfInBounds_toArray, List.set_cons_zero, List.set_cons_succ] at k1
    have k2 := setCell_blockJ 0 (.slice ga m3 gc) k1
    simp only [List.setIfInBounds_toArray, List.set_cons_zero] at k2
    have x0 := cell_of_row _ _ 0 _ _ _ k0
    have z0 := frozen_of_row _ _ 0 _ _ k0
    have x1 := cell_of_row _ _ 1 _ _ _ k0
    have x2 := cell_of_row _ _ 2 _ _ _ k0
    have z2 := frozen_of_row _ _ 2 _ _ k0
    have K2 := Lib.hid k2
    have HX2 := Lib.hid ((hx1.setCell (p := ⟨w.heap.size, 2, none⟩) (Nat.le_refl _) (.int .i64 D0)).setCell (p := ⟨w.heap.size, 0, none⟩) (Nat.le_refl _) (.slice ga m3 gc))
    have HG2 : Hid (Row w 1 (.slice ga m3 gc) (G0.take m3).length (blsC (G0.take m3))) := bls_take HG.out (by omega)
    have HM2 : Hid (Row w 1 (.slice ma m2 mc) (M0.take m2).length (blsC (M0.take m2))) := bls_take HM.out l2
    have HGD : Hid ((G0.take m3).length ≤ D0) := by show _ ≤ _; rw [List.length_take]; omega
    clear k0 k1 k2 hx1 hcut HB HX HG HM hw0
    go_upto_region 5 with fail
    clear x0 z0 x1 x2 z2 hD0 hf0 hfst hm3
    generalize hw2 : (wc.setCell ⟨w.heap.size, 2, none⟩ (.int .i64 D0)).setCell ⟨w.heap.size, 0, none⟩ (.slice ga m3 gc) = w2 at *
    clear hw2
    generalize G0.take m3 = G at *
    generalize M0.take m2 = M at *
    have CN : Hid (∀ W a c, PredR W (.slice a (List.length geL) c) geL → Calls Tryz.prog 7 #[.slice a (List.length geL) c, .int .u64 first] W fun e w' => ∃ bs : Nat, e = .returned (.tuple #[.pointer (some ⟨bs, 0, none⟩), .int .i64 0]) ∧ Hid (∃ w0 pv, SplR w0 w' bs pv (normP geL) first 0 0 ∧ PredB W.heap.size w0 pv (normP geL) ∧ Ext W w0 ∧ Ext W w')) := fun W a c h => new_yesB W _ geL h geL_may first hfs1 (by omega)
    go_upto_region 8 with (first
      | (go_at_call 18; refine (ge_any _).mono ?_; rintro e w3 ⟨a3, c3, rfl, h3⟩)
      | (go_at_call 7; (with_reducible refine (CN.out _ _ _ h3.out.1).mono ?_); rintro e w4 ⟨bs, rfl, h4⟩)
      | (go_at_call 8; (with_reducible refine (awake26_any _).mono ?_); rintro e w5 ⟨rfl, hx5⟩))
    obtain ⟨w0, pv, S0, hPB, hx30, hx34⟩ := h4.out
    have HW5 : Hid (WhW w w5 w.heap.size bs w3.heap.size w0.heap.size (.slice ga m3 gc) (.slice ma m2 mc) G M first D0 D0 first 0 0 0 0 (.slice none 0 0) []) :=
      ⟨Spl.start HGD.out hfs1, block_later (block_later (block_later K2.out h3.out.2) hx34) hx5, ⟨w0, pv, S0.later hx5, hPB, hx30.size, rfl⟩, Nat.le_refl _, Nat.lt_of_lt_of_le (Array.getElem?_eq_some_iff.1 K2.out).1 h3.out.2.size, ((HX2.out.trans h3.out.2).trans hx34).trans hx5, own_none _ _ _ _⟩
    have HGV : Hid ((G0.take 0).length = 0) := rfl
    clear S0 hPB hx30 hx34 h4 h3 hx5 CN K2 HX2 HGV
    generalize w3.heap.size = base at *
    generalize w0.heap.size = nb at *
    go_upto_block 0 with (go_at_call 10; (with_reducible refine (wh_lit HW5.out true).mono ?_); rintro e w6 ⟨rfl, hW6⟩)
    clear HW5
    generalize hgv : (Value.slice ga m3 gc) = gv at *
    generalize hmv : (Value.slice ma m2 mc) = mv at *
    clear hgv hmv
    go_cut [10, 11, 12, 13, 14, 15, 16, 17, 18, 19] from 76 to 167 (fun tv cv _ _ _ _ _ _ _ _ wx => ∃ (count asked : Nat) (a : Option Addr) (n c : Nat), tv = .slice a n c ∧ cv = .int .u64 count ∧ count ≤ 150 ∧ Hid (∃ D next st cnt T, n = List.length T ∧ D ≤ 209 ∧ WhW w wx w.heap.size bs base nb gv mv G M first D D next st cnt count asked (.slice a n c) T))
    case first => as_aux_lemma =>
      go_wp2_with fail
      go_loopw [10, 11, 12, 76] (fun tv cv av iv wr => ∃ (i count asked : Nat) (a : Option Addr) (n c : Nat), tv = .slice a n c ∧ cv = .int .u64 count ∧ av = .int .u64 asked ∧ iv = .int .i64 i ∧ i ≤ us.length ∧ i ≤ 150 ∧ count ≤ i ∧ asked ≤ 300 ∧ Hid (∃ D next st cnt T, n = List.length T ∧ D ≤ 59 + i ∧ WhW w wr w.heap.size bs base nb gv mv G M first D D next st cnt count asked (.slice a n c) T)) (fun _ _ _ iv _ => us.length - (intOf iv).toNat)
      case atStart => exact ⟨0, 0, 0, none, 0, 0, rfl, rfl, rfl, rfl, Nat.zero_le _, Nat.zero_le _, Nat.le_refl _, Nat.zero_le _, D0, first, _, _, [], rfl, by omega, hW6.out⟩
      case round =>
        clear hW6
        obtain ⟨i, count, asked, a, n, c, rfl, rfl, rfl, rfl, hi, hi150, hci, has, hH⟩ := hrel
        obtain ⟨D, next, st, cnt, T, rfl, hD, hW⟩ := hH.out
        clear hH
        have HW := Lib.hid hW
        have hnx2 : next ≤ max first (D + 1) := hW.spl.hi
        have hasb : asked ≤ next := hW.spl.asb
        clear hW
        by_cases h : i < us.length
        · have hI : decide ((i : Int) < (us.length : Int)) = true := decide_eq_true (by omega)
          have hr := HU.out.ext HW.out.x
          obtain ⟨B, o, rfl⟩ := Row.base hr (by omega) (by decide)
          obtain ⟨x, hx⟩ : ∃ x, x = us[i] := ⟨_, rfl⟩
          have hmx : x ∈ us := by rw [hx]; exact List.getElem_mem h
          have g := fun j hj => flat_get mvC 3 mvC_len us i h j hj
          rw [← hx] at g
          have c0 := Row.cellAt hr (g 0 (by decide)) (by omega)
          have c1 := Row.cellAt hr (g 1 (by decide)) (by omega)
          have c2 := Row.cellAt hr (g 2 (by decide)) (by omega)
          rw [Nat.add_zero] at c0
          rw [← Nat.add_assoc] at c1 c2
          obtain ⟨hs8, hr4⟩ := HA.out x hmx
          clear hx g hr hmx
          obtain ⟨what, sc, rm⟩ := x
          dsimp only [mvC] at c0 c1 c2 hs8 hr4
          by_cases h150 : i = 150
          · subst h150
            go_wp2_with fail
            go_meet
            exact ⟨count, asked, a, T.length, c, rfl, rfl, by omega, D, next, st, cnt, T, rfl, by omega, HW.out.later (boxes1 _ _).1⟩
          · have h1b : ((i : Int) == 150) = false := by
              have : ¬ (i : Int) = 150 := by omega
              simpa using this
            obtain ⟨s1, hs1⟩ : ∃ s1 : Nat, (sc : Int).tmod 8 = (s1 : Int) := ⟨sc % 8, by rw [Int.tmod_eq_emod_of_nonneg (by omega)]; omega⟩
            have hs2 : s1 < 8 := by have := Int.tmod_lt_of_pos (sc : Int) (b := 8) (by decide); omega
            obtain ⟨scan, hscan⟩ : ∃ s2 : Nat, 1 + (s1 : Int) = (s2 : Int) := ⟨s1 + 1, by omega⟩
            have hsc8 : scan ≤ 8 := by omega
            obtain ⟨room, hroom⟩ : ∃ s1 : Nat, (rm : Int).tmod 4 = (s1 : Int) := ⟨rm % 4, by rw [Int.tmod_eq_emod_of_nonneg (by omega)]; omega⟩
            have hrm4 : room < 4 := by have := Int.tmod_lt_of_pos (rm : Int) (b := 4) (by decide); omega
            obtain ⟨hx8, hb8⟩ := boxes1 wr (.cells #[.int .u8 what, .int .u8 sc, .int .u8 rm] 63)
            have HB8 := Lib.hid hb8
            have HW8 := Lib.hid (HW.out.later hx8)
            clear hx8 hb8 HW
            go_upto_region 15 with fail
            clear c0 c1 c2
            generalize hw8 : wr.alloc (.cells #[.int .u8 what, .int .u8 sc, .int .u8 rm] 63) = w8 at *
            clear hw8
            refine wp_region_facts [Fact.eq (.pointer (some ⟨wr.heap.size, 1, none⟩)),
                Fact.eq (.int .u8 (sc : Nat)),
                Fact.eq (.int .u8 (s1 : Nat)),
                Fact.eq (.int .i64 (s1 : Nat)),
                Fact.eq (.int .i64 (scan : Nat)),
                Fact.eq (.pointer (some ⟨wr.heap.size, 2, none⟩)),
                Fact.eq (.int .u8 (rm : Nat)),
                Fact.eq (.int .u8 (room : Nat)),
                Fact.eq (.int .i64 (room : Nat)),
                Fact.eq (.int .i64 (scan : Nat)),
                Fact.eq (.int .i64 (room : Nat))]
              [[], [(0, 83)], [(1, 84)], [(2, 85)], [(3, 86)], [], [(5, 88)], [(6, 89)], [(7, 90)], [(4, 87)], [(8, 91)]]
              [(0, 83), (1, 84), (2, 85), (3, 86), (4, 87), (5, 88), (6, 89), (7, 90), (8, 91), (9, 15), (10, 16)] (by kernel_rfl) (by kernel_rfl) ?_ ?_
            · refine ⟨?_, ?_, ?_, ?_, ?_, ?_, ?_, ?_, ?_, ?_, ?_, trivial⟩
              · intro w1 hx1; change wpList _ _ _ _ _ _; go_wp2_with fail; exact ⟨rfl, Ext.refl _, rfl, rfl⟩
              · intro w1 hx1; rintro _ rfl; change wpList _ _ _ _ _ _; have m0 := cell_of_row _ _ 1 _ _ _ (block_later HB8.out hx1); go_wp2_with fail; exact ⟨rfl, Ext.refl _, rfl, rfl⟩
              · intro w1 hx1; rintro _ rfl; change wpList _ _ _ _ _ _; go_wp2_with fail; exact ⟨rfl, Ext.refl _, rfl, rfl⟩
              · intro w1 hx1; rintro _ rfl; change wpList _ _ _ _ _ _; go_wp2_with fail; exact ⟨rfl, Ext.refl _, rfl, rfl⟩
              · intro w1 hx1; rintro _ rfl; change wpList _ _ _ _ _ _; go_wp2_with fail; exact ⟨rfl, Ext.refl _, rfl, rfl⟩
              · intro w1 hx1; change wpList _ _ _ _ _ _; go_wp2_with fail; exact ⟨rfl, Ext.refl _, rfl, rfl⟩
              · intro w1 hx1; rintro _ rfl; change wpList _ _ _ _ _ _; have m0 := cell_of_row _ _ 2 _ _ _ (block_later HB8.out hx1); go_wp2_with fail; exact ⟨rfl, Ext.refl _, rfl, rfl⟩
              · intro w1 hx1; rintro _ rfl; change wpList _ _ _ _ _ _; go_wp2_with fail; exact ⟨rfl, Ext.refl _, rfl, rfl⟩
              · intro w1 hx1; rintro _ rfl; change wpList _ _ _ _ _ _; go_wp2_with fail; exact ⟨rfl, Ext.refl _, rfl, rfl⟩
              · intro w1 hx1; rintro _ rfl; change wpList _ _ _ _ _ _; exact ob_assign rfl rfl rfl rfl rfl
              · intro w1 hx1; rintro _ rfl; change wpList _ _ _ _ _ _; exact ob_assign rfl rfl rfl rfl rfl
            · intro w1 hx1; rintro _ rfl; rintro _ rfl; rintro _ rfl; rintro _ rfl; rintro _ rfl; rintro _ rfl; rintro _ rfl; rintro _ rfl; rintro _ rfl; rintro _ rfl; rintro _ rfl; refine depsThen_nil ?_; dsimp only; simp only [Act.put, List.setIfInBounds_toArray, List.set_cons_zero, List.set_cons_succ]
              clear hs1 hscan hroom
              have HW1 := Lib.hid (HW8.out.later hx1)
              have HB1 := Lib.hid (block_later HB8.out hx1)
              clear hx1 HW8 HB8
              have y0 := cell_of_row _ _ 0 _ _ _ HB1.out
              go_upto_block 2 with fail
              obtain ⟨c1, hc1⟩ : ∃ c1, c1 = count + 1 := ⟨_, rfl⟩
              have qc : (count : Int) + 1 = (c1 : Int) := by omega
              have HC1 := Lib.hid hc1
              have hcl : c1 ≤ i + 1 := by omega
              clear hc1
              by_cases t0 : what = 0
              · subst t0
                by_cases t5 : st = 1
                · subst t5
                  go_upto_region 23 with (go_at_call 11; (with_reducible refine (wh_ask HW1.out HC1.out).mono ?_); rintro e w5 ⟨rfl, h5⟩)
                  have HW5 := Lib.hid h5.out.1
                  have y0' := cell_of_row _ _ 0 _ _ _ ((h5.out.2.block wr.heap.size (Array.getElem?_eq_some_iff.1 HB1.out).1 (fun e => by have e2 := Option.some.inj e; obtain ⟨_, _, z, _, _⟩ := HW1.out.s; have z1 := z.sp; rw [← e2] at z1; have := z1.symm.trans HB1.out; simp at this)).trans HB1.out)
                  clear y0 h5
                  have ha1 : 1 ≤ next := by have := HW5.out.spl.lo; have := HW5.out.spl.f1; omega
                  have d4 : decide ((next : Int) > 0) = true := decide_eq_true (by omega)
                  have d4' : decide (0 < next) = true := decide_eq_true (by omega)
                  have b0 := cell_of_row _ _ 0 _ _ _ HW5.out.box
                  have b1 := cell_of_row _ _ 1 _ _ _ HW5.out.box
                  have b2 := cell_of_row _ _ 2 _ _ _ HW5.out.box
                  have CP := Lib.hid (page_any _ _ _ D G M (HG2.out.ext HW5.out.x) (HM2.out.ext HW5.out.x) (by omega) next (by omega) (by omega) scan (by omega))
                  go_wp2_with (first
                    | (go_at_call 19; (with_reducible refine CP.out.mono ?_); rintro e w2 ⟨L, I, pi, pg, rfl, hP⟩)
                    | (go_at_call 13; (with_reducible refine (wh_page (HW5.out.later hP.out.x) (by omega) (by omega) scan (by omega) _ hP.out (room : Int)).mono ?_); rintro e w3 ⟨oa, on, oc, rfl, hO⟩; obtain ⟨O, next', st', rfl, hT, hK⟩ := hO.out; have HT := Lib.hid hT; clear hT hK hO)
                    | (at_builtin; refine wpList_append_row 38 53 (.tmp 114) (.tmp 122) rfl nb _ 6 72 Tryz.underlying38 infoDel rfl (by decide) rfl _ T.length (T.flatMap dmC) rfl HT.out.row O.length (O.flatMap dmC) HT.out.o (flat_one dmC_one O) (by have := HT.out.len; omega) (by have := HT.out.len; unfold maxLen; omega) HT.out.grow ?_; intro v9 w9 hown9 hg9; have HW9 := Lib.hid (HT.out.done hown9 hg9); obtain ⟨va, vc, rfl, _, _⟩ := own_shape hown9; clear hown9 hg9))
                  go_roundw
                  case rel =>
                    have k1 := HW9.out.spl.asb
                    have k2 := HW9.out.spl.hi
                    exact ⟨i + 1, c1, next, va, T.length + O.length, vc, rfl, rfl, rfl, by rw [Int.natCast_add]; rfl, by omega, by omega, by omega, by omega, D, next', st', _, T ++ O, by rw [List.length_append], by omega, HW9.out⟩
                  case measure => simp [intOf]; omega
                · have HWN := Lib.hid (HW1.out.askno HC1.out)
                  go_upto_region 23 with (go_at_call 11; (with_reducible refine (wh_askno HW1.out t5 c1).mono ?_); rintro e w5 ⟨rfl, rfl⟩)
                  by_cases ha1 : 1 ≤ asked
                  · have d4 : decide ((asked : Int) > 0) = true := decide_eq_true (by omega)
                    have d4' : decide (0 < asked) = true := decide_eq_true (by omega)
                    have b0 := cell_of_row _ _ 0 _ _ _ HWN.out.box
                    have b1 := cell_of_row _ _ 1 _ _ _ HWN.out.box
                    have b2 := cell_of_row _ _ 2 _ _ _ HWN.out.box
                    have CP := Lib.hid (page_any _ _ _ D G M (HG2.out.ext HWN.out.x) (HM2.out.ext HWN.out.x) (by omega) asked (by omega) (by omega) scan (by omega))
                    go_wp2_with (first
                      | (go_at_call 19; (with_reducible refine CP.out.mono ?_); rintro e w2 ⟨L, I, pi, pg, rfl, hP⟩)
                      | (go_at_call 13; (with_reducible refine (wh_page (HWN.out.later hP.out.x) (by omega) (by omega) scan (by omega) _ hP.out (room : Int)).mono ?_); rintro e w3 ⟨oa, on, oc, rfl, hO⟩; obtain ⟨O, next', st', rfl, hT, hK⟩ := hO.out; have HT := Lib.hid hT; clear hT hK hO)
                      | (at_builtin; refine wpList_append_row 38 53 (.tmp 114) (.tmp 122) rfl nb _ 6 72 Tryz.underlying38 infoDel rfl (by decide) rfl _ T.length (T.flatMap dmC) rfl HT.out.row O.length (O.flatMap dmC) HT.out.o (flat_one dmC_one O) (by have := HT.out.len; omega) (by have := HT.out.len; unfold maxLen; omega) HT.out.grow ?_; intro v9 w9 hown9 hg9; have HW9 := Lib.hid (HT.out.done hown9 hg9); obtain ⟨va, vc, rfl, _, _⟩ := own_shape hown9; clear hown9 hg9))
                    go_roundw
                    case rel =>
                      have k1 := HW9.out.spl.asb
                      have k2 := HW9.out.spl.hi
                      exact ⟨i + 1, c1, asked, va, T.length + O.length, vc, rfl, rfl, rfl, by rw [Int.natCast_add]; rfl, by omega, by omega, by omega, by omega, D, next', st', _, T ++ O, by rw [List.length_append], by omega, HW9.out⟩
                    case measure => simp [intOf]; omega
                  · have d4 : decide ((asked : Int) > 0) = false := decide_eq_false (by omega)
                    have d4' : decide (0 < asked) = false := decide_eq_false (by omega)
                    go_wp2_with fail
                    go_roundw
                    case rel => exact ⟨i + 1, c1, asked, a, T.length, c, rfl, rfl, rfl, by rw [Int.natCast_add]; rfl, by omega, by omega, by omega, by omega, D, next, st, cnt, T, rfl, by omega, HWN.out⟩
                    case measure => simp [intOf]; omega
              · have t0b : (what == 0) = false := by simpa using t0
                by_cases t4 : what = 4
                · subst t4
                  by_cases t5 : st = 1
                  · subst t5
                    go_wp2_with (go_at_call 11; (with_reducible refine (wh_ask HW1.out HC1.out).mono ?_); rintro e w5 ⟨rfl, h5⟩; have HW5 := Lib.hid h5.out.1; have y0 := cell_of_row _ _ 0 _ _ _ ((h5.out.2.block wr.heap.size (Array.getElem?_eq_some_iff.1 HB1.out).1 (fun e => by have e2 := Option.some.inj e; obtain ⟨_, _, z, _, _⟩ := HW1.out.s; have z1 := z.sp; rw [← e2] at z1; have := z1.symm.trans HB1.out; simp at this)).trans HB1.out))
                    go_roundw
                    case rel => exact ⟨i + 1, c1, next, a, T.length, c, rfl, rfl, rfl, by rw [Int.natCast_add]; rfl, by omega, by omega, by omega, by omega, D, next, _, _, T, rfl, by omega, HW5.out⟩
                    case measure => simp [intOf]; omega
                  · have HWN := Lib.hid (HW1.out.askno HC1.out)
                    go_wp2_with (go_at_call 11; (with_reducible refine (wh_askno HW1.out t5 c1).mono ?_); rintro e w5 ⟨rfl, rfl⟩)
                    go_roundw
                    case rel => exact ⟨i + 1, c1, asked, a, T.length, c, rfl, rfl, rfl, by rw [Int.natCast_add]; rfl, by omega, by omega, by omega, by omega, D, next, st, cnt, T, rfl, by omega, HWN.out⟩
                    case measure => simp [intOf]; omega
                · have t4b : (what == 4) = false := by simpa using t4
                  by_cases t1 : what = 1
                  · subst t1
                    obtain ⟨D1, hD1⟩ : ∃ D1, D1 = D + 1 := ⟨_, rfl⟩
                    have qd : (D : Int) + 1 = (D1 : Int) := by omega
                    have HD1 := Lib.hid hD1
                    have hD1b : D1 ≤ 60 + i := by omega
                    have hD1c : 1 ≤ D1 := by omega
                    clear hD1
                    have b2 := cell_of_row _ _ 2 _ _ _ HW1.out.box
                    have z2 := frozen_of_row _ _ 2 _ _ HW1.out.box
                    go_upto_region 27 with fail
                    have HWS := Lib.hid (HW1.out.setD D1)
                    clear b2 z2 y0
                    generalize hw2 : w1.setCell ⟨w.heap.size, 2, none⟩ (.int .i64 D1) = w2 at *
                    clear hw2
                    have b0 := cell_of_row _ _ 0 _ _ _ HWS.out.box
                    have b1 := cell_of_row _ _ 1 _ _ _ HWS.out.box
                    have b2 := cell_of_row _ _ 2 _ _ _ HWS.out.box
                    have CG : Hid (Calls Tryz.prog 20 #[.agg #[gv, mv, .int .i64 D1], .int .u64 D1] w2 fun e w' => e = .returned (.bool false) ∧ Ext w2 w') := by
                      have := gone_any w2 gv mv D1 G (HG2.out.ext HWS.out.x) D1 hD1c (by omega)
                      rw [show gonB G D1 = false by unfold gonB; rw [List.getD_eq_getElem?_getD, List.getElem?_eq_none (by have := HWS.out.spl.g; have := HD1.out; omega)]; rfl] at this
                      exact this
                    go_wp2_with (first
                      | (go_at_call 20; (with_reducible refine CG.out.mono ?_); rintro e w3 ⟨rfl, hx3⟩; have HW3 := Lib.hid (HWS.out.later hx3); have b0 := cell_of_row _ _ 0 _ _ _ HW3.out.box; have b1 := cell_of_row _ _ 1 _ _ _ HW3.out.box; have b2 := cell_of_row _ _ 2 _ _ _ HW3.out.box)
                      | (go_at_call 21; (with_reducible refine (item_any w3 gv mv D1 M (HM2.out.ext HW3.out.x) D1 hD1c (by omega)).mono ?_); rintro e w4 ⟨x, rfl, hx⟩)
                      | (go_at_call 14; (with_reducible refine (wh_come HD1.out (HW3.out.later hx.out.2.2) (by omega) x hx.out.1 hx.out.2.1 (room : Int)).mono ?_); rintro e w5 ⟨oa, on, oc, rfl, hO⟩; obtain ⟨O, next', st', rfl, hT⟩ := hO.out; have HT := Lib.hid hT; clear hT hO)
                      | (at_builtin; refine wpList_append_row 38 53 (.tmp 137) (.tmp 143) rfl nb _ 6 72 Tryz.underlying38 infoDel rfl (by decide) rfl _ T.length (T.flatMap dmC) rfl HT.out.row O.length (O.flatMap dmC) HT.out.o (flat_one dmC_one O) (by have := HT.out.len; omega) (by have := HT.out.len; unfold maxLen; omega) HT.out.grow ?_; intro v9 w9 hown9 hg9; have HW9 := Lib.hid (HT.out.done hown9 hg9); obtain ⟨va, vc, rfl, _, _⟩ := own_shape hown9; clear hown9 hg9))
                    go_roundw
                    case rel =>
                      have k1 := HW9.out.spl.asb
                      have k2 := HW9.out.spl.hi
                      exact ⟨i + 1, count, asked, va, T.length + O.length, vc, rfl, rfl, rfl, by rw [Int.natCast_add]; rfl, by omega, by omega, by omega, by omega, D1, next', st', _, T ++ O, by rw [List.length_append], by omega, HW9.out⟩
                    case measure => simp [intOf]; omega
                  · have t1b : (what == 1) = false := by simpa using t1
                    by_cases t2 : what = 2
                    · subst t2
                      go_wp2_with (go_at_call 10; (with_reducible refine (wh_lit HW1.out false).mono ?_); rintro e w5 ⟨rfl, h5⟩)
                      go_roundw
                      case rel => exact ⟨i + 1, count, asked, a, T.length, c, rfl, rfl, rfl, by rw [Int.natCast_add]; rfl, by omega, by omega, by omega, by omega, D, next, _, _, T, rfl, by omega, h5.out⟩
                      case measure => simp [intOf]; omega
                    · have t2b : (what == 2) = false := by simpa using t2
                      by_cases t3 : what = 3
                      · subst t3
                        go_wp2_with (go_at_call 10; (with_reducible refine (wh_lit HW1.out true).mono ?_); rintro e w5 ⟨rfl, h5⟩)
                        go_roundw
                        case rel => exact ⟨i + 1, count, asked, a, T.length, c, rfl, rfl, rfl, by rw [Int.natCast_add]; rfl, by omega, by omega, by omega, by omega, D, next, _, _, T, rfl, by omega, h5.out⟩
                        case measure => simp [intOf]; omega
                      · have t3b : (what == 3) = false := by simpa using t3
                        by_cases t6 : what = 5
                        · subst t6
                          by_cases ha1 : 1 ≤ asked
                          · have d4 : decide ((asked : Int) > 0) = true := decide_eq_true (by omega)
                            have d4' : decide (0 < asked) = true := decide_eq_true (by omega)
                            have b0 := cell_of_row _ _ 0 _ _ _ HW1.out.box
                            have b1 := cell_of_row _ _ 1 _ _ _ HW1.out.box
                            have b2 := cell_of_row _ _ 2 _ _ _ HW1.out.box
                            have CP := Lib.hid (page_any _ _ _ D G M (HG2.out.ext HW1.out.x) (HM2.out.ext HW1.out.x) (by omega) asked (by omega) (by omega) scan (by omega))
                            go_wp2_with (first
                              | (go_at_call 19; (with_reducible refine CP.out.mono ?_); rintro e w2 ⟨L, I, pi, pg, rfl, hP⟩)
                              | (go_at_call 13; (with_reducible refine (wh_page (HW1.out.later hP.out.x) (by omega) (by omega) scan (by omega) _ hP.out (room : Int)).mono ?_); rintro e w3 ⟨oa, on, oc, rfl, hO⟩; obtain ⟨O, next', st', rfl, hT, hK⟩ := hO.out; have HT := Lib.hid hT; clear hT hK hO)
                              | (at_builtin; refine wpList_append_row 38 53 (.tmp 157) (.tmp 165) rfl nb _ 6 72 Tryz.underlying38 infoDel rfl (by decide) rfl _ T.length (T.flatMap dmC) rfl HT.out.row O.length (O.flatMap dmC) HT.out.o (flat_one dmC_one O) (by have := HT.out.len; omega) (by have := HT.out.len; unfold maxLen; omega) HT.out.grow ?_; intro v9 w9 hown9 hg9; have HW9 := Lib.hid (HT.out.done hown9 hg9); obtain ⟨va, vc, rfl, _, _⟩ := own_shape hown9; clear hown9 hg9))
                            go_roundw
                            case rel =>
                              have k1 := HW9.out.spl.asb
                              have k2 := HW9.out.spl.hi
                              exact ⟨i + 1, count, asked, va, T.length + O.length, vc, rfl, rfl, rfl, by rw [Int.natCast_add]; rfl, by omega, by omega, by omega, by omega, D, next', st', _, T ++ O, by rw [List.length_append], by omega, HW9.out⟩
                            case measure => simp [intOf]; omega
                          · have d4 : decide ((asked : Int) > 0) = false := decide_eq_false (by omega)
                            have d4' : decide (0 < asked) = false := decide_eq_false (by omega)
                            go_wp2_with fail
                            go_roundw
                            case rel => exact ⟨i + 1, count, asked, a, T.length, c, rfl, rfl, rfl, by rw [Int.natCast_add]; rfl, by omega, by omega, by omega, by omega, D, next, st, cnt, T, rfl, by omega, HW1.out⟩
                            case measure => simp [intOf]; omega
                        · have t6b : (what == 5) = false := by simpa using t6
                          go_wp2_with fail
                          go_roundw
                          case rel => exact ⟨i + 1, count, asked, a, T.length, c, rfl, rfl, rfl, by rw [Int.natCast_add]; rfl, by omega, by omega, by omega, by omega, D, next, st, cnt, T, rfl, by omega, HW1.out⟩
                          case measure => simp [intOf]; omega
        · have hI : decide ((i : Int) < (us.length : Int)) = false := decide_eq_false (by omega)
          go_wp2_with fail
          go_meet
          exact ⟨count, asked, a, T.length, c, rfl, rfl, by omega, D, next, st, cnt, T, rfl, by omega, HW.out⟩
    case rest => as_aux_lemma =>
      obtain ⟨count, asked, a, n, c, rfl, rfl, hc150, hH⟩ := hcut
      obtain ⟨D, next, st, cnt, T, rfl, hD, hW⟩ := hH.out
      have HW := Lib.hid hW
      clear hH hW hW6
      go_upto_block 3 with (go_at_call 10; (with_reducible refine (wh_lit HW.out true).mono ?_); rintro e w7 ⟨rfl, hW7⟩)
      clear HW
      go_cut [10, 11, 20, 21] from 170 to 190 (fun tv _ _ _ wx => ∃ (a : Option Addr) (n c : Nat), tv = .slice a n c ∧ Hid (∃ D next cnt count asked T, n = List.length T ∧ D ≤ 209 ∧ WhW w wx w.heap.size bs base nb gv mv G M first D D next 3 cnt count asked (.slice a n c) T))
      case first => as_aux_lemma =>
        go_wp2_with fail
        go_loopw [10, 11, 170] (fun tv cv kv wr => ∃ (k count : Nat) (a : Option Addr) (n c : Nat), tv = .slice a n c ∧ cv = .int .u64 count ∧ kv = .int .i64 k ∧ k ≤ 300 ∧ count ≤ 150 + k ∧ Hid (∃ D next st cnt asked T, n = List.length T ∧ D ≤ 209 ∧ (st = 3 ∨ (st = 1 ∧ 1 + 8 * k ≤ next)) ∧ WhW w wr w.heap.size bs base nb gv mv G M first D D next st cnt count asked (.slice a n c) T)) (fun _ _ kv _ => 300 - (intOf kv).toNat)
        case atStart => exact ⟨0, count, a, T.length, c, rfl, rfl, rfl, Nat.zero_le _, by omega, D, next, _, _, asked, T, rfl, hD, .inr ⟨rfl, by have := hW7.out.spl.lo; have := hW7.out.spl.f1; omega⟩, hW7.out⟩
        case round =>
          clear hW7 hD hc150
          obtain ⟨k, count, a, n, c, rfl, rfl, rfl, hk, hck, hH⟩ := hrel
          obtain ⟨D, next, st, cnt, asked, T, rfl, hD, hst, hW⟩ := hH.out
          have HW := Lib.hid hW
          clear hH hW
          by_cases h : k < 300
          · have hI : decide ((k : Int) < 300) = true := decide_eq_true (by omega)
            obtain ⟨c1, hc1⟩ : ∃ c1, c1 = count + 1 := ⟨_, rfl⟩
            have qc : (count : Int) + 1 = (c1 : Int) := by omega
            have HC1 := Lib.hid hc1
            have hcl : c1 ≤ 151 + k := by omega
            clear hc1
            rcases hst with rfl | ⟨rfl, hkn⟩
            · have HWN := Lib.hid (HW.out.askno HC1.out)
              go_wp2_with (go_at_call 11; (with_reducible refine (wh_askno HW.out (by decide) c1).mono ?_); rintro e w5 ⟨rfl, rfl⟩)
              go_meet
              exact ⟨a, T.length, c, rfl, D, next, cnt, c1, asked, T, rfl, hD, HWN.out⟩
            · go_upto_region 43 with (go_at_call 11; (with_reducible refine (wh_ask HW.out HC1.out).mono ?_); rintro e w5 ⟨rfl, h5⟩)
              have HW5 := Lib.hid h5.out.1
              clear h5 HW
              have ha1 : 1 ≤ next := by have := HW5.out.spl.lo; have := HW5.out.spl.f1; omega
              have hn2 : next ≤ 300 := by have := HW5.out.spl.hi; omega
              have b0 := cell_of_row _ _ 0 _ _ _ HW5.out.box
              have b1 := cell_of_row _ _ 1 _ _ _ HW5.out.box
              have b2 := cell_of_row _ _ 2 _ _ _ HW5.out.box
              have CP : Hid (Calls Tryz.prog 19 #[.agg #[gv, mv, .int .i64 D], .int .u64 next, .int .i64 8] w5
                  fun e w' => ∃ L I hi hg, e = .returned (.agg #[.int .u64 next, .int .u64 (enW D next 8 : Nat), hi, hg, .bool (decide (D < enW D next 8))]) ∧ Hid (PgO w5 w' G M next (enW D next 8) L I hi hg)) :=
                page_any w5 gv mv D G M (HG2.out.ext HW5.out.x) (HM2.out.ext HW5.out.x) (by omega) next ha1 (by omega) 8 (by omega)
              have HKN := Lib.hid hkn
              go_wp2_with (first
                | (go_at_call 19; (with_reducible refine CP.out.mono ?_); rintro e w2 ⟨L, I, pi, pg, rfl, hP⟩)
                | (go_at_call 13; (with_reducible refine (wh_page (HW5.out.later hP.out.x) (by omega) (by omega) 8 (by omega) _ hP.out 99).mono ?_); rintro e w3 ⟨oa, on, oc, rfl, hO⟩; obtain ⟨O, next', st', rfl, hT, hK⟩ := hO.out; have HT := Lib.hid hT; have HK := Lib.hid (hK ⟨rfl, rfl⟩); clear hT hO hK)
                | (at_builtin; refine wpList_append_row 38 53 (.tmp 182) (.tmp 188) rfl nb _ 6 72 Tryz.underlying38 infoDel rfl (by decide) rfl _ T.length (T.flatMap dmC) rfl HT.out.row O.length (O.flatMap dmC) HT.out.o (flat_one dmC_one O) (by have := HT.out.len; omega) (by have := HT.out.len; unfold maxLen; omega) HT.out.grow ?_; intro v9 w9 hown9 hg9; have HW9 := Lib.hid (HT.out.done hown9 hg9); obtain ⟨va, vc, rfl, _, _⟩ := own_shape hown9; clear hown9 hg9))
              go_roundw
              case rel =>
                have hrd : st' = 3 ∨ (st' = 1 ∧ 1 + 8 * (k + 1) ≤ next') := by
                  obtain ⟨_, e1, e2, hcv⟩ := HK.out
                  rw [e1, e2]
                  exact HW5.out.spl.round (by omega) (by omega) hcv k HKN.out
                exact ⟨k + 1, c1, va, T.length + O.length, vc, rfl, rfl, by rw [Int.natCast_add]; rfl, by omega, by omega, D, next', st', _, _, T ++ O, by rw [List.length_append], hD, hrd, HW9.out⟩
              case measure => simp [intOf]; omega
          · have hI : decide ((k : Int) < 300) = false := decide_eq_false (by omega)
            have hst3 : st = 3 := by
              rcases hst with h | ⟨_, h⟩
              · exact h
              · have := HW.out.spl.hi; omega
            subst hst3
            go_wp2_with fail
            go_meet
            exact ⟨a, T.length, c, rfl, D, next, cnt, count, asked, T, rfl, hD, HW.out⟩
      case rest => as_aux_lemma =>
        obtain ⟨a, n, c, rfl, hH⟩ := hcut
        obtain ⟨D, next, cnt, count, asked, T, rfl, hD, hW⟩ := hH.out
        have HW := Lib.hid hW
        clear hH hW hW7
        obtain ⟨b, hb⟩ : ∃ b, b = max first (D + 1) := ⟨_, rfl⟩
        have HB0 : Hid (AtW G M first (T.map DM.pd) b) := by show AtW _ _ _ _ _; rw [hb]; exact .inl (HW.out.spl.over rfl)
        have hb1 : first ≤ b := by omega
        have hb2 : b ≤ 260 := by omega
        have HBB := Lib.hid hb
        clear hb
        have hTl : T.length ≤ 300 := by have := HW.out.len; omega
        go_wp2_with fail
        go_loopw [22, 23] (fun atv nv wr => ∃ at1 n : Nat, atv = .int .i64 at1 ∧ nv = .int .u64 n ∧ first ≤ n ∧ n ≤ b ∧ at1 ≤ T.length ∧ Hid (Ext wc wr ∧ AtW G M n ((T.map DM.pd).drop at1) b)) (fun _ nv _ => b - (intOf nv).toNat)
        case atStart => exact ⟨0, first, rfl, rfl, Nat.le_refl _, hb1, Nat.zero_le _, Ext.refl _, HB0.out⟩
        case round =>
          clear HB0
          obtain ⟨at1, n, rfl, rfl, hn1, hn2, hat, hH⟩ := hrel
          have HXR := Lib.hid hH.out.1
          have HAT := Lib.hid hH.out.2
          clear hH
          have HST := Lib.hid (block_later HW.out.box HXR.out)
          have st2 := cell_of_row _ _ 2 _ _ _ HST.out
          by_cases h : n ≤ D
          · have d1 : decide ((n : Int) ≤ (D : Int)) = true := decide_eq_true (by omega)
            have d1' : decide (n ≤ D) = true := decide_eq_true h
            have hnb : n < b := by have := HBB.out; omega
            have CG : Hid (∀ W, Ext wr W → Calls Tryz.prog 20 #[.agg #[gv, mv, .int .i64 D], .int .u64 n] W fun e w' => e = .returned (.bool (gonB G n)) ∧ Ext W w') := fun W hW => gone_any W gv mv D G (HG2.out.ext (HW.out.x.trans (HXR.out.trans hW))) n (by omega) (by omega)
            have CI : Hid (∀ W, Ext wr W → Calls Tryz.prog 21 #[.agg #[gv, mv, .int .i64 D], .int .u64 n] W fun e w' => ∃ x : IM, e = .returned (.agg #[.int .u64 x.n, .int .u64 x.t, .string (strOf x.key), .slice x.ha x.av.length x.hc]) ∧ Hid (x.pi = itW M n ∧ AttrO W.heap.size w' x.h x.av ∧ Ext W w')) := fun W hW => item_any W gv mv D M (HM2.out.ext (HW.out.x.trans (HXR.out.trans hW))) n (by omega) (by omega)
            have CM : Hid (∀ W v (x : IM), PredR W v geL → (x.pi = itW M n ∧ AttrR W x.h x.av) → Calls Tryz.prog 17 #[v, .agg #[.string (strOf x.key), .slice x.ha x.av.length x.hc]] W fun e w' => e = .returned (.bool (gonB M n)) ∧ Ext W w') := fun W v x hv ha => by
              have := matches_any W v geL x.key x.h x.av hv ha.2
              have e1 : x.av = (itW M n).av := congrArg PI.av ha.1
              rw [show matchP geL x.av = gonB M n by rw [e1]; exact itW_match M n] at this
              exact this
            go_upto_region 49 with fail
            clear st2
            cases hgb : gonB G n with
            | false =>
              cases hmb : gonB M n with
              | false =>
                rw [hgb] at CG
                rw [hmb] at CM
                have HN := Lib.hid (HAT.out.skip hnb (by unfold relB; rw [hgb, hmb]; rfl))
                clear hgb hmb
                refine wp_region_facts [Fact.eq (.agg #[gv, mv, .int .i64 D]),
                    Fact.eq (.int .u64 n),
                    Fact.eq (.bool false),
                    Fact.eq (.bool true),
                    Fact.eq (.bool true),
                    Fact.prW geL,
                    Fact.eq (.agg #[gv, mv, .int .i64 D]),
                    Fact.eq (.int .u64 n),
                    Fact.imW M n,
                    Fact.evW M n,
                    Fact.eq (.bool false),
                    Fact.eq (.bool true),
                    Fact.eq (.bool true)]
                  [[], [], [(0, 199), (1, 200)], [(2, 201)], [(3, 202)], [(4, 203)], [(4, 203)], [(4, 203)], [(6, 205), (7, 206), (4, 203)], [(8, 207), (4, 203)], [(5, 204), (9, 208), (4, 203)], [(10, 209), (4, 203)], [(4, 203), (11, 210)]]
                  [(0, 199), (1, 200), (2, 201), (3, 202), (4, 203), (5, 204), (6, 205), (7, 206), (8, 207), (9, 208), (10, 209), (11, 210), (12, 211)] (by kernel_rfl) (by kernel_rfl) ?_ ?_
                · refine ⟨?_, ?_, ?_, ?_, ?_, ?_, ?_, ?_, ?_, ?_, ?_, ?_, ?_, trivial⟩
                  · intro w1 hx1; change wpList _ _ _ _ _ _; have m0 := cell_of_row _ _ 0 _ _ _ (block_later HST.out hx1); have m1 := cell_of_row _ _ 1 _ _ _ (block_later HST.out hx1); have m2 := cell_of_row _ _ 2 _ _ _ (block_later HST.out hx1); go_wp2_with fail; exact ⟨rfl, Ext.refl _, rfl, rfl⟩
                  · intro w1 hx1; change wpList _ _ _ _ _ _; exact ob_move rfl rfl rfl rfl rfl
                  · intro w1 hx1; rintro _ rfl; rintro _ rfl; change wpList _ _ _ _ _ _; go_wp2_with fail; refine (CG.out _ hx1).mono ?_; rintro e w2 ⟨rfl, hx2⟩; go_wp2_with fail; exact ⟨rfl, hx2, rfl, rfl⟩
                  · intro w1 hx1; rintro _ rfl; change wpList _ _ _ _ _ _; go_wp2_with fail; exact ⟨rfl, Ext.refl _, rfl, rfl⟩
                  · intro w1 hx1; rintro _ rfl; change wpList _ _ _ _ _ _; exact ob_move rfl rfl rfl rfl rfl
                  · intro w1 hx1; rintro _ rfl; change wpList _ _ _ _ _ _; go_wp2_with fail; refine (ge_any _).mono ?_; rintro e w9 ⟨ga, gc, rfl, hh⟩; go_wp2_with fail; exact ⟨rfl, hh.out.2, rfl, hh.out.1⟩
                  · intro w1 hx1; rintro _ rfl; change wpList _ _ _ _ _ _; have m0 := cell_of_row _ _ 0 _ _ _ (block_later HST.out hx1); have m1 := cell_of_row _ _ 1 _ _ _ (block_later HST.out hx1); have m2 := cell_of_row _ _ 2 _ _ _ (block_later HST.out hx1); go_wp2_with fail; exact ⟨rfl, Ext.refl _, rfl, rfl⟩
                  · intro w1 hx1; rintro _ rfl; change wpList _ _ _ _ _ _; exact ob_move rfl rfl rfl rfl rfl
                  · intro w1 hx1; rintro _ rfl; rintro _ rfl; rintro _ rfl; change wpList _ _ _ _ _ _; go_wp2_with fail; refine (CI.out _ hx1).mono ?_; rintro e w9 ⟨x, rfl, hh⟩; have HH := imW_mk hh; go_wp2_with fail; exact ⟨rfl, hh.out.2.2, rfl, HH⟩
                  · intro w1 hx1; intro v207 h207; rintro _ rfl; change wpList _ _ _ _ _ _; obtain ⟨x, rfl, hx1v⟩ := h207; have HH := evW_mk hx1v; have hfd : (Instr.field 49 (.agg #[.int .u64 x.n, .int .u64 x.t, .string (strOf x.key), .slice x.ha x.av.length x.hc]) 2).run Tryz.prog w1 = .ok (.agg #[.string (strOf x.key), .slice x.ha x.av.length x.hc]) w1 := (by kernel_rfl); go_wp2_with fail; exact ⟨rfl, Ext.refl _, rfl, HH⟩
                  · intro w1 hx1; intro v204 h204; intro v208 h208; rintro _ rfl; change wpList _ _ _ _ _ _; obtain ⟨x, rfl, hx1v⟩ := h208; go_wp2_with fail; refine (CM.out _ _ x h204 hx1v).mono ?_; rintro e w2 ⟨rfl, hx2⟩; go_wp2_with fail; exact ⟨rfl, hx2, rfl, rfl⟩
                  · intro w1 hx1; rintro _ rfl; rintro _ rfl; change wpList _ _ _ _ _ _; go_wp2_with fail; exact ⟨rfl, Ext.refl _, rfl, rfl⟩
                  · intro w1 hx1; rintro _ rfl; rintro _ rfl; change wpList _ _ _ _ _ _; exact ob_pick rfl rfl rfl rfl rfl rfl
                · intro w1 hx1; rintro _ rfl; rintro _ rfl; rintro _ rfl; rintro _ rfl; rintro _ rfl; intro v204 h204; rintro _ rfl; rintro _ rfl; intro v207 h207; intro v208 h208; rintro _ rfl; rintro _ rfl; rintro _ rfl; refine depsThen_nil ?_; dsimp only; simp only [Act.put, List.setIfInBounds_toArray, List.set_cons_zero, List.set_cons_succ]
                  replace h204 : (Fact.prW geL).p v204 w1 := h204
                  replace h207 : (Fact.imW M n).p v207 w1 := h207
                  replace h208 : (Fact.evW M n).p v208 w1 := h208
                  go_wp2_with fail
                  go_roundw
                  case rel => exact ⟨at1, n + 1, rfl, by rw [Int.natCast_add]; rfl, by omega, by omega, by omega, HXR.out.trans hx1, HN.out⟩
                  case measure => simp [intOf]; omega
              | true =>
                rw [hgb] at CG
                rw [hmb] at CM
                obtain ⟨d, r, hdr, hbeg, hnum, hgd, hn1', hn2'⟩ := HAT.out.take hnb (by unfold relB; rw [hmb, Bool.or_true])
                have HGB := Lib.hid hgb
                clear hgb hmb
                have hat1 : at1 < T.length := by
                  have h1 : ((T.map DM.pd).drop at1).length = r.length + 1 := by rw [hdr]; rfl
                  rw [List.length_drop, List.length_map] at h1
                  omega
                have hdd : (T.map DM.pd).drop at1 = T[at1].pd :: (T.map DM.pd).drop (at1 + 1) := by
                  rw [List.drop_eq_getElem_cons (by rw [List.length_map]; exact hat1), List.getElem_map]
                have hTd : T[at1].pd = d := by rw [hdd] at hdr; exact (List.cons.inj hdr).1
                have hr2 : r = (T.map DM.pd).drop (at1 + 1) := by rw [hdd] at hdr; exact (List.cons.inj hdr).2.symm
                rw [hr2] at hn1'
                have hN1 := hn1'
                have hN2 := hn2'
                clear hdr hdd hr2 hn1' hn2' HAT
                refine wp_region_facts [Fact.eq (.agg #[gv, mv, .int .i64 D]),
                    Fact.eq (.int .u64 n),
                    Fact.eq (.bool false),
                    Fact.eq (.bool true),
                    Fact.eq (.bool true),
                    Fact.prW geL,
                    Fact.eq (.agg #[gv, mv, .int .i64 D]),
                    Fact.eq (.int .u64 n),
                    Fact.imW M n,
                    Fact.evW M n,
                    Fact.eq (.bool true),
                    Fact.eq (.bool false),
                    Fact.eq (.bool false)]
                  [[], [], [(0, 199), (1, 200)], [(2, 201)], [(3, 202)], [(4, 203)], [(4, 203)], [(4, 203)], [(6, 205), (7, 206), (4, 203)], [(8, 207), (4, 203)], [(5, 204), (9, 208), (4, 203)], [(10, 209), (4, 203)], [(4, 203), (11, 210)]]
                  [(0, 199), (1, 200), (2, 201), (3, 202), (4, 203), (5, 204), (6, 205), (7, 206), (8, 207), (9, 208), (10, 209), (11, 210), (12, 211)] (by kernel_rfl) (by kernel_rfl) ?_ ?_
                · refine ⟨?_, ?_, ?_, ?_, ?_, ?_, ?_, ?_, ?_, ?_, ?_, ?_, ?_, trivial⟩
                  · intro w1 hx1; change wpList _ _ _ _ _ _; have m0 := cell_of_row _ _ 0 _ _ _ (block_later HST.out hx1); have m1 := cell_of_row _ _ 1 _ _ _ (block_later HST.out hx1); have m2 := cell_of_row _ _ 2 _ _ _ (block_later HST.out hx1); go_wp2_with fail; exact ⟨rfl, Ext.refl _, rfl, rfl⟩
                  · intro w1 hx1; change wpList _ _ _ _ _ _; exact ob_move rfl rfl rfl rfl rfl
                  · intro w1 hx1; rintro _ rfl; rintro _ rfl; change wpList _ _ _ _ _ _; go_wp2_with fail; refine (CG.out _ hx1).mono ?_; rintro e w2 ⟨rfl, hx2⟩; go_wp2_with fail; exact ⟨rfl, hx2, rfl, rfl⟩
                  · intro w1 hx1; rintro _ rfl; change wpList _ _ _ _ _ _; go_wp2_with fail; exact ⟨rfl, Ext.refl _, rfl, rfl⟩
                  · intro w1 hx1; rintro _ rfl; change wpList _ _ _ _ _ _; exact ob_move rfl rfl rfl rfl rfl
                  · intro w1 hx1; rintro _ rfl; change wpList _ _ _ _ _ _; go_wp2_with fail; refine (ge_any _).mono ?_; rintro e w9 ⟨ga, gc, rfl, hh⟩; go_wp2_with fail; exact ⟨rfl, hh.out.2, rfl, hh.out.1⟩
                  · intro w1 hx1; rintro _ rfl; change wpList _ _ _ _ _ _; have m0 := cell_of_row _ _ 0 _ _ _ (block_later HST.out hx1); have m1 := cell_of_row _ _ 1 _ _ _ (block_later HST.out hx1); have m2 := cell_of_row _ _ 2 _ _ _ (block_later HST.out hx1); go_wp2_with fail; exact ⟨rfl, Ext.refl _, rfl, rfl⟩
                  · intro w1 hx1; rintro _ rfl; change wpList _ _ _ _ _ _; exact ob_move rfl rfl rfl rfl rfl
                  · intro w1 hx1; rintro _ rfl; rintro _ rfl; rintro _ rfl; change wpList _ _ _ _ _ _; go_wp2_with fail; refine (CI.out _ hx1).mono ?_; rintro e w9 ⟨x, rfl, hh⟩; have HH := imW_mk hh; go_wp2_with fail; exact ⟨rfl, hh.out.2.2, rfl, HH⟩
                  · intro w1 hx1; intro v207 h207; rintro _ rfl; change wpList _ _ _ _ _ _; obtain ⟨x, rfl, hx1v⟩ := h207; have HH := evW_mk hx1v; have hfd : (Instr.field 49 (.agg #[.int .u64 x.n, .int .u64 x.t, .string (strOf x.key), .slice x.ha x.av.length x.hc]) 2).run Tryz.prog w1 = .ok (.agg #[.string (strOf x.key), .slice x.ha x.av.length x.hc]) w1 := (by kernel_rfl); go_wp2_with fail; exact ⟨rfl, Ext.refl _, rfl, HH⟩
                  · intro w1 hx1; intro v204 h204; intro v208 h208; rintro _ rfl; change wpList _ _ _ _ _ _; obtain ⟨x, rfl, hx1v⟩ := h208; go_wp2_with fail; refine (CM.out _ _ x h204 hx1v).mono ?_; rintro e w2 ⟨rfl, hx2⟩; go_wp2_with fail; exact ⟨rfl, hx2, rfl, rfl⟩
                  · intro w1 hx1; rintro _ rfl; rintro _ rfl; change wpList _ _ _ _ _ _; go_wp2_with fail; exact ⟨rfl, Ext.refl _, rfl, rfl⟩
                  · intro w1 hx1; rintro _ rfl; rintro _ rfl; change wpList _ _ _ _ _ _; exact ob_pick rfl rfl rfl rfl rfl rfl
                · intro w1 hx1; rintro _ rfl; rintro _ rfl; rintro _ rfl; rintro _ rfl; rintro _ rfl; intro v204 h204; rintro _ rfl; rintro _ rfl; intro v207 h207; intro v208 h208; rintro _ rfl; rintro _ rfl; rintro _ rfl; refine depsThen_nil ?_; dsimp only; simp only [Act.put, List.setIfInBounds_toArray, List.set_cons_zero, List.set_cons_succ]
                  replace h204 : (Fact.prW geL).p v204 w1 := h204
                  replace h207 : (Fact.imW M n).p v207 w1 := h207
                  replace h208 : (Fact.evW M n).p v208 w1 := h208
                  have HX1 := Lib.hid hx1
                  have HST1 := Lib.hid (block_later HST.out hx1)
                  clear hx1 HST
                  have hrow := Row.of_own (own_ext (own_ext HW.out.row HXR.out) HX1.out)
                  obtain ⟨B, o, rfl, t0, t1, t2, t3, t4, t5⟩ := hrow.atD hat1
                  clear hrow
                  have CB := Lib.hid fun W => begins_nat W T[at1]
                  have CN := Lib.hid fun W => number_nat W T[at1]
                  rw [hTd] at CB CN
                  have hdn : T[at1].n = d.n := congrArg PD.n hTd
                  have hgd2 : Hid (gonB G n = decide (T[at1].n = 0)) := by show _ = _; rw [hdn]; exact hgd
                  have h0 : ¬ T[at1].n = 0 := by have := hgd2.out; rw [HGB.out] at this; simpa using this.symm
                  clear hdn hgd2 hTd hgd
                  obtain ⟨e, he⟩ : ∃ e, e = T[at1] := ⟨_, rfl⟩
                  rw [← he] at t0 t1 t2 t3 t4 t5 CB CN h0
                  clear he
                  obtain ⟨dn, dt, key, ha, hc, av, f, g⟩ := e
                  dsimp only at t0 t1 t2 t3 t4 t5 CB CN h0
                  generalize strOf key = k at *
                  generalize av.length = ln at *
                  generalize d.beg = bg at *
                  generalize d.num = nm at *
                  have g1 : ((at1 : Int) == (T.length : Int)) = false := by simp; omega
                  have g2 : decide ((n : Int) < (bg : Int)) = false := decide_eq_false (by omega)
                  have g2' : decide (n < bg) = false := decide_eq_false (by omega)
                  have g3 : decide ((n : Int) > (nm : Int)) = false := decide_eq_false (by omega)
                  have g3' : decide (nm < n) = false := decide_eq_false (by omega)
                  have g4 : ((dn : Int) == 0) = false := by simp; omega
                  clear h0
                  go_upto_region 50 with fail
                  refine wp_region_facts [Fact.eq (.int .i64 at1),
                      Fact.eq (.slice (some ⟨B, o, none⟩) T.length c),
                      Fact.eq (.int .i64 T.length),
                      Fact.eq (.bool false),
                      Fact.eq (.bool false),
                      Fact.eq (.int .u64 n),
                      Fact.eq (.slice (some ⟨B, o, none⟩) T.length c),
                      Fact.eq (.int .i64 at1),
                      Fact.eq (.pointer (some ⟨B, o + at1 * 6, none⟩)),
                      Fact.eq (.agg #[.int .u64 dn, .int .u64 dt, .string k, .slice ha ln hc, .int .u64 f, .int .u64 g]),
                      Fact.eq (.int .u64 (bg : Nat)),
                      Fact.eq (.bool false),
                      Fact.eq (.bool false),
                      Fact.eq (.bool false),
                      Fact.eq (.int .u64 n),
                      Fact.eq (.slice (some ⟨B, o, none⟩) T.length c),
                      Fact.eq (.int .i64 at1),
                      Fact.eq (.pointer (some ⟨B, o + at1 * 6, none⟩)),
                      Fact.eq (.agg #[.int .u64 dn, .int .u64 dt, .string k, .slice ha ln hc, .int .u64 f, .int .u64 g]),
                      Fact.eq (.int .u64 (nm : Nat)),
                      Fact.eq (.bool false),
                      Fact.eq (.bool false),
                      Fact.eq (.bool false),
                      Fact.eq (.agg #[gv, mv, .int .i64 D]),
                      Fact.eq (.int .u64 n),
                      Fact.eq (.bool false),
                      Fact.eq (.slice (some ⟨B, o, none⟩) T.length c),
                      Fact.eq (.int .i64 at1),
                      Fact.eq (.pointer (some ⟨B, o + at1 * 6, none⟩)),
                      Fact.eq (.pointer (some ⟨B, o + at1 * 6, none⟩)),
                      Fact.eq (.pointer (some ⟨B, o + at1 * 6, none⟩)),
                      Fact.eq (.int .u64 dn),
                      Fact.eq (.bool false),
                      Fact.eq (.bool false),
                      Fact.eq (.bool false)]
                    [[], [], [(1, 213)], [(0, 212), (2, 214)], [(3, 215)], [(4, 216)], [(4, 216)], [(4, 216)], [(6, 218), (7, 219), (4, 216)], [(8, 220), (4, 216)], [(9, 221), (4, 216)], [(5, 217), (10, 222), (4, 216)], [(4, 216), (11, 223)], [(12, 224)], [(13, 225)], [(13, 225)], [(13, 225)], [(15, 227), (16, 228), (13, 225)], [(17, 229), (13, 225)], [(18, 230), (13, 225)], [(14, 226), (19, 231), (13, 225)], [(13, 225), (20, 232)], [(21, 233)], [(22, 234)], [(22, 234)], [(23, 235), (24, 236), (22, 234)], [(22, 234)], [(22, 234)], [(26, 238), (27, 239), (22, 234)], [(28, 240), (22, 234)], [(29, 241), (22, 234)], [(30, 242), (22, 234)], [(31, 243), (22, 234)], [(25, 237), (32, 244), (22, 234)], [(22, 234), (33, 245)]]
                    [(0, 212), (1, 213), (2, 214), (3, 215), (4, 216), (5, 217), (6, 218), (7, 219), (8, 220), (9, 221), (10, 222), (11, 223), (12, 224), (13, 225), (14, 226), (15, 227), (16, 228), (17, 229), (18, 230), (19, 231), (20, 232), (21, 233), (22, 234), (23, 235), (24, 236), (25, 237), (26, 238), (27, 239), (28, 240), (29, 241), (30, 242), (31, 243), (32, 244), (33, 245), (34, 246)] (by kernel_rfl) (by kernel_rfl) ?_ ?_
                  · refine ⟨?_, ?_, ?_, ?_, ?_, ?_, ?_, ?_, ?_, ?_, ?_, ?_, ?_, ?_, ?_, ?_, ?_, ?_, ?_, ?_, ?_, ?_, ?_, ?_, ?_, ?_, ?_, ?_, ?_, ?_, ?_, ?_, ?_, ?_, ?_, trivial⟩
                    · intro w1 hx1; change wpList _ _ _ _ _ _; exact ob_move rfl rfl rfl rfl rfl
                    · intro w1 hx1; change wpList _ _ _ _ _ _; exact ob_move rfl rfl rfl rfl rfl
                    · intro w1 hx1; rintro _ rfl; change wpList _ _ _ _ _ _; go_wp2_with fail; exact ⟨rfl, Ext.refl _, rfl, rfl⟩
                    · intro w1 hx1; rintro _ rfl; rintro _ rfl; change wpList _ _ _ _ _ _; go_wp2_with fail; exact ⟨rfl, Ext.refl _, rfl, rfl⟩
                    · intro w1 hx1; rintro _ rfl; change wpList _ _ _ _ _ _; exact ob_move rfl rfl rfl rfl rfl
                    · intro w1 hx1; rintro _ rfl; change wpList _ _ _ _ _ _; exact ob_move rfl rfl rfl rfl rfl
                    · intro w1 hx1; rintro _ rfl; change wpList _ _ _ _ _ _; exact ob_move rfl rfl rfl rfl rfl
                    · intro w1 hx1; rintro _ rfl; change wpList _ _ _ _ _ _; exact ob_move rfl rfl rfl rfl rfl
                    · intro w1 hx1; rintro _ rfl; rintro _ rfl; rintro _ rfl; change wpList _ _ _ _ _ _; go_wp2_with fail; exact ⟨rfl, Ext.refl _, rfl, rfl⟩
                    · intro w1 hx1; rintro _ rfl; rintro _ rfl; change wpList _ _ _ _ _ _; have m0 := hx1.cell t0; have m1 := hx1.cell t1; have m2 := hx1.cell t2; have m3 := hx1.cell t3; have m4 := hx1.cell t4; have m5 := hx1.cell t5; go_wp2_with fail; exact ⟨rfl, Ext.refl _, rfl, rfl⟩
                    · intro w1 hx1; rintro _ rfl; rintro _ rfl; change wpList _ _ _ _ _ _; go_wp2_with fail; refine (CB.out _).mono ?_; rintro e w2 ⟨rfl, hx2⟩; go_wp2_with fail; exact ⟨rfl, hx2, rfl, rfl⟩
                    · intro w1 hx1; rintro _ rfl; rintro _ rfl; rintro _ rfl; change wpList _ _ _ _ _ _; go_wp2_with fail; exact ⟨rfl, Ext.refl _, rfl, rfl⟩
                    · intro w1 hx1; rintro _ rfl; rintro _ rfl; change wpList _ _ _ _ _ _; exact ob_pick rfl rfl rfl rfl rfl rfl
                    · intro w1 hx1; rintro _ rfl; change wpList _ _ _ _ _ _; exact ob_move rfl rfl rfl rfl rfl
                    · intro w1 hx1; rintro _ rfl; change wpList _ _ _ _ _ _; exact ob_move rfl rfl rfl rfl rfl
                    · intro w1 hx1; rintro _ rfl; change wpList _ _ _ _ _ _; exact ob_move rfl rfl rfl rfl rfl
                    · intro w1 hx1; rintro _ rfl; change wpList _ _ _ _ _ _; exact ob_move rfl rfl rfl rfl rfl
                    · intro w1 hx1; rintro _ rfl; rintro _ rfl; rintro _ rfl; change wpList _ _ _ _ _ _; go_wp2_with fail; exact ⟨rfl, Ext.refl _, rfl, rfl⟩
                    · intro w1 hx1; rintro _ rfl; rintro _ rfl; change wpList _ _ _ _ _ _; have m0 := hx1.cell t0; have m1 := hx1.cell t1; have m2 := hx1.cell t2; have m3 := hx1.cell t3; have m4 := hx1.cell t4; have m5 := hx1.cell t5; go_wp2_with fail; exact ⟨rfl, Ext.refl _, rfl, rfl⟩
                    · intro w1 hx1; rintro _ rfl; rintro _ rfl; change wpList _ _ _ _ _ _; go_wp2_with fail; refine (CN.out _).mono ?_; rintro e w2 ⟨rfl, hx2⟩; go_wp2_with fail; exact ⟨rfl, hx2, rfl, rfl⟩
                    · intro w1 hx1; rintro _ rfl; rintro _ rfl; rintro _ rfl; change wpList _ _ _ _ _ _; go_wp2_with fail; exact ⟨rfl, Ext.refl _, rfl, rfl⟩
                    · intro w1 hx1; rintro _ rfl; rintro _ rfl; change wpList _ _ _ _ _ _; exact ob_pick rfl rfl rfl rfl rfl rfl
                    · intro w1 hx1; rintro _ rfl; change wpList _ _ _ _ _ _; exact ob_move rfl rfl rfl rfl rfl
                    · intro w1 hx1; rintro _ rfl; change wpList _ _ _ _ _ _; have m0 := cell_of_row _ _ 0 _ _ _ (block_later HST1.out hx1); have m1 := cell_of_row _ _ 1 _ _ _ (block_later HST1.out hx1); have m2 := cell_of_row _ _ 2 _ _ _ (block_later HST1.out hx1); go_wp2_with fail; exact ⟨rfl, Ext.refl _, rfl, rfl⟩
                    · intro w1 hx1; rintro _ rfl; change wpList _ _ _ _ _ _; exact ob_move rfl rfl rfl rfl rfl
                    · intro w1 hx1; rintro _ rfl; rintro _ rfl; rintro _ rfl; change wpList _ _ _ _ _ _; go_wp2_with fail; refine (CG.out _ (HX1.out.trans hx1)).mono ?_; rintro e w2 ⟨rfl, hx2⟩; go_wp2_with fail; exact ⟨rfl, hx2, rfl, rfl⟩
                    · intro w1 hx1; rintro _ rfl; change wpList _ _ _ _ _ _; exact ob_move rfl rfl rfl rfl rfl
                    · intro w1 hx1; rintro _ rfl; change wpList _ _ _ _ _ _; exact ob_move rfl rfl rfl rfl rfl
                    · intro w1 hx1; rintro _ rfl; rintro _ rfl; rintro _ rfl; change wpList _ _ _ _ _ _; go_wp2_with fail; exact ⟨rfl, Ext.refl _, rfl, rfl⟩
                    · intro w1 hx1; rintro _ rfl; rintro _ rfl; change wpList _ _ _ _ _ _; go_wp2_with fail; exact ⟨rfl, Ext.refl _, rfl, rfl⟩
                    · intro w1 hx1; rintro _ rfl; rintro _ rfl; change wpList _ _ _ _ _ _; go_wp2_with fail; exact ⟨rfl, Ext.refl _, rfl, rfl⟩
                    · intro w1 hx1; rintro _ rfl; rintro _ rfl; change wpList _ _ _ _ _ _; have m0 := hx1.cell t0; go_wp2_with fail; exact ⟨rfl, Ext.refl _, rfl, rfl⟩
                    · intro w1 hx1; rintro _ rfl; rintro _ rfl; change wpList _ _ _ _ _ _; go_wp2_with fail; exact ⟨rfl, Ext.refl _, rfl, rfl⟩
                    · intro w1 hx1; rintro _ rfl; rintro _ rfl; rintro _ rfl; change wpList _ _ _ _ _ _; go_wp2_with fail; exact ⟨rfl, Ext.refl _, rfl, rfl⟩
                    · intro w1 hx1; rintro _ rfl; rintro _ rfl; change wpList _ _ _ _ _ _; exact ob_pick rfl rfl rfl rfl rfl rfl
                  · intro w1 hx1; rintro _ rfl; rintro _ rfl; rintro _ rfl; rintro _ rfl; rintro _ rfl; rintro _ rfl; rintro _ rfl; rintro _ rfl; rintro _ rfl; rintro _ rfl; rintro _ rfl; rintro _ rfl; rintro _ rfl; rintro _ rfl; rintro _ rfl; rintro _ rfl; rintro _ rfl; rintro _ rfl; rintro _ rfl; rintro _ rfl; rintro _ rfl; rintro _ rfl; rintro _ rfl; rintro _ rfl; rintro _ rfl; rintro _ rfl; rintro _ rfl; rintro _ rfl; rintro _ rfl; rintro _ rfl; rintro _ rfl; rintro _ rfl; rintro _ rfl; rintro _ rfl; rintro _ rfl; refine depsThen_nil ?_; dsimp only; simp only [Act.put, List.setIfInBounds_toArray, List.set_cons_zero, List.set_cons_succ]
                    have HX2 := Lib.hid (HX1.out.trans hx1)
                    have HXE := Lib.hid hx1
                    have u0 := hx1.cell t0
                    have u1 := hx1.cell t1
                    have u2 := hx1.cell t2
                    have u3 := hx1.cell t3
                    have u4 := hx1.cell t4
                    have u5 := hx1.cell t5
                    clear hx1 t0 t1 t2 t3 t4 t5
                    by_cases hnm : n = nm
                    · have g5 : ((n : Int) == (nm : Int)) = true := by rw [hnm]; simp
                      have g5' : (n == nm) = true := by rw [hnm]; simp
                      have HN := Lib.hid (hN1 hnm)
                      subst hnm
                      clear hN1 hN2
                      go_wp2_with (go_at_call 16; (with_reducible refine (CN.out _).mono ?_); rintro e w10 ⟨rfl, hx10⟩)
                      go_roundw
                      case rel => exact ⟨at1 + 1, n + 1, by rw [Int.natCast_add]; rfl, by rw [Int.natCast_add]; rfl, by omega, by omega, by omega, HXR.out.trans (HX2.out.trans hx10), HN.out⟩
                      case measure => simp [intOf]; omega
                    · have g5 : ((n : Int) == (nm : Int)) = false := by simp; omega
                      have g5' : (n == nm) = false := by simp; omega
                      have HN := Lib.hid (hN2 hnm)
                      clear hN1 hN2 hnm
                      go_wp2_with (go_at_call 16; (with_reducible refine (CN.out _).mono ?_); rintro e w10 ⟨rfl, hx10⟩)
                      go_roundw
                      case rel => exact ⟨at1, n + 1, rfl, by rw [Int.natCast_add]; rfl, by omega, by omega, by omega, HXR.out.trans (HX2.out.trans hx10), HN.out⟩
                      case measure => simp [intOf]; omega
            | true =>
              rw [hgb] at CG
              obtain ⟨d, r, hdr, hbeg, hnum, hgd, hn1', hn2'⟩ := HAT.out.take hnb (by unfold relB; rw [hgb]; rfl)
              have HGB := Lib.hid hgb
              clear hgb
              have hat1 : at1 < T.length := by
                have h1 : ((T.map DM.pd).drop at1).length = r.length + 1 := by rw [hdr]; rfl
                rw [List.length_drop, List.length_map] at h1
                omega
              have hdd : (T.map DM.pd).drop at1 = T[at1].pd :: (T.map DM.pd).drop (at1 + 1) := by
                rw [List.drop_eq_getElem_cons (by rw [List.length_map]; exact hat1), List.getElem_map]
              have hTd : T[at1].pd = d := by rw [hdd] at hdr; exact (List.cons.inj hdr).1
              have hr2 : r = (T.map DM.pd).drop (at1 + 1) := by rw [hdd] at hdr; exact (List.cons.inj hdr).2.symm
              rw [hr2] at hn1'
              have hN1 := hn1'
              have hN2 := hn2'
              clear hdr hdd hr2 hn1' hn2' HAT
              refine wp_region_facts [Fact.eq (.agg #[gv, mv, .int .i64 D]),
                  Fact.eq (.int .u64 n),
                  Fact.eq (.bool true),
                  Fact.eq (.bool false),
                  Fact.eq (.bool false),
                  Fact.eq undef,
                  Fact.eq undef,
                  Fact.eq undef,
                  Fact.eq undef,
                  Fact.eq undef,
                  Fact.eq undef,
                  Fact.eq undef,
                  Fact.eq (.bool false)]
                [[], [], [(0, 199), (1, 200)], [(2, 201)], [(3, 202)], [(4, 203)], [(4, 203)], [(4, 203)], [(6, 205), (7, 206), (4, 203)], [(8, 207), (4, 203)], [(5, 204), (9, 208), (4, 203)], [(10, 209), (4, 203)], [(4, 203), (11, 210)]]
                [(0, 199), (1, 200), (2, 201), (3, 202), (4, 203), (5, 204), (6, 205), (7, 206), (8, 207), (9, 208), (10, 209), (11, 210), (12, 211)] (by kernel_rfl) (by kernel_rfl) ?_ ?_
              · refine ⟨?_, ?_, ?_, ?_, ?_, ?_, ?_, ?_, ?_, ?_, ?_, ?_, ?_, trivial⟩
                · intro w1 hx1; change wpList _ _ _ _ _ _; have m0 := cell_of_row _ _ 0 _ _ _ (block_later HST.out hx1); have m1 := cell_of_row _ _ 1 _ _ _ (block_later HST.out hx1); have m2 := cell_of_row _ _ 2 _ _ _ (block_later HST.out hx1); go_wp2_with fail; exact ⟨rfl, Ext.refl _, rfl, rfl⟩
                · intro w1 hx1; change wpList _ _ _ _ _ _; exact ob_move rfl rfl rfl rfl rfl
                · intro w1 hx1; rintro _ rfl; rintro _ rfl; change wpList _ _ _ _ _ _; go_wp2_with fail; refine (CG.out _ hx1).mono ?_; rintro e w2 ⟨rfl, hx2⟩; go_wp2_with fail; exact ⟨rfl, hx2, rfl, rfl⟩
                · intro w1 hx1; rintro _ rfl; change wpList _ _ _ _ _ _; go_wp2_with fail; exact ⟨rfl, Ext.refl _, rfl, rfl⟩
                · intro w1 hx1; rintro _ rfl; change wpList _ _ _ _ _ _; exact ob_move rfl rfl rfl rfl rfl
                · intro w1 hx1; rintro _ rfl; change wpList _ _ _ _ _ _; exact ob_skip rfl rfl rfl rfl
                · intro w1 hx1; rintro _ rfl; change wpList _ _ _ _ _ _; exact ob_skip rfl rfl rfl rfl
                · intro w1 hx1; rintro _ rfl; change wpList _ _ _ _ _ _; exact ob_skip rfl rfl rfl rfl
                · intro w1 hx1; rintro _ rfl; rintro _ rfl; rintro _ rfl; change wpList _ _ _ _ _ _; exact ob_skip rfl rfl rfl rfl
                · intro w1 hx1; rintro _ rfl; rintro _ rfl; change wpList _ _ _ _ _ _; exact ob_skip rfl rfl rfl rfl
                · intro w1 hx1; rintro _ rfl; rintro _ rfl; rintro _ rfl; change wpList _ _ _ _ _ _; exact ob_skip rfl rfl rfl rfl
                · intro w1 hx1; rintro _ rfl; rintro _ rfl; change wpList _ _ _ _ _ _; exact ob_skip rfl rfl rfl rfl
                · intro w1 hx1; rintro _ rfl; rintro _ rfl; change wpList _ _ _ _ _ _; exact ob_pick rfl rfl rfl rfl rfl rfl
              · intro w1 hx1; rintro _ rfl; rintro _ rfl; rintro _ rfl; rintro _ rfl; rintro _ rfl; rintro _ rfl; rintro _ rfl; rintro _ rfl; rintro _ rfl; rintro _ rfl; rintro _ rfl; rintro _ rfl; rintro _ rfl; refine depsThen_nil ?_; dsimp only; simp only [Act.put, List.setIfInBounds_toArray, List.set_cons_zero, List.set_cons_succ]
                have HX1 := Lib.hid hx1
                have HST1 := Lib.hid (block_later HST.out hx1)
                clear hx1 HST
                have hrow := Row.of_own (own_ext (own_ext HW.out.row HXR.out) HX1.out)
                obtain ⟨B, o, rfl, t0, t1, t2, t3, t4, t5⟩ := hrow.atD hat1
                clear hrow
                have CB := Lib.hid fun W => begins_nat W T[at1]
                have CN := Lib.hid fun W => number_nat W T[at1]
                rw [hTd] at CB CN
                have hdn : T[at1].n = d.n := congrArg PD.n hTd
                have hgd2 : Hid (gonB G n = decide (T[at1].n = 0)) := by show _ = _; rw [hdn]; exact hgd
                have h0 : T[at1].n = 0 := by have := hgd2.out; rw [HGB.out] at this; simpa using this.symm
                clear hdn hgd2 hTd hgd
                obtain ⟨e, he⟩ : ∃ e, e = T[at1] := ⟨_, rfl⟩
                rw [← he] at t0 t1 t2 t3 t4 t5 CB CN h0
                clear he
                obtain ⟨dn, dt, key, ha, hc, av, f, g⟩ := e
                dsimp only at t0 t1 t2 t3 t4 t5 CB CN h0
                generalize strOf key = k at *
                generalize av.length = ln at *
                generalize d.beg = bg at *
                generalize d.num = nm at *
                have g1 : ((at1 : Int) == (T.length : Int)) = false := by simp; omega
                have g2 : decide ((n : Int) < (bg : Int)) = false := decide_eq_false (by omega)
                have g2' : decide (n < bg) = false := decide_eq_false (by omega)
                have g3 : decide ((n : Int) > (nm : Int)) = false := decide_eq_false (by omega)
                have g3' : decide (nm < n) = false := decide_eq_false (by omega)
                have g4 : ((dn : Int) == 0) = true := by simp; omega
                clear h0
                go_upto_region 50 with fail
                refine wp_region_facts [Fact.eq (.int .i64 at1),
                    Fact.eq (.slice (some ⟨B, o, none⟩) T.length c),
                    Fact.eq (.int .i64 T.length),
                    Fact.eq (.bool false),
                    Fact.eq (.bool false),
                    Fact.eq (.int .u64 n),
                    Fact.eq (.slice (some ⟨B, o, none⟩) T.length c),
                    Fact.eq (.int .i64 at1),
                    Fact.eq (.pointer (some ⟨B, o + at1 * 6, none⟩)),
                    Fact.eq (.agg #[.int .u64 dn, .int .u64 dt, .string k, .slice ha ln hc, .int .u64 f, .int .u64 g]),
                    Fact.eq (.int .u64 (bg : Nat)),
                    Fact.eq (.bool false),
                    Fact.eq (.bool false),
                    Fact.eq (.bool false),
                    Fact.eq (.int .u64 n),
                    Fact.eq (.slice (some ⟨B, o, none⟩) T.length c),
                    Fact.eq (.int .i64 at1),
                    Fact.eq (.pointer (some ⟨B, o + at1 * 6, none⟩)),
                    Fact.eq (.agg #[.int .u64 dn, .int .u64 dt, .string k, .slice ha ln hc, .int .u64 f, .int .u64 g]),
                    Fact.eq (.int .u64 (nm : Nat)),
                    Fact.eq (.bool false),
                    Fact.eq (.bool false),
                    Fact.eq (.bool false),
                    Fact.eq (.agg #[gv, mv, .int .i64 D]),
                    Fact.eq (.int .u64 n),
                    Fact.eq (.bool true),
                    Fact.eq (.slice (some ⟨B, o, none⟩) T.length c),
                    Fact.eq (.int .i64 at1),
                    Fact.eq (.pointer (some ⟨B, o + at1 * 6, none⟩)),
                    Fact.eq (.pointer (some ⟨B, o + at1 * 6, none⟩)),
                    Fact.eq (.pointer (some ⟨B, o + at1 * 6, none⟩)),
                    Fact.eq (.int .u64 dn),
                    Fact.eq (.bool true),
                    Fact.eq (.bool false),
                    Fact.eq (.bool false)]
                  [[], [], [(1, 213)], [(0, 212), (2, 214)], [(3, 215)], [(4, 216)], [(4, 216)], [(4, 216)], [(6, 218), (7, 219), (4, 216)], [(8, 220), (4, 216)], [(9, 221), (4, 216)], [(5, 217), (10, 222), (4, 216)], [(4, 216), (11, 223)], [(12, 224)], [(13, 225)], [(13, 225)], [(13, 225)], [(15, 227), (16, 228), (13, 225)], [(17, 229), (13, 225)], [(18, 230), (13, 225)], [(14, 226), (19, 231), (13, 225)], [(13, 225), (20, 232)], [(21, 233)], [(22, 234)], [(22, 234)], [(23, 235), (24, 236), (22, 234)], [(22, 234)], [(22, 234)], [(26, 238), (27, 239), (22, 234)], [(28, 240), (22, 234)], [(29, 241), (22, 234)], [(30, 242), (22, 234)], [(31, 243), (22, 234)], [(25, 237), (32, 244), (22, 234)], [(22, 234), (33, 245)]]
                  [(0, 212), (1, 213), (2, 214), (3, 215), (4, 216), (5, 217), (6, 218), (7, 219), (8, 220), (9, 221), (10, 222), (11, 223), (12, 224), (13, 225), (14, 226), (15, 227), (16, 228), (17, 229), (18, 230), (19, 231), (20, 232), (21, 233), (22, 234), (23, 235), (24, 236), (25, 237), (26, 238), (27, 239), (28, 240), (29, 241), (30, 242), (31, 243), (32, 244), (33, 245), (34, 246)] (by kernel_rfl) (by kernel_rfl) ?_ ?_
                · refine ⟨?_, ?_, ?_, ?_, ?_, ?_, ?_, ?_, ?_, ?_, ?_, ?_, ?_, ?_, ?_, ?_, ?_, ?_, ?_, ?_, ?_, ?_, ?_, ?_, ?_, ?_, ?_, ?_, ?_, ?_, ?_, ?_, ?_, ?_, ?_, trivial⟩
                  · intro w1 hx1; change wpList _ _ _ _ _ _; exact ob_move rfl rfl rfl rfl rfl
                  · intro w1 hx1; change wpList _ _ _ _ _ _; exact ob_move rfl rfl rfl rfl rfl
                  · intro w1 hx1; rintro _ rfl; change wpList _ _ _ _ _ _; go_wp2_with fail; exact ⟨rfl, Ext.refl _, rfl, rfl⟩
                  · intro w1 hx1; rintro _ rfl; rintro _ rfl; change wpList _ _ _ _ _ _; go_wp2_with fail; exact ⟨rfl, Ext.refl _, rfl, rfl⟩
                  · intro w1 hx1; rintro _ rfl; change wpList _ _ _ _ _ _; exact ob_move rfl rfl rfl rfl rfl
                  · intro w1 hx1; rintro _ rfl; change wpList _ _ _ _ _ _; exact ob_move rfl rfl rfl rfl rfl
                  · intro w1 hx1; rintro _ rfl; change wpList _ _ _ _ _ _; exact ob_move rfl rfl rfl rfl rfl
                  · intro w1 hx1; rintro _ rfl; change wpList _ _ _ _ _ _; exact ob_move rfl rfl rfl rfl rfl
                  · intro w1 hx1; rintro _ rfl; rintro _ rfl; rintro _ rfl; change wpList _ _ _ _ _ _; go_wp2_with fail; exact ⟨rfl, Ext.refl _, rfl, rfl⟩
                  · intro w1 hx1; rintro _ rfl; rintro _ rfl; change wpList _ _ _ _ _ _; have m0 := hx1.cell t0; have m1 := hx1.cell t1; have m2 := hx1.cell t2; have m3 := hx1.cell t3; have m4 := hx1.cell t4; have m5 := hx1.cell t5; go_wp2_with fail; exact ⟨rfl, Ext.refl _, rfl, rfl⟩
                  · intro w1 hx1; rintro _ rfl; rintro _ rfl; change wpList _ _ _ _ _ _; go_wp2_with fail; refine (CB.out _).mono ?_; rintro e w2 ⟨rfl, hx2⟩; go_wp2_with fail; exact ⟨rfl, hx2, rfl, rfl⟩
                  · intro w1 hx1; rintro _ rfl; rintro _ rfl; rintro _ rfl; change wpList _ _ _ _ _ _; go_wp2_with fail; exact ⟨rfl, Ext.refl _, rfl, rfl⟩
                  · intro w1 hx1; rintro _ rfl; rintro _ rfl; change wpList _ _ _ _ _ _; exact ob_pick rfl rfl rfl rfl rfl rfl
                  · intro w1 hx1; rintro _ rfl; change wpList _ _ _ _ _ _; exact ob_move rfl rfl rfl rfl rfl
                  · intro w1 hx1; rintro _ rfl; change wpList _ _ _ _ _ _; exact ob_move rfl rfl rfl rfl rfl
                  · intro w1 hx1; rintro _ rfl; change wpList _ _ _ _ _ _; exact ob_move rfl rfl rfl rfl rfl
                  · intro w1 hx1; rintro _ rfl; change wpList _ _ _ _ _ _; exact ob_move rfl rfl rfl rfl rfl
                  · intro w1 hx1; rintro _ rfl; rintro _ rfl; rintro _ rfl; change wpList _ _ _ _ _ _; go_wp2_with fail; exact ⟨rfl, Ext.refl _, rfl, rfl⟩
                  · intro w1 hx1; rintro _ rfl; rintro _ rfl; change wpList _ _ _ _ _ _; have m0 := hx1.cell t0; have m1 := hx1.cell t1; have m2 := hx1.cell t2; have m3 := hx1.cell t3; have m4 := hx1.cell t4; have m5 := hx1.cell t5; go_wp2_with fail; exact ⟨rfl, Ext.refl _, rfl, rfl⟩
                  · intro w1 hx1; rintro _ rfl; rintro _ rfl; change wpList _ _ _ _ _ _; go_wp2_with fail; refine (CN.out _).mono ?_; rintro e w2 ⟨rfl, hx2⟩; go_wp2_with fail; exact ⟨rfl, hx2, rfl, rfl⟩
                  · intro w1 hx1; rintro _ rfl; rintro _ rfl; rintro _ rfl; change wpList _ _ _ _ _ _; go_wp2_with fail; exact ⟨rfl, Ext.refl _, rfl, rfl⟩
                  · intro w1 hx1; rintro _ rfl; rintro _ rfl; change wpList _ _ _ _ _ _; exact ob_pick rfl rfl rfl rfl rfl rfl
                  · intro w1 hx1; rintro _ rfl; change wpList _ _ _ _ _ _; exact ob_move rfl rfl rfl rfl rfl
                  · intro w1 hx1; rintro _ rfl; change wpList _ _ _ _ _ _; have m0 := cell_of_row _ _ 0 _ _ _ (block_later HST1.out hx1); have m1 := cell_of_row _ _ 1 _ _ _ (block_later HST1.out hx1); have m2 := cell_of_row _ _ 2 _ _ _ (block_later HST1.out hx1); go_wp2_with fail; exact ⟨rfl, Ext.refl _, rfl, rfl⟩
                  · intro w1 hx1; rintro _ rfl; change wpList _ _ _ _ _ _; exact ob_move rfl rfl rfl rfl rfl
                  · intro w1 hx1; rintro _ rfl; rintro _ rfl; rintro _ rfl; change wpList _ _ _ _ _ _; go_wp2_with fail; refine (CG.out _ (HX1.out.trans hx1)).mono ?_; rintro e w2 ⟨rfl, hx2⟩; go_wp2_with fail; exact ⟨rfl, hx2, rfl, rfl⟩
                  · intro w1 hx1; rintro _ rfl; change wpList _ _ _ _ _ _; exact ob_move rfl rfl rfl rfl rfl
                  · intro w1 hx1; rintro _ rfl; change wpList _ _ _ _ _ _; exact ob_move rfl rfl rfl rfl rfl
                  · intro w1 hx1; rintro _ rfl; rintro _ rfl; rintro _ rfl; change wpList _ _ _ _ _ _; go_wp2_with fail; exact ⟨rfl, Ext.refl _, rfl, rfl⟩
                  · intro w1 hx1; rintro _ rfl; rintro _ rfl; change wpList _ _ _ _ _ _; go_wp2_with fail; exact ⟨rfl, Ext.refl _, rfl, rfl⟩
                  · intro w1 hx1; rintro _ rfl; rintro _ rfl; change wpList _ _ _ _ _ _; go_wp2_with fail; exact ⟨rfl, Ext.refl _, rfl, rfl⟩
                  · intro w1 hx1; rintro _ rfl; rintro _ rfl; change wpList _ _ _ _ _ _; have m0 := hx1.cell t0; go_wp2_with fail; exact ⟨rfl, Ext.refl _, rfl, rfl⟩
                  · intro w1 hx1; rintro _ rfl; rintro _ rfl; change wpList _ _ _ _ _ _; go_wp2_with fail; exact ⟨rfl, Ext.refl _, rfl, rfl⟩
                  · intro w1 hx1; rintro _ rfl; rintro _ rfl; rintro _ rfl; change wpList _ _ _ _ _ _; go_wp2_with fail; exact ⟨rfl, Ext.refl _, rfl, rfl⟩
                  · intro w1 hx1; rintro _ rfl; rintro _ rfl; change wpList _ _ _ _ _ _; exact ob_pick rfl rfl rfl rfl rfl rfl
                · intro w1 hx1; rintro _ rfl; rintro _ rfl; rintro _ rfl; rintro _ rfl; rintro _ rfl; rintro _ rfl; rintro _ rfl; rintro _ rfl; rintro _ rfl; rintro _ rfl; rintro _ rfl; rintro _ rfl; rintro _ rfl; rintro _ rfl; rintro _ rfl; rintro _ rfl; rintro _ rfl; rintro _ rfl; rintro _ rfl; rintro _ rfl; rintro _ rfl; rintro _ rfl; rintro _ rfl; rintro _ rfl; rintro _ rfl; rintro _ rfl; rintro _ rfl; rintro _ rfl; rintro _ rfl; rintro _ rfl; rintro _ rfl; rintro _ rfl; rintro _ rfl; rintro _ rfl; rintro _ rfl; refine depsThen_nil ?_; dsimp only; simp only [Act.put, List.setIfInBounds_toArray, List.set_cons_zero, List.set_cons_succ]
                  have HX2 := Lib.hid (HX1.out.trans hx1)
                  have HXE := Lib.hid hx1
                  have u0 := hx1.cell t0
                  have u1 := hx1.cell t1
                  have u2 := hx1.cell t2
                  have u3 := hx1.cell t3
                  have u4 := hx1.cell t4
                  have u5 := hx1.cell t5
                  clear hx1 t0 t1 t2 t3 t4 t5
                  by_cases hnm : n = nm
                  · have g5 : ((n : Int) == (nm : Int)) = true := by rw [hnm]; simp
                    have g5' : (n == nm) = true := by rw [hnm]; simp
                    have HN := Lib.hid (hN1 hnm)
                    subst hnm
                    clear hN1 hN2
                    go_wp2_with (go_at_call 16; (with_reducible refine (CN.out _).mono ?_); rintro e w10 ⟨rfl, hx10⟩)
                    go_roundw
                    case rel => exact ⟨at1 + 1, n + 1, by rw [Int.natCast_add]; rfl, by rw [Int.natCast_add]; rfl, by omega, by omega, by omega, HXR.out.trans (HX2.out.trans hx10), HN.out⟩
                    case measure => simp [intOf]; omega
                  · have g5 : ((n : Int) == (nm : Int)) = false := by simp; omega
                    have g5' : (n == nm) = false := by simp; omega
                    have HN := Lib.hid (hN2 hnm)
                    clear hN1 hN2 hnm
                    go_wp2_with (go_at_call 16; (with_reducible refine (CN.out _).mono ?_); rintro e w10 ⟨rfl, hx10⟩)
                    go_roundw
                    case rel => exact ⟨at1, n + 1, rfl, by rw [Int.natCast_add]; rfl, by omega, by omega, by omega, HXR.out.trans (HX2.out.trans hx10), HN.out⟩
                    case measure => simp [intOf]; omega
          · have d1 : decide ((n : Int) ≤ (D : Int)) = false := decide_eq_false (by omega)
            have d1' : decide (n ≤ D) = false := decide_eq_false h
            have hnb : n = b := by have := HBB.out; omega
            subst hnb
            have he := HAT.out.end
            have hat2 : at1 = T.length := by
              have := List.drop_eq_nil_iff.1 he
              rw [List.length_map] at this
              omega
            subst hat2
            obtain ⟨w0, pv, S0, _, _⟩ := HW.out.s
            have HS := Lib.hid ((S0.later HXR.out).sp)
            have HXW := Lib.hid (HW.out.x.trans HXR.out)
            clear S0
            go_wp2_with (go_at_call 22; (with_reducible refine (sstate_any _ bs _ _ 3 _ HS.out).mono ?_); rintro e w6 ⟨rfl, rfl⟩)
            go_ret
            exact ⟨rfl, HXW.out⟩
end Go.Proofs.YtaklnpjpndkccaaGreat
