/- Regions: of any constraint: Of. (Printed by a program.)
Regions: of a constraint that names some: Of. (Printed by a program.)
What a predicate asks of a name: Asked. (Printed by a program.)
DERIVED: THE SHELF's CONTRACTS AT THIS DUMP, IN PLAIN WORDS (tools/lay-plain.mjs out of 'YtabegbelkfhbcaaGreatSh.lean', which tools/lay-shelf.mjs wrote): THE SAME DECLARATIONS UNDER THE SAME YtabegbelkfhbcaaGreatS: 'import', 'namespace', 'open', 'def', 'theorem' AND NOTHING ELSE: no command of the shelf's: FOR A HAND-IN. Each laying: the table of numbers ('.._ren') and one theorem, a field a fact of the dump's own or the kernel's comparison; each contract: ONE APPLICATION.
slices.Sort at strings.
slices.Compact at strings.
The names of a predicate: Names. -/
import Derived.Shelf.Sort.Plain
import Derived.Shelf.Slices.In.SortNone
import Derived.Shelf.Slices.In.SortNone2
import Derived.Test.YtabegbelkfhbcaaGreatProg
import Derived.Deep.MidRow
import Derived.Outline
import Derived.Deep.CutBlock
import Derived.Lib.Hide
import Derived.Deep.QuietTactic
import Derived.BigQuiet
import Derived.Test.YtabegbelkfhbcaaGreatPk9
import Derived.Test.YtabegbelkfhbcaaGreatPk3
import Derived.Test.YtabegbelkfhbcaaGreatPk4
import Derived.Test.YtabegbelkfhbcaaGreatPk2
import Derived.Test.YtabegbelkfhbcaaGreatPk8
namespace Go.Proofs.YtabegbelkfhbcaaGreat
open Go.RowKit Go.Sort

theorem fst2 {a b : Nat} : a ≤ a + 1 + b := by omega
/-- One of a region's boxes is filled. -/
theorem set_box {W : World} {b : Nat} {k : Int} (hk : k = 1 ∨ k = 2 ∨ k = 3) {u : Value} {l : List Sp} (hu : SpR W u l) (hb : W.heap[b]? = some (.cells #[.slice none 0 0, .slice none 0 0, .slice none 0 0, .bool false] 83 (0, 0))) :
    W.cell? ⟨b, k.toNat - 1, none⟩ = some (.slice none 0 0) ∧ W.frozen? ⟨b, k.toNat - 1, none⟩ = false ∧ ∃ z1 z2 z3, (W.setCell ⟨b, k.toNat - 1, none⟩ u).heap[b]? = some (.cells #[z1, z2, z3, .bool false] 83 (0, 0)) ∧ RgR (W.setCell ⟨b, k.toNat - 1, none⟩ u) (.agg #[z1, z2, z3, .bool false]) (setR k l) := by
  have hnil : ∀ W, SpR W (.slice none 0 0) [] := fun W => SpR.nil W
  rcases hk with rfl | rfl | rfl
  · refine ⟨cell_of_row _ _ 0 _ _ _ hb, by simp [World.frozen?, hb], _, _, _, setCell_block W b 0 u _ _ _ hb, ?_⟩
    exact RgR.of (r := ⟨l, [], [], false⟩) (spr_setCell hu 0 u hb (by simp)) (hnil _) (hnil _)
  · refine ⟨cell_of_row _ _ 1 _ _ _ hb, by simp [World.frozen?, hb], _, _, _, setCell_block W b 1 u _ _ _ hb, ?_⟩
    exact RgR.of (r := ⟨[], l, [], false⟩) (hnil _) (spr_setCell hu 1 u hb (by simp)) (hnil _)
  · refine ⟨cell_of_row _ _ 2 _ _ _ hb, by simp [World.frozen?, hb], _, _, _, setCell_block W b 2 u _ _ _ hb, ?_⟩
    exact RgR.of (r := ⟨[], [], l, false⟩) (hnil _) (hnil _) (spr_setCell hu 2 u hb (by simp))
theorem rgr_set {W : World} {v : Value} {r : Rg} (h : RgR W v r) {b : Nat} {cs c : Array Value} {t : TypeId} {fr : Nat × Nat} (hb : W.heap[b]? = some (.cells c t fr)) (hc : ∀ s, Value.string s ∉ c.toList) : RgR (W.setRow b cs) v r := by
  obtain ⟨a1, c1, a2, c2, a3, c3, rfl, h1, h2, h3⟩ := h.ex
  exact ⟨a1, c1, a2, c2, a3, c3, rfl, spr_setRow h1 hb hc, spr_setRow h2 hb hc, spr_setRow h3 hb hc⟩
theorem mayV_k {v : V} (h : mayV v = true) : (v.k = 1 ∨ v.k = 2 ∨ v.k = 3) ∧ v.s.length ≤ 32 := by
  unfold mayV at h
  split at h
  · rename_i h1
    simp only [Bool.and_eq_true] at h
    exact ⟨.inl h1, by simp_all⟩
  · split at h
    · rename_i h2
      simp only [Bool.and_eq_true, decide_eq_true_eq] at h
      exact ⟨.inr (.inl h2), by simp_all⟩
    · split at h
      · rename_i h3
        simp only [Bool.and_eq_true, decide_eq_true_eq] at h
        exact ⟨.inr (.inr h3), by simp_all⟩
      · cases h

def Fact.sp (l : List Sp) : Fact := ⟨fun v w => SpR w v l, fun _ _ _ hx h => h.ext hx⟩

set_option maxRecDepth 100000 in
set_option maxHeartbeats 8000000 in
theorem Of_no (w : World) (c : C) (sa : Option Addr) (sc : Nat) (hs : SetR w (.slice sa c.set.length sc) c.set) (hm : mayC c = false) :
    Calls Tryz.prog 79 #[.agg #[.string (strOf c.name), .int .i64 c.op, .int .i64 c.v.k, .int .i64 c.v.n, .string (strOf c.v.s), .bool c.v.b, .slice sa c.set.length sc]] w fun e w' => ∃ v, e = .returned (.tuple #[v, .int .i64 30]) ∧ RgR w' v noneR ∧ Ext w w' := by
  obtain ⟨hx0, hC, hT, hQ⟩ := boxes3 w (.cells #[.string (strOf c.name), .int .i64 c.op, .int .i64 c.v.k, .int .i64 c.v.n, .string (strOf c.v.s), .bool c.v.b, .slice sa c.set.length sc] 53) (.cells #[.slice none 0 0, .slice none 0 0, .slice none 0 0, .bool false] 83) (.cells #[.slice none 0 0, .slice none 0 0, .slice none 0 0, .bool false] 83)
  have hcall := maycons_any (((w.alloc (.cells #[.string (strOf c.name), .int .i64 c.op, .int .i64 c.v.k, .int .i64 c.v.n, .string (strOf c.v.s), .bool c.v.b, .slice sa c.set.length sc] 53)).alloc (.cells #[.slice none 0 0, .slice none 0 0, .slice none 0 0, .bool false] 83)).alloc (.cells #[.slice none 0 0, .slice none 0 0, .slice none 0 0, .bool false] 83)) c sa sc (hs.ext hx0)
  obtain ⟨_, _, es, hcs, hms⟩ := Row.shape hs
  simp only [Value.slice.injEq] at es
  obtain ⟨rfl, _, rfl⟩ := es
  unfold maxLen at hms
  rw [hm] at hcall
  have HC := Lib.hid hC
  have HT := Lib.hid hT
  have HQ := Lib.hid hQ
  have HS := Lib.hid hs
  have HCALL := Lib.hid hcall
  have c0 := cell_of_row _ _ 0 _ _ _ hC
  have c1 := cell_of_row _ _ 1 _ _ _ hC
  have c2 := cell_of_row _ _ 2 _ _ _ hC
  have c3 := cell_of_row _ _ 3 _ _ _ hC
  have c4 := cell_of_row _ _ 4 _ _ _ hC
  have c5 := cell_of_row _ _ 5 _ _ _ hC
  have c6 := cell_of_row _ _ 6 _ _ _ hC
  clear hC hT hQ hs hcall
  generalize hN : c.set.length = N at *
  have HN := Lib.hid hN
  clear hN
  go_enter Tryz.func79, Tryz.ntmps79
  go_upto_region 2 with fail
  generalize ((w.alloc (.cells #[.string (strOf c.name), .int .i64 c.op, .int .i64 c.v.k, .int .i64 c.v.n, .string (strOf c.v.s), .bool c.v.b, .slice sa N sc] 53)).alloc (.cells #[.slice none 0 0, .slice none 0 0, .slice none 0 0, .bool false] 83)).alloc (.cells #[.slice none 0 0, .slice none 0 0, .slice none 0 0, .bool false] 83) = w0 at *
  go_wp2_with fail
  refine HCALL.out.mono ?_
  rintro e y1 ⟨rfl, hy1⟩
  have hxw := hx0.trans hy1
  have c0 := hy1.cell c0
  have c1 := hy1.cell c1
  have c2 := hy1.cell c2
  have c3 := hy1.cell c3
  have c4 := hy1.cell c4
  have c5 := hy1.cell c5
  have c6 := hy1.cell c6
  have HC := Lib.hid (block_later HC.out hy1)
  have HT := Lib.hid (block_later HT.out hy1)
  have HQ := Lib.hid (block_later HQ.out hy1)
  clear hy1 hx0
  have q0 := cell_of_row _ _ 0 _ _ _ HQ.out
  have q1 := cell_of_row _ _ 1 _ _ _ HQ.out
  have q2 := cell_of_row _ _ 2 _ _ _ HQ.out
  have q3 := cell_of_row _ _ 3 _ _ _ HQ.out
  go_wp2_with (refine wpList_store_whole 83 (.tmp 2) (.tmp 13) rfl rfl (w.heap.size + 1) rfl #[.slice none 0 0, .slice none 0 0, .slice none 0 0, .bool false] rfl _ 83 HT.out rfl info83s (by simp [Value.oneCell']) ?_)
  have hq := setRow_heap _ _ _ #[.slice none 0 0, .slice none 0 0, .slice none 0 0, .bool false] _ _ HT.out
  have g0 := cell_of_row _ _ 0 _ _ _ hq
  have g1 := cell_of_row _ _ 1 _ _ _ hq
  have g2 := cell_of_row _ _ 2 _ _ _ hq
  have g3 := cell_of_row _ _ 3 _ _ _ hq
  refine bodyPost_ret (v := .tuple #[.agg #[.slice none 0 0, .slice none 0 0, .slice none 0 0, .bool false], .int .i64 30]) (by simp [results, Tryz.results79, go_sem, g0, g1, g2, g3]) rfl ⟨.agg #[.slice none 0 0, .slice none 0 0, .slice none 0 0, .bool false], rfl, ?_, (hxw).setRow (by omega) _⟩
  exact rgr_set (RgR.of (r := noneR) (SpR.nil _) (SpR.nil _) (SpR.nil _)) HT.out (by simp)

set_option maxRecDepth 100000 in
set_option maxHeartbeats 8000000 in
theorem Of_has (w : World) (c : C) (sa : Option Addr) (sc : Nat) (hs : SetR w (.slice sa c.set.length sc) c.set) (hm : mayC c = true) (h1 : c.op = 1) :
    Calls Tryz.prog 79 #[.agg #[.string (strOf c.name), .int .i64 c.op, .int .i64 c.v.k, .int .i64 c.v.n, .string (strOf c.v.s), .bool c.v.b, .slice sa c.set.length sc]] w fun e w' => ∃ v, e = .returned (.tuple #[v, .int .i64 0]) ∧ RgR w' v allR ∧ Ext w w' := by
  obtain ⟨hx0, hC, hT, hQ⟩ := boxes3 w (.cells #[.string (strOf c.name), .int .i64 c.op, .int .i64 c.v.k, .int .i64 c.v.n, .string (strOf c.v.s), .bool c.v.b, .slice sa c.set.length sc] 53) (.cells #[.slice none 0 0, .slice none 0 0, .slice none 0 0, .bool false] 83) (.cells #[.slice none 0 0, .slice none 0 0, .slice none 0 0, .bool false] 83)
  have hcall := maycons_any (((w.alloc (.cells #[.string (strOf c.name), .int .i64 c.op, .int .i64 c.v.k, .int .i64 c.v.n, .string (strOf c.v.s), .bool c.v.b, .slice sa c.set.length sc] 53)).alloc (.cells #[.slice none 0 0, .slice none 0 0, .slice none 0 0, .bool false] 83)).alloc (.cells #[.slice none 0 0, .slice none 0 0, .slice none 0 0, .bool false] 83)) c sa sc (hs.ext hx0)
  obtain ⟨_, _, es, hcs, hms⟩ := Row.shape hs
  simp only [Value.slice.injEq] at es
  obtain ⟨rfl, _, rfl⟩ := es
  unfold maxLen at hms
  rw [hm] at hcall
  have d1 : (c.op == 1) = true := beq_iff_eq.2 h1
  clear h1
  have HC := Lib.hid hC
  have HT := Lib.hid hT
  have HQ := Lib.hid hQ
  have HS := Lib.hid hs
  have HCALL := Lib.hid hcall
  have c0 := cell_of_row _ _ 0 _ _ _ hC
  have c1 := cell_of_row _ _ 1 _ _ _ hC
  have c2 := cell_of_row _ _ 2 _ _ _ hC
  have c3 := cell_of_row _ _ 3 _ _ _ hC
  have c4 := cell_of_row _ _ 4 _ _ _ hC
  have c5 := cell_of_row _ _ 5 _ _ _ hC
  have c6 := cell_of_row _ _ 6 _ _ _ hC
  clear hC hT hQ hs hcall
  generalize hN : c.set.length = N at *
  have HN := Lib.hid hN
  clear hN
  go_enter Tryz.func79, Tryz.ntmps79
  go_upto_region 2 with fail
  generalize ((w.alloc (.cells #[.string (strOf c.name), .int .i64 c.op, .int .i64 c.v.k, .int .i64 c.v.n, .string (strOf c.v.s), .bool c.v.b, .slice sa N sc] 53)).alloc (.cells #[.slice none 0 0, .slice none 0 0, .slice none 0 0, .bool false] 83)).alloc (.cells #[.slice none 0 0, .slice none 0 0, .slice none 0 0, .bool false] 83) = w0 at *
  go_wp2_with fail
  refine HCALL.out.mono ?_
  rintro e y1 ⟨rfl, hy1⟩
  have hxw := hx0.trans hy1
  have c0 := hy1.cell c0
  have c1 := hy1.cell c1
  have c2 := hy1.cell c2
  have c3 := hy1.cell c3
  have c4 := hy1.cell c4
  have c5 := hy1.cell c5
  have c6 := hy1.cell c6
  have HC := Lib.hid (block_later HC.out hy1)
  have HT := Lib.hid (block_later HT.out hy1)
  have HQ := Lib.hid (block_later HQ.out hy1)
  clear hy1 hx0
  go_wp2_with fail
  refine (all_any _).mono ?_
  rintro e y2 ⟨v, rfl, hv, hy2⟩
  obtain ⟨b1, e1, b2, e2, b3, e3, rfl, p1, p2, p3⟩ := hv.ex
  have HV := Lib.hid hv
  have HT := Lib.hid (block_later HT.out hy2)
  have hxw := hxw.trans hy2
  clear hv p1 p2 p3 hy2
  go_wp2_with (refine wpList_store_whole 83 (.tmp 2) (.tmp 18) rfl rfl (w.heap.size + 1) rfl #[.slice b1 allR.i.length e1, .slice b2 allR.s.length e2, .slice b3 allR.b.length e3, .bool allR.odd] rfl _ 83 HT.out rfl info83s (by simp [Value.oneCell']) ?_)
  have hq := setRow_heap _ _ _ #[.slice b1 allR.i.length e1, .slice b2 allR.s.length e2, .slice b3 allR.b.length e3, .bool allR.odd] _ _ HT.out
  have g0 := cell_of_row _ _ 0 _ _ _ hq
  have g1 := cell_of_row _ _ 1 _ _ _ hq
  have g2 := cell_of_row _ _ 2 _ _ _ hq
  have g3 := cell_of_row _ _ 3 _ _ _ hq
  refine bodyPost_ret (v := .tuple #[.agg #[.slice b1 allR.i.length e1, .slice b2 allR.s.length e2, .slice b3 allR.b.length e3, .bool allR.odd], .int .i64 0]) (by simp [results, Tryz.results79, go_sem, g0, g1, g2, g3]) rfl ⟨.agg #[.slice b1 allR.i.length e1, .slice b2 allR.s.length e2, .slice b3 allR.b.length e3, .bool allR.odd], rfl, ?_, (hxw).setRow (by omega) _⟩
  exact rgr_set HV.out HT.out (by simp)

set_option maxRecDepth 100000 in
set_option maxHeartbeats 8000000 in
theorem Of_val (w : World) (c : C) (sa : Option Addr) (sc : Nat) (hs : SetR w (.slice sa c.set.length sc) c.set) (hm : mayC c = true) (h1 : c.op ≠ 1) (h9 : c.op ≠ 9) (hk : c.v.k = 1 ∨ c.v.k = 2 ∨ c.v.k = 3) (hn : okN c.v.n) (hv : c.v.s.length ≤ 140737488355328) :
    Calls Tryz.prog 79 #[.agg #[.string (strOf c.name), .int .i64 c.op, .int .i64 c.v.k, .int .i64 c.v.n, .string (strOf c.v.s), .bool c.v.b, .slice sa c.set.length sc]] w fun e w' => ∃ v, e = .returned (.tuple #[v, .int .i64 0]) ∧ RgR w' v (setR c.v.k (ofL c)) ∧ Ext w w' := by
  obtain ⟨hx0, hC, hT, hQ⟩ := boxes3 w (.cells #[.string (strOf c.name), .int .i64 c.op, .int .i64 c.v.k, .int .i64 c.v.n, .string (strOf c.v.s), .bool c.v.b, .slice sa c.set.length sc] 53) (.cells #[.slice none 0 0, .slice none 0 0, .slice none 0 0, .bool false] 83) (.cells #[.slice none 0 0, .slice none 0 0, .slice none 0 0, .bool false] 83)
  have hcall := maycons_any (((w.alloc (.cells #[.string (strOf c.name), .int .i64 c.op, .int .i64 c.v.k, .int .i64 c.v.n, .string (strOf c.v.s), .bool c.v.b, .slice sa c.set.length sc] 53)).alloc (.cells #[.slice none 0 0, .slice none 0 0, .slice none 0 0, .bool false] 83)).alloc (.cells #[.slice none 0 0, .slice none 0 0, .slice none 0 0, .bool false] 83)) c sa sc (hs.ext hx0)
  obtain ⟨_, _, es, hcs, hms⟩ := Row.shape hs
  simp only [Value.slice.injEq] at es
  obtain ⟨rfl, _, rfl⟩ := es
  unfold maxLen at hms
  rw [hm] at hcall
  have d1 := beq_int_ne h1
  have d9 := beq_int_ne h9
  have hof := fun W => of_any W (strOf c.name) c.op c.v sa c.set.length sc hn hv
  have hol : ofL ⟨[], c.op, c.v, []⟩ = ofL c := rfl
  rw [hol] at hof
  have HOF := Lib.hid hof
  have HK := Lib.hid hk
  have hb1 : 1 ≤ c.v.k := by omega
  have hb2 : c.v.k ≤ 3 := by omega
  have hb3 : (0 : Int) ≤ c.v.k - 1 := by omega
  have hb4 : c.v.k - 1 < 3 := by omega
  clear h1 h9 hk hn hv hof hol
  generalize ofL c = L at *
  have HC := Lib.hid hC
  have HT := Lib.hid hT
  have HQ := Lib.hid hQ
  have HS := Lib.hid hs
  have HCALL := Lib.hid hcall
  have c0 := cell_of_row _ _ 0 _ _ _ hC
  have c1 := cell_of_row _ _ 1 _ _ _ hC
  have c2 := cell_of_row _ _ 2 _ _ _ hC
  have c3 := cell_of_row _ _ 3 _ _ _ hC
  have c4 := cell_of_row _ _ 4 _ _ _ hC
  have c5 := cell_of_row _ _ 5 _ _ _ hC
  have c6 := cell_of_row _ _ 6 _ _ _ hC
  clear hC hT hQ hs hcall
  generalize hN : c.set.length = N at *
  have HN := Lib.hid hN
  clear hN
  go_enter Tryz.func79, Tryz.ntmps79
  go_upto_region 2 with fail
  generalize ((w.alloc (.cells #[.string (strOf c.name), .int .i64 c.op, .int .i64 c.v.k, .int .i64 c.v.n, .string (strOf c.v.s), .bool c.v.b, .slice sa N sc] 53)).alloc (.cells #[.slice none 0 0, .slice none 0 0, .slice none 0 0, .bool false] 83)).alloc (.cells #[.slice none 0 0, .slice none 0 0, .slice none 0 0, .bool false] 83) = w0 at *
  go_wp2_with fail
  refine HCALL.out.mono ?_
  rintro e y1 ⟨rfl, hy1⟩
  have hxw := hx0.trans hy1
  have c0 := hy1.cell c0
  have c1 := hy1.cell c1
  have c2 := hy1.cell c2
  have c3 := hy1.cell c3
  have c4 := hy1.cell c4
  have c5 := hy1.cell c5
  have c6 := hy1.cell c6
  have HC := Lib.hid (block_later HC.out hy1)
  have HT := Lib.hid (block_later HT.out hy1)
  have HQ := Lib.hid (block_later HQ.out hy1)
  clear hy1 hx0
  go_upto_region 17 with fail
  refine wp_region_chain 8 [Fact.eq (.pointer (some ⟨w.heap.size, 2, none⟩)),
      Fact.eq (.pointer (some ⟨w.heap.size, 2, none⟩)),
      Fact.eq (.int .i64 c.v.k),
      Fact.eq (.int .i64 (c.v.k - 1)),
      Fact.eq (.agg #[.string (strOf c.name), .int .i64 c.op, .int .i64 c.v.k, .int .i64 c.v.n, .string (strOf c.v.s), .bool c.v.b, .slice sa N sc]),
      Fact.sp L,
      Fact.eq (.pointer (some ⟨w.heap.size + 1 + 1, 0, none⟩)),
      Fact.eq (.pointer (some ⟨w.heap.size + 1 + 1, (c.v.k - 1).toNat, none⟩))]
    [[], [(0, 47)], [(1, 48)], [(2, 49)], [], [(4, 51)], [], [(6, 53), (3, 50)]]
    [(0, 47), (1, 48), (2, 49), (3, 50), (4, 51), (5, 52), (6, 53), (7, 54)] (by kernel_rfl) (by kernel_rfl) ?_ ?_
  · refine ⟨?_, ?_, ?_, ?_, ?_, ?_, ?_, ?_, trivial⟩
    · intro w1 hx1; change wpList _ _ _ _ _ _; go_wp2_with fail; exact ⟨rfl, Ext.refl _, rfl, rfl⟩
    · intro w1 hx1; rintro _ rfl; change wpList _ _ _ _ _ _; go_wp2_with fail; exact ⟨rfl, Ext.refl _, rfl, rfl⟩
    · intro w1 hx1; rintro _ rfl; change wpList _ _ _ _ _ _; have m := hx1.cell c2; go_wp2_with fail; exact ⟨rfl, Ext.refl _, rfl, rfl⟩
    · intro w1 hx1; rintro _ rfl; change wpList _ _ _ _ _ _; go_wp2_with fail; exact ⟨rfl, Ext.refl _, rfl, rfl⟩
    · intro w1 hx1; change wpList _ _ _ _ _ _; have m0 := hx1.cell c0; have m1 := hx1.cell c1; have m2 := hx1.cell c2; have m3 := hx1.cell c3; have m4 := hx1.cell c4; have m5 := hx1.cell c5; have m6 := hx1.cell c6; go_wp2_with fail; exact ⟨rfl, Ext.refl _, rfl, rfl⟩
    · intro w1 hx1; rintro _ rfl; change wpList _ _ _ _ _ _; go_wp2_with fail; refine (HOF.out w1).mono ?_; rintro e w2 ⟨u, rfl, hu, hx2⟩; go_wp2_with fail; exact ⟨rfl, hx2, rfl, hu⟩
    · intro w1 hx1; change wpList _ _ _ _ _ _; go_wp2_with fail; exact ⟨rfl, Ext.refl _, rfl, rfl⟩
    · intro w1 hx1; rintro _ rfl; rintro _ rfl; change wpList _ _ _ _ _ _; go_wp2_with fail; exact ⟨rfl, Ext.refl _, rfl, rfl⟩
  · intro w1 hx1; rintro _ rfl; rintro _ rfl; rintro _ rfl; rintro _ rfl; rintro _ rfl; intro v52 h52; rintro _ rfl; rintro _ rfl; refine depsThen_nil ?_; dsimp only; simp only [Act.put, List.setIfInBounds_toArray, List.set_cons_zero, List.set_cons_succ, List.drop_succ_cons, List.drop_zero]
    replace h52 : (Fact.sp L).p v52 w1 := h52
    have h52' : SpR w1 v52 L := h52
    have HQ1 := Lib.hid (block_later HQ.out hx1)
    have HT1 := Lib.hid (block_later HT.out hx1)
    have hxw1 := hxw.trans hx1
    obtain ⟨k1, k2, z1, z2, z3, k3, k4⟩ := set_box HK.out h52' HQ1.out
    have hT2 := (setCell_block_other w1 ⟨w.heap.size + 1 + 1, c.v.k.toNat - 1, none⟩ v52 (w.heap.size + 1) (by simp)).trans HT1.out
    have hx2 := hxw1.setCell (p := ⟨w.heap.size + 1 + 1, c.v.k.toNat - 1, none⟩) (by simp; omega) v52
    obtain ⟨aa, cc, rfl, _, _⟩ := Row.shape h52'
    generalize hW2 : w1.setCell ⟨w.heap.size + 1 + 1, c.v.k.toNat - 1, none⟩ (.slice aa L.length cc) = W2 at *
    have HW2 := Lib.hid hW2
    have q0 := cell_of_row _ _ 0 _ _ _ k3
    have q1 := cell_of_row _ _ 1 _ _ _ k3
    have q2 := cell_of_row _ _ 2 _ _ _ k3
    have q3 := cell_of_row _ _ 3 _ _ _ k3
    obtain ⟨b1, e1, b2, e2, b3, e3, ee, _⟩ := k4.ex
    have hz : z1.oneCell' = true ∧ z2.oneCell' = true ∧ z3.oneCell' = true := by
      simp only [Value.agg.injEq, Array.mk.injEq, List.cons.injEq] at ee
      obtain ⟨rfl, rfl, rfl, _⟩ := ee
      exact ⟨rfl, rfl, rfl⟩
    obtain ⟨hz1, hz2, hz3⟩ := hz
    have K4 := Lib.hid k4
    have HT2 := Lib.hid hT2
    clear hW2 k3 k4 hT2 ee h52 h52' hx1 hxw1 hxw HT1 HQ1
    go_upto_region 18 with fail
    rw [HW2.out]
    go_wp2_with (refine wpList_store_whole 83 (.tmp 2) (.tmp 55) rfl rfl (w.heap.size + 1) rfl #[z1, z2, z3, .bool false] rfl _ 83 HT2.out rfl info83s (by simp only [List.mem_cons, List.not_mem_nil, or_false]; rintro v (rfl | rfl | rfl | rfl); exact hz1; exact hz2; exact hz3; rfl) ?_)
    have hq := setRow_heap _ _ _ #[z1, z2, z3, .bool false] _ _ HT2.out
    have g0 := cell_of_row _ _ 0 _ _ _ hq
    have g1 := cell_of_row _ _ 1 _ _ _ hq
    have g2 := cell_of_row _ _ 2 _ _ _ hq
    have g3 := cell_of_row _ _ 3 _ _ _ hq
    refine bodyPost_ret (v := .tuple #[.agg #[z1, z2, z3, .bool false], .int .i64 0]) (by simp [results, Tryz.results79, go_sem, g0, g1, g2, g3]) rfl ⟨.agg #[z1, z2, z3, .bool false], rfl, ?_, (hx2).setRow (by omega) _⟩
    exact rgr_set K4.out HT2.out (by simp)
end Go.Proofs.YtabegbelkfhbcaaGreat

namespace Go.Proofs.YtabegbelkfhbcaaGreat
open Go.RowKit Go.Sort

/-- All that none of some values is. -/
def outF (l : List V) : Rg := l.foldl (fun r v => r.minus (oneV v)) allR
theorem outF_snoc (l : List V) (x : V) : outF (l ++ [x]) = (outF l).minus (oneV x) := by unfold outF; rw [List.foldl_append]; rfl
theorem outF_few (l : List V) : Rises (outF l) ∧ Few (1 + l.length) (outF l) := fold_few l 1 allR rises_all few_all
theorem few_one (x : V) : Few 1 (oneV x) := few_set _ (one_len x)

set_option maxRecDepth 100000 in
set_option maxHeartbeats 8000000 in
theorem Of_in (w : World) (c : C) (sa : Option Addr) (sc : Nat) (hs : SetR w (.slice sa c.set.length sc) c.set) (hm : mayC c = true) (h9 : c.op = 9) (hv : ∀ x ∈ c.set, mayV x = true ∧ okN x.n) (h6 : c.set.length ≤ 6) :
    Calls Tryz.prog 79 #[.agg #[.string (strOf c.name), .int .i64 c.op, .int .i64 c.v.k, .int .i64 c.v.n, .string (strOf c.v.s), .bool c.v.b, .slice sa c.set.length sc]] w fun e w' => ∃ v, e = .returned (.tuple #[v, .int .i64 0]) ∧ RgR w' v (allR.minus (outF c.set)) ∧ Ext w w' := by
  obtain ⟨hx0, hC, hT, hQ⟩ := boxes3 w (.cells #[.string (strOf c.name), .int .i64 c.op, .int .i64 c.v.k, .int .i64 c.v.n, .string (strOf c.v.s), .bool c.v.b, .slice sa c.set.length sc] 53) (.cells #[.slice none 0 0, .slice none 0 0, .slice none 0 0, .bool false] 83) (.cells #[.slice none 0 0, .slice none 0 0, .slice none 0 0, .bool false] 83)
  have hcall := maycons_any (((w.alloc (.cells #[.string (strOf c.name), .int .i64 c.op, .int .i64 c.v.k, .int .i64 c.v.n, .string (strOf c.v.s), .bool c.v.b, .slice sa c.set.length sc] 53)).alloc (.cells #[.slice none 0 0, .slice none 0 0, .slice none 0 0, .bool false] 83)).alloc (.cells #[.slice none 0 0, .slice none 0 0, .slice none 0 0, .bool false] 83)) c sa sc (hs.ext hx0)
  obtain ⟨_, _, es, hcs, hms⟩ := Row.shape hs
  simp only [Value.slice.injEq] at es
  obtain ⟨rfl, _, rfl⟩ := es
  unfold maxLen at hms
  rw [hm] at hcall
  have d1 : (c.op == 1) = false := beq_eq_false_iff_ne.2 (by omega)
  have d9 : (c.op == 9) = true := beq_iff_eq.2 h9
  have HV := Lib.hid hv
  clear h9 hm hv
  have HC := Lib.hid hC
  have HT := Lib.hid hT
  have HQ := Lib.hid hQ
  have HS := Lib.hid hs
  have HCALL := Lib.hid hcall
  have c0 := cell_of_row _ _ 0 _ _ _ hC
  have c1 := cell_of_row _ _ 1 _ _ _ hC
  have c2 := cell_of_row _ _ 2 _ _ _ hC
  have c3 := cell_of_row _ _ 3 _ _ _ hC
  have c4 := cell_of_row _ _ 4 _ _ _ hC
  have c5 := cell_of_row _ _ 5 _ _ _ hC
  have c6 := cell_of_row _ _ 6 _ _ _ hC
  clear hC hT hQ hs hcall
  generalize hN : c.set.length = N at *
  have HN := Lib.hid hN
  clear hN
  go_enter Tryz.func79, Tryz.ntmps79
  go_upto_region 2 with fail
  generalize ((w.alloc (.cells #[.string (strOf c.name), .int .i64 c.op, .int .i64 c.v.k, .int .i64 c.v.n, .string (strOf c.v.s), .bool c.v.b, .slice sa N sc] 53)).alloc (.cells #[.slice none 0 0, .slice none 0 0, .slice none 0 0, .bool false] 83)).alloc (.cells #[.slice none 0 0, .slice none 0 0, .slice none 0 0, .bool false] 83) = w0 at *
  go_wp2_with fail
  refine HCALL.out.mono ?_
  rintro e y1 ⟨rfl, hy1⟩
  have hxw := hx0.trans hy1
  have c0 := hy1.cell c0
  have c1 := hy1.cell c1
  have c2 := hy1.cell c2
  have c3 := hy1.cell c3
  have c4 := hy1.cell c4
  have c5 := hy1.cell c5
  have c6 := hy1.cell c6
  have HC := Lib.hid (block_later HC.out hy1)
  have HT := Lib.hid (block_later HT.out hy1)
  have HQ := Lib.hid (block_later HQ.out hy1)
  clear hy1 hx0
  clear c0 c2 c3 c4 c5 HC HCALL
  go_wp2_with fail
  refine (all_any _).mono ?_
  rintro e y2 ⟨v, rfl, hv, hy2⟩
  obtain ⟨b1, i1, b2, i2, b3, i3, rfl, p1, p2, p3⟩ := hv.ex
  obtain ⟨hxa, hb5⟩ := boxes1 y2 (.cells #[.slice b1 allR.i.length i1, .slice b2 allR.s.length i2, .slice b3 allR.b.length i3, .bool allR.odd] 83)
  have hgood : Hid (GoodR y2.heap.size allR (y2.alloc (.cells #[.slice b1 allR.i.length i1, .slice b2 allR.s.length i2, .slice b3 allR.b.length i3, .bool allR.odd] 83))) := ⟨_, hb5, hv.ext hxa⟩
  have hx2 := hy2.trans hxa
  have c6 := hx2.cell c6
  have hlt5 := (Array.getElem?_eq_some_iff.1 (block_later HQ.out hy2)).1
  have HT := Lib.hid (block_later HT.out hx2)
  have HQ := Lib.hid (block_later HQ.out hx2)
  have hxw := hxw.trans hx2
  clear hv p1 p2 p3 hxa hb5 hx2 hy2 c1
  generalize allR.i.length = n1 at *
  generalize allR.s.length = n2 at *
  generalize allR.b.length = n3 at *
  generalize allR.odd = od at *
  go_wp2_with fail
  generalize y2.alloc (.cells #[.slice b1 n1 i1, .slice b2 n2 i2, .slice b3 n3 i3, .bool od] 83) = y3 at *
  go_loopw [27] (fun i wr => ∃ k : Nat, k ≤ N ∧ i = .int .i64 k ∧ Hid (GoodR y2.heap.size (outF (c.set.take k)) wr) ∧ Hid (wr.heap[w.heap.size + 1]? = some (.cells #[.slice none 0 0, .slice none 0 0, .slice none 0 0, .bool false] 83 (0, 0))) ∧ Hid (wr.heap[w.heap.size + 1 + 1]? = some (.cells #[.slice none 0 0, .slice none 0 0, .slice none 0 0, .bool false] 83 (0, 0))) ∧ Ext w wr) (fun i _ => N - (intOf i).toNat)
  case atStart => exact ⟨0, Nat.zero_le _, rfl, hgood, HT, HQ, hxw⟩
  case round =>
    clear hgood HT HQ hxw c6
    obtain ⟨k, hk, rfl, hgood, HT, HQ, hx⟩ := hrel
    by_cases hlt : k < N
    · have hI : decide ((k : Int) < (N : Int)) = true := decide_eq_true (by omega)
      have hkl : k < c.set.length := by rw [HN.out]; exact hlt
      obtain ⟨B, o, rfl, f0, f1, f2, f3⟩ := SetR.at (HS.out.ext hx) hkl
      have hvk := HV.out c.set[k] (List.getElem_mem hkl)
      have hstep : outF (c.set.take (k + 1)) = (outF (c.set.take k)).minus (oneV c.set[k]) := by
        rw [List.take_succ_eq_append_getElem hkl, outF_snoc]
      have hfew := outF_few (c.set.take k)
      have hlen : (c.set.take k).length ≤ 6 := by rw [List.length_take, HN.out]; omega
      have HSTEP := Lib.hid hstep
      have HFEW := Lib.hid hfew
      have HLEN := Lib.hid hlen
      clear hstep hfew hlen
      generalize c.set[k] = x at *
      generalize hR : outF (c.set.take k) = R at *
      clear hR
      obtain ⟨hmv, hxn⟩ := hvk
      obtain ⟨hxk, hxs⟩ := mayV_k hmv
      have hof := fun W => of_any W ⟨#[]⟩ 2 x none 0 0 hxn (by omega)
      have HOF := Lib.hid hof
      have HK := Lib.hid hxk
      have hb1 : 1 ≤ x.k := by omega
      have hb2 : x.k ≤ 3 := by omega
      have hb3 : (0 : Int) ≤ x.k - 1 := by omega
      have hb4 : x.k - 1 < 3 := by omega
      obtain ⟨hxa, hVb, hO⟩ := boxes2 wr (.cells #[.int .i64 x.k, .int .i64 x.n, .string (strOf x.s), .bool x.b] 50) (.cells #[.slice none 0 0, .slice none 0 0, .slice none 0 0, .bool false] 83)
      have v0 := cell_of_row _ _ 0 _ _ _ hVb
      have v1 := cell_of_row _ _ 1 _ _ _ hVb
      have v2 := cell_of_row _ _ 2 _ _ _ hVb
      have v3 := cell_of_row _ _ 3 _ _ _ hVb
      have HO := Lib.hid hO
      clear hof hxk hVb hO hmv hxn hxs
      go_upto_region 12 with fail
      generalize (wr.alloc (.cells #[.int .i64 x.k, .int .i64 x.n, .string (strOf x.s), .bool x.b] 50)).alloc (.cells #[.slice none 0 0, .slice none 0 0, .slice none 0 0, .bool false] 83) = wa at *
      clear f0 f1 f2 f3
      refine wp_region_chain 8 [Fact.eq (.pointer (some ⟨wr.heap.size, 0, none⟩)),
          Fact.eq (.int .i64 x.k),
          Fact.eq (.int .i64 (x.k - 1)),
          Fact.eq (.agg #[.int .i64 x.k, .int .i64 x.n, .string (strOf x.s), .bool x.b]),
          Fact.eq (.agg #[.string ⟨#[]⟩, .int .i64 2, .int .i64 x.k, .int .i64 x.n, .string (strOf x.s), .bool x.b, .slice none 0 0]),
          Fact.sp (ofL ⟨[], 2, x, []⟩),
          Fact.eq (.pointer (some ⟨wr.heap.size + 1, 0, none⟩)),
          Fact.eq (.pointer (some ⟨wr.heap.size + 1, (x.k - 1).toNat, none⟩))]
        [[], [(0, 31)], [(1, 32)], [], [(3, 34)], [(4, 35)], [], [(6, 37), (2, 33)]]
        [(0, 31), (1, 32), (2, 33), (3, 34), (4, 35), (5, 36), (6, 37), (7, 38)] (by kernel_rfl) (by kernel_rfl) ?_ ?_
      · refine ⟨?_, ?_, ?_, ?_, ?_, ?_, ?_, ?_, trivial⟩
        · intro w1 hx1; change wpList _ _ _ _ _ _; go_wp2_with fail; exact ⟨rfl, Ext.refl _, rfl, rfl⟩
        · intro w1 hx1; rintro _ rfl; change wpList _ _ _ _ _ _; have m := hx1.cell v0; go_wp2_with fail; exact ⟨rfl, Ext.refl _, rfl, rfl⟩
        · intro w1 hx1; rintro _ rfl; change wpList _ _ _ _ _ _; go_wp2_with fail; exact ⟨rfl, Ext.refl _, rfl, rfl⟩
        · intro w1 hx1; change wpList _ _ _ _ _ _; have m0 := hx1.cell v0; have m1 := hx1.cell v1; have m2 := hx1.cell v2; have m3 := hx1.cell v3; go_wp2_with fail; exact ⟨rfl, Ext.refl _, rfl, rfl⟩
        · intro w1 hx1; rintro _ rfl; change wpList _ _ _ _ _ _; go_wp2_with fail; exact ⟨rfl, Ext.refl _, rfl, rfl⟩
        · intro w1 hx1; rintro _ rfl; change wpList _ _ _ _ _ _; go_wp2_with fail; refine (HOF.out w1).mono ?_; rintro e w2 ⟨u, rfl, hu, hx2⟩; go_wp2_with fail; exact ⟨rfl, hx2, rfl, hu⟩
        · intro w1 hx1; change wpList _ _ _ _ _ _; go_wp2_with fail; exact ⟨rfl, Ext.refl _, rfl, rfl⟩
        · intro w1 hx1; rintro _ rfl; rintro _ rfl; change wpList _ _ _ _ _ _; go_wp2_with fail; exact ⟨rfl, Ext.refl _, rfl, rfl⟩
      · intro w1 hx1; rintro _ rfl; rintro _ rfl; rintro _ rfl; rintro _ rfl; rintro _ rfl; intro v36 h36; rintro _ rfl; rintro _ rfl; refine depsThen_nil ?_; dsimp only; simp only [Act.put, List.setIfInBounds_toArray, List.set_cons_zero, List.set_cons_succ, List.drop_succ_cons, List.drop_zero]
        replace h36 : (Fact.sp (ofL ⟨[], 2, x, []⟩)).p v36 w1 := h36
        have h36' : SpR w1 v36 (ofL ⟨[], 2, x, []⟩) := h36
        have hO1 := block_later HO.out hx1
        have hxr := hxa.trans hx1
        obtain ⟨k1, k2, z1, z2, z3, k3, k4⟩ := set_box HK.out h36' hO1
        have hxr2 := hxr.setCell (p := ⟨wr.heap.size + 1, x.k.toNat - 1, none⟩) (by simp) v36
        obtain ⟨aa, cc, rfl, _, _⟩ := Row.shape h36'
        generalize (ofL ⟨[], 2, x, []⟩).length = ln at *
        generalize hW2 : w1.setCell ⟨wr.heap.size + 1, x.k.toNat - 1, none⟩ (.slice aa ln cc) = W2 at *
        have HW2 := Lib.hid hW2
        have q0 := cell_of_row _ _ 0 _ _ _ k3
        have q1 := cell_of_row _ _ 1 _ _ _ k3
        have q2 := cell_of_row _ _ 2 _ _ _ k3
        have q3 := cell_of_row _ _ 3 _ _ _ k3
        obtain ⟨cs, hb5, hr5⟩ := hgood.out
        have hb5 := block_later hb5 hxr2
        have hr5 := hr5.ext hxr2
        obtain ⟨r1, e1, r2, e2, r3, e3, ee, _⟩ := hr5.ex
        cases ee
        have s0 := cell_of_row _ _ 0 _ _ _ hb5
        have s1 := cell_of_row _ _ 1 _ _ _ hb5
        have s2 := cell_of_row _ _ 2 _ _ _ hb5
        have s3 := cell_of_row _ _ 3 _ _ _ hb5
        have hmin := minusR_any W2 _ _ R (oneV x) hr5 k4 HFEW.out.1 (good_one x).full (HFEW.out.2.mono (by have := HLEN.out; omega)) ((few_one x).mono (by omega))
        have HMIN := Lib.hid hmin
        have HT := Lib.hid (block_later HT.out hxr2)
        have HQ := Lib.hid (block_later HQ.out hxr2)
        have HB5 := Lib.hid hb5
        have hxw := hx.trans hxr2
        clear hW2 k3 k4 h36 h36' hx1 hxr hO1 hb5 hr5 hmin hxr2 hx hxa v0 v1 v2 v3 hgood
        generalize R.i.length = m1 at *
        generalize R.s.length = m2 at *
        generalize R.b.length = m3 at *
        generalize R.odd = mo at *
        go_upto_region 13 with fail
        rw [HW2.out]
        clear k1 k2 HW2
        go_wp2_with fail
        refine HMIN.out.mono ?_
        rintro e y4 ⟨v, rfl, hv, hy4⟩
        obtain ⟨j1, t1, j2, t2, j3, t3, rfl, _, _, _⟩ := hv.ex
        have HV4 := Lib.hid hv
        have HB5 := Lib.hid (block_later HB5.out hy4)
        have HT := Lib.hid (block_later HT.out hy4)
        have HQ := Lib.hid (block_later HQ.out hy4)
        have hxw := hxw.trans hy4
        clear hv hy4 q0 q1 q2 q3 s0 s1 s2 s3
        have hq := setRow_heap _ _ _ #[.slice j1 (R.minus (oneV x)).i.length t1, .slice j2 (R.minus (oneV x)).s.length t2, .slice j3 (R.minus (oneV x)).b.length t3, .bool (R.minus (oneV x)).odd] _ _ HB5.out
        have hrq := rgr_set (cs := #[.slice j1 (R.minus (oneV x)).i.length t1, .slice j2 (R.minus (oneV x)).s.length t2, .slice j3 (R.minus (oneV x)).b.length t3, .bool (R.minus (oneV x)).odd]) HV4.out HB5.out (by simp)
        have hgn : GoodR y2.heap.size (outF (c.set.take (k + 1))) _ := ⟨_, hq, by rw [HSTEP.out]; exact hrq⟩
        have HGN := Lib.hid hgn
        have HT := Lib.hid ((setRow_other y4 y2.heap.size (w.heap.size + 1) #[.slice j1 (R.minus (oneV x)).i.length t1, .slice j2 (R.minus (oneV x)).s.length t2, .slice j3 (R.minus (oneV x)).b.length t3, .bool (R.minus (oneV x)).odd] (by omega)).trans HT.out)
        have HQ := Lib.hid ((setRow_other y4 y2.heap.size (w.heap.size + 1 + 1) #[.slice j1 (R.minus (oneV x)).i.length t1, .slice j2 (R.minus (oneV x)).s.length t2, .slice j3 (R.minus (oneV x)).b.length t3, .bool (R.minus (oneV x)).odd] (by omega)).trans HQ.out)
        have hxw := hxw.setRow (g := y2.heap.size) (by omega) #[.slice j1 (R.minus (oneV x)).i.length t1, .slice j2 (R.minus (oneV x)).s.length t2, .slice j3 (R.minus (oneV x)).b.length t3, .bool (R.minus (oneV x)).odd]
        clear hq hrq hgn
        generalize (R.minus (oneV x)).i.length = m1 at *
        generalize (R.minus (oneV x)).s.length = m2 at *
        generalize (R.minus (oneV x)).b.length = m3 at *
        generalize (R.minus (oneV x)).odd = mo at *
        generalize hy5 : y4.setRow y2.heap.size #[.slice j1 m1 t1, .slice j2 m2 t2, .slice j3 m3 t3, .bool mo] = y5 at *
        have HY5 := Lib.hid hy5
        clear hy5
        go_wp2_with (refine wpList_store_whole 83 (.tmp 5) (.tmp 41) rfl rfl y2.heap.size rfl #[.slice j1 m1 t1, .slice j2 m2 t2, .slice j3 m3 t3, .bool mo] rfl _ 83 HB5.out rfl info83s (by simp [Value.oneCell']) ?_; rw [HY5.out])
        go_roundw
        case rel => exact ⟨k + 1, hlt, by go_num, HGN, HT, HQ, hxw⟩
        case measure => simp [intOf]; omega
    · obtain rfl : k = N := by omega
      have hI : decide ((k : Int) < (k : Int)) = false := decide_eq_false (by omega)
      have htk : c.set.take k = c.set := List.take_of_length_le (by rw [HN.out]; exact Nat.le_refl _)
      have hfew := outF_few c.set
      obtain ⟨cs, hb5, hr5⟩ := hgood.out
      rw [htk] at hr5
      obtain ⟨r1, e1, r2, e2, r3, e3, ee, _⟩ := hr5.ex
      cases ee
      have s0 := cell_of_row _ _ 0 _ _ _ hb5
      have s1 := cell_of_row _ _ 1 _ _ _ hb5
      have s2 := cell_of_row _ _ 2 _ _ _ hb5
      have s3 := cell_of_row _ _ 3 _ _ _ hb5
      have hmin := fun W va (hW : Ext wr W) (hva : RgR W va allR) => minusR_any W va _ allR (outF c.set) hva (hr5.ext hW) rises_all hfew.1.full (few_all.mono (by omega)) (hfew.2.mono (by have := HN.out; omega))
      have HMIN := Lib.hid hmin
      clear hmin hb5 hr5 htk hfew hgood
      generalize (outF c.set).i.length = m1 at *
      generalize (outF c.set).s.length = m2 at *
      generalize (outF c.set).b.length = m3 at *
      generalize (outF c.set).odd = mo at *
      go_upto_region 15 with fail
      refine wp_region_chain 3 [Fact.rg allR,
          Fact.eq (.agg #[.slice r1 m1 e1, .slice r2 m2 e2, .slice r3 m3 e3, .bool mo]),
          Fact.rg (allR.minus (outF c.set))]
        [[], [], [(0, 43), (1, 44)]]
        [(0, 43), (1, 44), (2, 45)] (by kernel_rfl) (by kernel_rfl) ?_ ?_
      · refine ⟨?_, ?_, ?_, trivial⟩
        · intro w1 hx1; change wpList _ _ _ _ _ _; go_wp2_with fail; refine (all_any w1).mono ?_; rintro e w2 ⟨u, rfl, hu, hx2⟩; go_wp2_with fail; exact ⟨rfl, hx2, rfl, hu⟩
        · intro w1 hx1; change wpList _ _ _ _ _ _; have g0 := hx1.cell s0; have g1 := hx1.cell s1; have g2 := hx1.cell s2; have g3 := hx1.cell s3; go_wp2_with fail; exact ⟨rfl, Ext.refl _, rfl, rfl⟩
        · intro w1 hx1; intro v43 h43; rintro _ rfl; change wpList _ _ _ _ _ _; go_wp2_with fail; refine (HMIN.out w1 v43 hx1 h43).mono ?_; rintro e w2 ⟨u, rfl, hu, hx2⟩; go_wp2_with fail; exact ⟨rfl, hx2, rfl, hu⟩
      · intro w1 hx1; intro v43 h43; rintro _ rfl; intro v45 h45; refine depsThen_nil ?_; dsimp only; simp only [Act.put, List.setIfInBounds_toArray, List.set_cons_zero, List.set_cons_succ, List.drop_succ_cons, List.drop_zero]
        replace h43 : (Fact.rg allR).p v43 w1 := h43
        replace h45 : (Fact.rg (allR.minus (outF c.set))).p v45 w1 := h45
        have hv : RgR w1 v45 (allR.minus (outF c.set)) := h45
        obtain ⟨j1, t1, j2, t2, j3, t3, rfl, _, _, _⟩ := hv.ex
        have HT := Lib.hid (block_later HT.out hx1)
        have HQ := Lib.hid (block_later HQ.out hx1)
        have hxw := hx.trans hx1
        have hV := rgr_set (cs := #[.slice j1 (allR.minus (outF c.set)).i.length t1, .slice j2 (allR.minus (outF c.set)).s.length t2, .slice j3 (allR.minus (outF c.set)).b.length t3, .bool (allR.minus (outF c.set)).odd]) hv HQ.out (by simp)
        have HV5 := Lib.hid hV
        clear hv hV h43 h45 hx1 hx s0 s1 s2 s3 HMIN
        generalize (allR.minus (outF c.set)).i.length = m1 at *
        generalize (allR.minus (outF c.set)).s.length = m2 at *
        generalize (allR.minus (outF c.set)).b.length = m3 at *
        generalize (allR.minus (outF c.set)).odd = mo at *
        have hq := setRow_heap _ _ _ #[.slice j1 m1 t1, .slice j2 m2 t2, .slice j3 m3 t3, .bool mo] _ _ HQ.out
        have g0 := cell_of_row _ _ 0 _ _ _ hq
        have g1 := cell_of_row _ _ 1 _ _ _ hq
        have g2 := cell_of_row _ _ 2 _ _ _ hq
        have g3 := cell_of_row _ _ 3 _ _ _ hq
        have HT := Lib.hid ((setRow_other w1 (w.heap.size + 1 + 1) (w.heap.size + 1) #[.slice j1 m1 t1, .slice j2 m2 t2, .slice j3 m3 t3, .bool mo] (by omega)).trans HT.out)
        have hxw := hxw.setRow (g := w.heap.size + 1 + 1) (by omega) #[.slice j1 m1 t1, .slice j2 m2 t2, .slice j3 m3 t3, .bool mo]
        generalize hy5 : w1.setRow (w.heap.size + 1 + 1) #[.slice j1 m1 t1, .slice j2 m2 t2, .slice j3 m3 t3, .bool mo] = y5 at *
        have HY5 := Lib.hid hy5
        clear hy5 hq
        go_wp2_with (first | (refine wpList_store_whole 83 (.tmp 4) (.tmp 45) rfl rfl (w.heap.size + 1 + 1) rfl #[.slice j1 m1 t1, .slice j2 m2 t2, .slice j3 m3 t3, .bool mo] rfl _ 83 HQ.out rfl info83s (by simp [Value.oneCell']) ?_; rw [HY5.out]) | refine wpList_store_whole 83 (.tmp 2) (.tmp 46) rfl rfl (w.heap.size + 1) rfl #[.slice j1 m1 t1, .slice j2 m2 t2, .slice j3 m3 t3, .bool mo] rfl _ 83 HT.out rfl info83s (by simp [Value.oneCell']) ?_)
        have hq := setRow_heap _ _ _ #[.slice j1 m1 t1, .slice j2 m2 t2, .slice j3 m3 t3, .bool mo] _ _ HT.out
        have g0 := cell_of_row _ _ 0 _ _ _ hq
        have g1 := cell_of_row _ _ 1 _ _ _ hq
        have g2 := cell_of_row _ _ 2 _ _ _ hq
        have g3 := cell_of_row _ _ 3 _ _ _ hq
        refine bodyPost_ret (v := .tuple #[.agg #[.slice j1 m1 t1, .slice j2 m2 t2, .slice j3 m3 t3, .bool mo], .int .i64 0]) (by simp [results, Tryz.results79, go_sem, g0, g1, g2, g3]) rfl ⟨.agg #[.slice j1 m1 t1, .slice j2 m2 t2, .slice j3 m3 t3, .bool mo], rfl, ?_, hxw.setRow (by omega) _⟩
        exact rgr_set HV5.out HT.out (by simp)

theorem may_in {c : C} (hm : mayC c = true) (h9 : c.op = 9) : (∀ x ∈ c.set, mayV x = true) ∧ c.set.length ≤ 6 := by
  unfold mayC at hm
  by_cases h0 : c.name.length < 1 ∨ 16 < c.name.length
  · rw [if_pos h0] at hm; cases hm
  · rw [if_neg h0, if_neg (show ¬ c.op = 1 by omega), if_neg (show ¬ (2 ≤ c.op ∧ c.op ≤ 7) by omega), if_neg (show ¬ c.op = 8 by omega), if_pos h9] at hm
    simp only [Bool.and_eq_true, decide_eq_true_eq] at hm
    exact ⟨fun x hx => List.all_eq_true.1 hm.2 x hx, hm.1.2⟩
theorem may_val {c : C} (hm : mayC c = true) (h1 : c.op ≠ 1) (h9 : c.op ≠ 9) : mayV c.v = true := by
  unfold mayC at hm
  by_cases h0 : c.name.length < 1 ∨ 16 < c.name.length
  · rw [if_pos h0] at hm; cases hm
  · rw [if_neg h0, if_neg h1] at hm
    by_cases h2 : 2 ≤ c.op ∧ c.op ≤ 7
    · rw [if_pos h2] at hm
      simp only [Bool.and_eq_true] at hm
      exact hm.1
    · rw [if_neg h2] at hm
      by_cases h8 : c.op = 8
      · rw [if_pos h8] at hm
        simp only [Bool.and_eq_true] at hm
        exact hm.1.1
      · rw [if_neg h8, if_neg h9] at hm; cases hm
theorem Of_any (w : World) (c : C) (sa : Option Addr) (sc : Nat) (hs : SetR w (.slice sa c.set.length sc) c.set) (hn : okN c.v.n) (hv : ∀ x ∈ c.set, okN x.n) :
    Calls Tryz.prog 79 #[.agg #[.string (strOf c.name), .int .i64 c.op, .int .i64 c.v.k, .int .i64 c.v.n, .string (strOf c.v.s), .bool c.v.b, .slice sa c.set.length sc]] w fun e w' => ∃ v, e = .returned (.tuple #[v, .int .i64 (if mayC c then 0 else 30)]) ∧ RgR w' v (ofR c) ∧ Ext w w' := by
  unfold ofR
  cases hm : mayC c with
  | false => exact Of_no w c sa sc hs hm
  | true =>
    by_cases h1 : c.op = 1
    · rw [if_neg (show ¬ (!true) = true by decide), if_pos h1]
      exact Of_has w c sa sc hs hm h1
    · by_cases h9 : c.op = 9
      · rw [if_neg (show ¬ (!true) = true by decide), if_neg h1, if_pos h9]
        obtain ⟨k1, k2⟩ := may_in hm h9
        exact Of_in w c sa sc hs hm h9 (fun x hx => ⟨k1 x hx, hv x hx⟩) k2
      · rw [if_neg (show ¬ (!true) = true by decide), if_neg h1, if_neg h9]
        obtain ⟨k1, k2⟩ := mayV_k (may_val hm h1 h9)
        exact Of_val w c sa sc hs hm h1 h9 k1 hn (by omega)
end Go.Proofs.YtabegbelkfhbcaaGreat

namespace Go.Proofs.YtabegbelkfhbcaaGreat
open Go.RowKit Go.Sort

def askL (name : List UInt8) (l : List C) : Rg := l.foldl (fun r c => if c.name = name then r.and (ofR c) else r) allR
theorem askL_snoc (name : List UInt8) (l : List C) (c : C) : askL name (l ++ [c]) = if c.name = name then (askL name l).and (ofR c) else askL name l := by unfold askL; rw [List.foldl_append]; rfl
theorem askL_few (name : List UInt8) (l : List C) (h : l.length ≤ 6) : Rises (askL name l) ∧ Few 576 (askL name l) := by
  obtain ⟨h1, h2⟩ := few_fold name l 1 allR rises_all few_all
  refine ⟨h1, h2.mono ?_⟩
  have : 2 ^ l.length ≤ 2 ^ 6 := Nat.pow_le_pow_right (by decide) h
  have e : (2 : Nat) ^ 6 = 64 := by decide
  omega

set_option maxRecDepth 100000 in
set_option maxHeartbeats 8000000 in
theorem asked_no (w : World) (vp : Value) (p : List C) (name : List UInt8) (hp : PredR w vp p) (hm : mayP p = false) :
    Calls Tryz.prog 56 #[vp, .string (strOf name)] w fun e w' => ∃ v, e = .returned (.tuple #[v, .int .i64 30]) ∧ RgR w' v noneR ∧ Ext w w' := by
  obtain ⟨hx0, hT⟩ := boxes1 w (.cells #[.slice none 0 0, .slice none 0 0, .slice none 0 0, .bool false] 83)
  have hcall := pmay_any _ vp p (hp.ext hx0)
  rw [hm] at hcall
  obtain ⟨a, cap, rfl, hc, hmx⟩ := hp.shape
  have HCALL := Lib.hid hcall
  have HT := Lib.hid hT
  clear hcall hT hp hm
  generalize p.length = N at *
  go_enter Tryz.func56, Tryz.ntmps56
  go_wp2_with fail
  refine HCALL.out.mono ?_
  rintro e y1 ⟨rfl, hy1⟩
  have HT := Lib.hid (block_later HT.out hy1)
  have hxw := hx0.trans hy1
  clear hy1 hx0 HCALL
  go_wp2_with (refine wpList_store_whole 83 (.tmp 4) (.tmp 14) rfl rfl w.heap.size rfl #[.slice none 0 0, .slice none 0 0, .slice none 0 0, .bool false] rfl _ 83 HT.out rfl info83s (by simp [Value.oneCell']) ?_)
  have hq := setRow_heap _ _ _ #[.slice none 0 0, .slice none 0 0, .slice none 0 0, .bool false] _ _ HT.out
  have g0 := cell_of_row _ _ 0 _ _ _ hq
  have g1 := cell_of_row _ _ 1 _ _ _ hq
  have g2 := cell_of_row _ _ 2 _ _ _ hq
  have g3 := cell_of_row _ _ 3 _ _ _ hq
  refine bodyPost_ret (v := .tuple #[.agg #[.slice none 0 0, .slice none 0 0, .slice none 0 0, .bool false], .int .i64 30]) (by simp [results, Tryz.results56, go_sem, g0, g1, g2, g3]) rfl ⟨.agg #[.slice none 0 0, .slice none 0 0, .slice none 0 0, .bool false], rfl, ?_, (hxw).setRow (Nat.le_refl _) _⟩
  exact rgr_set (RgR.of (r := noneR) (SpR.nil _) (SpR.nil _) (SpR.nil _)) HT.out (by simp)

set_option maxRecDepth 100000 in
set_option maxHeartbeats 8000000 in
theorem asked_yes (w : World) (vp : Value) (p : List C) (name : List UInt8) (hp : PredR w vp p) (hm : mayP p = true) (hok : ∀ c ∈ p, okC c) :
    Calls Tryz.prog 56 #[vp, .string (strOf name)] w fun e w' => ∃ v, e = .returned (.tuple #[v, .int .i64 0]) ∧ RgR w' v (askL name p) ∧ Ext w w' := by
  obtain ⟨hx0, hT⟩ := boxes1 w (.cells #[.slice none 0 0, .slice none 0 0, .slice none 0 0, .bool false] 83)
  have hcall := pmay_any _ vp p (hp.ext hx0)
  rw [hm] at hcall
  have hl6 := may_len hm
  have HMA := Lib.hid (may_all hm)
  obtain ⟨a, cap, rfl, hc, hmx⟩ := hp.shape
  unfold maxLen at hmx
  have HCALL := Lib.hid hcall
  have HT := Lib.hid hT
  have HP := Lib.hid hp
  have HOK := Lib.hid hok
  clear hcall hT hp hm hok
  generalize hN : p.length = N at *
  have HN := Lib.hid hN
  clear hN
  go_enter Tryz.func56, Tryz.ntmps56
  go_wp2_with fail
  refine HCALL.out.mono ?_
  rintro e y1 ⟨rfl, hy1⟩
  have HT := Lib.hid (block_later HT.out hy1)
  have hxw := hx0.trans hy1
  clear hy1 hx0 HCALL
  go_wp2_with fail
  refine (all_any _).mono ?_
  rintro e y2 ⟨v, rfl, hv, hy2⟩
  obtain ⟨b1, i1, b2, i2, b3, i3, rfl, p1, p2, p3⟩ := hv.ex
  obtain ⟨hxa, hb5⟩ := boxes1 y2 (.cells #[.slice b1 allR.i.length i1, .slice b2 allR.s.length i2, .slice b3 allR.b.length i3, .bool allR.odd] 83)
  have hgood : Hid (GoodR y2.heap.size allR (y2.alloc (.cells #[.slice b1 allR.i.length i1, .slice b2 allR.s.length i2, .slice b3 allR.b.length i3, .bool allR.odd] 83))) := ⟨_, hb5, hv.ext hxa⟩
  have hx2 := hy2.trans hxa
  have hlt5 := (Array.getElem?_eq_some_iff.1 (block_later HT.out hy2)).1
  have HT := Lib.hid (block_later HT.out hx2)
  have hxw := hxw.trans hx2
  clear hv p1 p2 p3 hxa hb5 hx2 hy2
  generalize allR.i.length = n1 at *
  generalize allR.s.length = n2 at *
  generalize allR.b.length = n3 at *
  generalize allR.odd = od at *
  go_wp2_with fail
  generalize y2.alloc (.cells #[.slice b1 n1 i1, .slice b2 n2 i2, .slice b3 n3 i3, .bool od] 83) = y3 at *
  go_loopw [18] (fun i wr => ∃ k : Nat, k ≤ N ∧ i = .int .i64 k ∧ Hid (GoodR y2.heap.size (askL name (p.take k)) wr) ∧ Hid (wr.heap[w.heap.size]? = some (.cells #[.slice none 0 0, .slice none 0 0, .slice none 0 0, .bool false] 83 (0, 0))) ∧ Ext w wr) (fun i _ => N - (intOf i).toNat)
  case atStart => exact ⟨0, Nat.zero_le _, rfl, hgood, HT, hxw⟩
  case round =>
    clear hgood HT hxw
    obtain ⟨k, hk, rfl, hgood, HT, hx⟩ := hrel
    by_cases hlt : k < N
    · have hI : decide ((k : Int) < (N : Int)) = true := decide_eq_true (by omega)
      have hkl : k < p.length := by rw [HN.out]; exact hlt
      obtain ⟨B, o, sa, sc, rfl, f0, f1, f2, f3, f4, f5, f6, hset⟩ := PredR.at (HP.out.ext hx) hkl
      have hstep : askL name (p.take (k + 1)) = if p[k].name = name then (askL name (p.take k)).and (ofR p[k]) else askL name (p.take k) := by
        rw [List.take_succ_eq_append_getElem hkl, askL_snoc]
      have hfew := askL_few name (p.take k) (by rw [List.length_take, HN.out]; omega)
      have hokc := HOK.out p[k] (List.getElem_mem hkl)
      have HMC := Lib.hid (HMA.out p[k] (List.getElem_mem hkl))
      have HSTEP := Lib.hid hstep
      have HFEW := Lib.hid hfew
      have HOKC := Lib.hid hokc
      clear hstep hfew hokc
      generalize p[k] = x at *
      generalize hR : askL name (p.take k) = R at *
      clear hR
      obtain ⟨hxa, hX⟩ := boxes1 wr (.cells #[.string (strOf x.name), .int .i64 x.op, .int .i64 x.v.k, .int .i64 x.v.n, .string (strOf x.v.s), .bool x.v.b, .slice sa x.set.length sc] 53)
      have x0 := cell_of_row _ _ 0 _ _ _ hX
      have x1 := cell_of_row _ _ 1 _ _ _ hX
      have x2 := cell_of_row _ _ 2 _ _ _ hX
      have x3 := cell_of_row _ _ 3 _ _ _ hX
      have x4 := cell_of_row _ _ 4 _ _ _ hX
      have x5 := cell_of_row _ _ 5 _ _ _ hX
      have x6 := cell_of_row _ _ 6 _ _ _ hX
      have HSET := Lib.hid (hset.ext hxa)
      clear hX hset
      by_cases hnm : x.name = name
      · have hd : (x.name == name) = true := beq_iff_eq.2 hnm
        have hst2 : askL name (p.take (k + 1)) = R.and (ofR x) := by rw [HSTEP.out, if_pos hnm]
        have HST2 := Lib.hid hst2
        have hof := Of_any _ x sa sc HSET.out HOKC.out.v.n (fun z hz => (HOKC.out.set z hz).n)
        rw [if_pos HMC.out] at hof
        have HOF := Lib.hid hof
        clear hnm hst2 hof HSTEP
        generalize hXL : x.set.length = XL at *
        clear hXL
        go_upto_region 8 with fail
        generalize wr.alloc (.cells #[.string (strOf x.name), .int .i64 x.op, .int .i64 x.v.k, .int .i64 x.v.n, .string (strOf x.v.s), .bool x.v.b, .slice sa XL sc] 53) = wa at *
        clear f0 f1 f2 f3 f4 f5 f6
        go_wp2_with fail
        refine HOF.out.mono ?_
        rintro e y4 ⟨v, rfl, hv, hy4⟩
        obtain ⟨j1, t1, j2, t2, j3, t3, rfl, _, _, _⟩ := hv.ex
        obtain ⟨hxd, hD⟩ := boxes1 y4 (.cells #[.slice j1 (ofR x).i.length t1, .slice j2 (ofR x).s.length t2, .slice j3 (ofR x).b.length t3, .bool (ofR x).odd] 83)
        have hxr2 := hxa.trans (hy4.trans hxd)
        obtain ⟨cs, hb5, hr5⟩ := hgood.out
        have hb5 := block_later hb5 hxr2
        have hr5 := hr5.ext hxr2
        obtain ⟨r1, e1, r2, e2, r3, e3, ee, _⟩ := hr5.ex
        cases ee
        have s0 := cell_of_row _ _ 0 _ _ _ hb5
        have s1 := cell_of_row _ _ 1 _ _ _ hb5
        have s2 := cell_of_row _ _ 2 _ _ _ hb5
        have s3 := cell_of_row _ _ 3 _ _ _ hb5
        have q0 := cell_of_row _ _ 0 _ _ _ hD
        have q1 := cell_of_row _ _ 1 _ _ _ hD
        have q2 := cell_of_row _ _ 2 _ _ _ hD
        have q3 := cell_of_row _ _ 3 _ _ _ hD
        have hand := andR_any _ _ _ R (ofR x) hr5 (hv.ext hxd) HFEW.out.1 (good_of x).full (HFEW.out.2.mono (by omega)) ((few_of x).mono (by omega))
        have HAND := Lib.hid hand
        have HT := Lib.hid (block_later HT.out hxr2)
        have HB5 := Lib.hid hb5
        have hxw := hx.trans hxr2
        clear hv hD hb5 hr5 hand hxr2 hxd hy4 hx hxa x0 x1 x2 x3 x4 x5 x6 hgood HSET HOF
        generalize R.i.length = m1 at *
        generalize R.s.length = m2 at *
        generalize R.b.length = m3 at *
        generalize R.odd = mo at *
        generalize (ofR x).i.length = l1 at *
        generalize (ofR x).s.length = l2 at *
        generalize (ofR x).b.length = l3 at *
        generalize (ofR x).odd = lo at *
        go_wp2_with fail
        refine HAND.out.mono ?_
        rintro e y5 ⟨v, rfl, hv, hy5⟩
        obtain ⟨j1, t1, j2, t2, j3, t3, rfl, _, _, _⟩ := hv.ex
        have HV4 := Lib.hid hv
        have HB5 := Lib.hid (block_later HB5.out hy5)
        have HT := Lib.hid (block_later HT.out hy5)
        have hxw := hxw.trans hy5
        clear hv hy5 q0 q1 q2 q3 s0 s1 s2 s3 HAND
        have hq := setRow_heap _ _ _ #[.slice j1 (R.and (ofR x)).i.length t1, .slice j2 (R.and (ofR x)).s.length t2, .slice j3 (R.and (ofR x)).b.length t3, .bool (R.and (ofR x)).odd] _ _ HB5.out
        have hrq := rgr_set (cs := #[.slice j1 (R.and (ofR x)).i.length t1, .slice j2 (R.and (ofR x)).s.length t2, .slice j3 (R.and (ofR x)).b.length t3, .bool (R.and (ofR x)).odd]) HV4.out HB5.out (by simp)
        have hgn : GoodR y2.heap.size (askL name (p.take (k + 1))) _ := ⟨_, hq, by rw [HST2.out]; exact hrq⟩
        have HGN := Lib.hid hgn
        have HT := Lib.hid ((setRow_other y5 y2.heap.size w.heap.size #[.slice j1 (R.and (ofR x)).i.length t1, .slice j2 (R.and (ofR x)).s.length t2, .slice j3 (R.and (ofR x)).b.length t3, .bool (R.and (ofR x)).odd] (by omega)).trans HT.out)
        have hxw := hxw.setRow (g := y2.heap.size) (by omega) #[.slice j1 (R.and (ofR x)).i.length t1, .slice j2 (R.and (ofR x)).s.length t2, .slice j3 (R.and (ofR x)).b.length t3, .bool (R.and (ofR x)).odd]
        clear hq hrq hgn
        generalize (R.and (ofR x)).i.length = m1 at *
        generalize (R.and (ofR x)).s.length = m2 at *
        generalize (R.and (ofR x)).b.length = m3 at *
        generalize (R.and (ofR x)).odd = mo at *
        generalize hy6 : y5.setRow y2.heap.size #[.slice j1 m1 t1, .slice j2 m2 t2, .slice j3 m3 t3, .bool mo] = y6 at *
        have HY6 := Lib.hid hy6
        clear hy6
        go_wp2_with (refine wpList_store_whole 83 (.tmp 6) (.tmp 33) rfl rfl y2.heap.size rfl #[.slice j1 m1 t1, .slice j2 m2 t2, .slice j3 m3 t3, .bool mo] rfl _ 83 HB5.out rfl info83s (by simp [Value.oneCell']) ?_; rw [HY6.out])
        go_roundw
        case rel => exact ⟨k + 1, hlt, by go_num, HGN, HT, hxw⟩
        case measure => simp [intOf]; omega
      · have hd : (x.name == name) = false := beq_eq_false_iff_ne.2 hnm
        have hne : ¬ strOf x.name = strOf name := fun e => hnm (strOf_inj.1 e)
        have hst2 : askL name (p.take (k + 1)) = R := by rw [HSTEP.out, if_neg hnm]
        have hgn : GoodR y2.heap.size (askL name (p.take (k + 1))) (wr.alloc (.cells #[.string (strOf x.name), .int .i64 x.op, .int .i64 x.v.k, .int .i64 x.v.n, .string (strOf x.v.s), .bool x.v.b, .slice sa x.set.length sc] 53)) := by
          obtain ⟨cs, hb5, hr5⟩ := hgood.out
          rw [hst2]
          exact ⟨cs, block_later hb5 hxa, hr5.ext hxa⟩
        have HGN := Lib.hid hgn
        have HT := Lib.hid (block_later HT.out hxa)
        have hxw := hx.trans hxa
        clear hnm hst2 hgn hgood hx hxa HSTEP
        go_wp2_with fail
        go_roundw
        case rel => exact ⟨k + 1, hlt, by go_num, HGN, HT, hxw⟩
        case measure => simp [intOf]; omega
    · obtain rfl : k = N := by omega
      have hI : decide ((k : Int) < (k : Int)) = false := decide_eq_false (by omega)
      have htk : p.take k = p := List.take_of_length_le (by rw [HN.out]; exact Nat.le_refl _)
      obtain ⟨cs, hb5, hr5⟩ := hgood.out
      rw [htk] at hr5
      obtain ⟨r1, e1, r2, e2, r3, e3, ee, _⟩ := hr5.ex
      cases ee
      have s0 := cell_of_row _ _ 0 _ _ _ hb5
      have s1 := cell_of_row _ _ 1 _ _ _ hb5
      have s2 := cell_of_row _ _ 2 _ _ _ hb5
      have s3 := cell_of_row _ _ 3 _ _ _ hb5
      have HR5 := Lib.hid hr5
      clear hb5 hr5 htk hgood
      generalize (askL name p).i.length = m1 at *
      generalize (askL name p).s.length = m2 at *
      generalize (askL name p).b.length = m3 at *
      generalize (askL name p).odd = mo at *
      go_wp2_with (refine wpList_store_whole 83 (.tmp 4) (.tmp 35) rfl rfl w.heap.size rfl #[.slice r1 m1 e1, .slice r2 m2 e2, .slice r3 m3 e3, .bool mo] rfl _ 83 HT.out rfl info83s (by simp [Value.oneCell']) ?_)
      have hq := setRow_heap _ _ _ #[.slice r1 m1 e1, .slice r2 m2 e2, .slice r3 m3 e3, .bool mo] _ _ HT.out
      have g0 := cell_of_row _ _ 0 _ _ _ hq
      have g1 := cell_of_row _ _ 1 _ _ _ hq
      have g2 := cell_of_row _ _ 2 _ _ _ hq
      have g3 := cell_of_row _ _ 3 _ _ _ hq
      refine bodyPost_ret (v := .tuple #[.agg #[.slice r1 m1 e1, .slice r2 m2 e2, .slice r3 m3 e3, .bool mo], .int .i64 0]) (by simp [results, Tryz.results56, go_sem, g0, g1, g2, g3]) rfl ⟨.agg #[.slice r1 m1 e1, .slice r2 m2 e2, .slice r3 m3 e3, .bool mo], rfl, ?_, (hx).setRow (Nat.le_refl _) _⟩
      exact rgr_set HR5.out HT.out (by simp)

theorem asked_any (w : World) (vp : Value) (p : List C) (name : List UInt8) (hp : PredR w vp p) (hok : ∀ c ∈ p, okC c) :
    Calls Tryz.prog 56 #[vp, .string (strOf name)] w fun e w' => ∃ v, e = .returned (.tuple #[v, .int .i64 (if mayP p then 0 else 30)]) ∧ RgR w' v (askedF p name) ∧ Ext w w' := by
  unfold askedF
  cases hm : mayP p with
  | false => exact asked_no w vp p name hp hm
  | true => exact asked_yes w vp p name hp hm hok
end Go.Proofs.YtabegbelkfhbcaaGreat

namespace Go.Proofs
open Go.Shelf
def Tryz.lays190_ren : Go.Shelf.Ren := ⟨fun | 190 => 54 | 125 => 75 | 258 => 77 | 128 => 115 | 129 => 116 | 302 => 119 | 303 => 120 | 304 => 121 | 305 => 122 | 306 => 123 | 307 => 124 | 308 => 125 | 309 => 126 | 310 => 127 | 333 => 144 | 329 => 139 | 330 => 140 | 334 => 145 | 335 => 146 | 336 => 147 | 344 => 157 | n => n, fun | 31 => 100 | 9 => 9 | 3 => 3 | 46 => 126 | 0 => 0 | 51 => 151 | 53 => 23 | 4 => 4 | 183 => 143 | 182 => 142 | 131 => 148 | 5 => 5 | 218 => 167 | 222 => 171 | 228 => 185 | 229 => 186 | n => n, fun | n => n⟩
theorem Tryz.lays190 : Go.Proofs.Lays.n190 Tryz.prog Tryz.lays190_ren := {
  mixed := by kernel_rfl
  f125 := Tryz.func75.trans (congrArg some (by kernel_rfl))
  f128 := Tryz.func115.trans (congrArg some (by kernel_rfl))
  f129 := Tryz.func116.trans (congrArg some (by kernel_rfl))
  f190 := Tryz.func54.trans (congrArg some (by kernel_rfl))
  f258 := Tryz.func77.trans (congrArg some (by kernel_rfl))
  f302 := Tryz.func119.trans (congrArg some (by kernel_rfl))
  f303 := Tryz.func120.trans (congrArg some (by kernel_rfl))
  f304 := Tryz.func121.trans (congrArg some (by kernel_rfl))
  f305 := Tryz.func122.trans (congrArg some (by kernel_rfl))
  f306 := Tryz.func123.trans (congrArg some (by kernel_rfl))
  f307 := Tryz.func124.trans (congrArg some (by kernel_rfl))
  f308 := Tryz.func125.trans (congrArg some (by kernel_rfl))
  f309 := Tryz.func126.trans (congrArg some (by kernel_rfl))
  f310 := Tryz.func127.trans (congrArg some (by kernel_rfl))
  f329 := Tryz.func139.trans (congrArg some (by kernel_rfl))
  f330 := Tryz.func140.trans (congrArg some (by kernel_rfl))
  f333 := Tryz.func144.trans (congrArg some (by kernel_rfl))
  f334 := Tryz.func145.trans (congrArg some (by kernel_rfl))
  f335 := Tryz.func146.trans (congrArg some (by kernel_rfl))
  f336 := Tryz.func147.trans (congrArg some (by kernel_rfl))
  f344 := Tryz.func157.trans (congrArg some (by kernel_rfl))
  t0 := Tryz.underlying0
  a0 := Tryz.isAgg0
  z0 := Tryz.sizeOf0
  v0 := Tryz.zeroValue0
  t3 := Tryz.underlying3
  a3 := Tryz.isAgg3
  z3 := Tryz.sizeOf3
  v3 := Tryz.zeroValue3
  t4 := Tryz.underlying4
  a4 := Tryz.isAgg4
  z4 := Tryz.sizeOf4
  v4 := Tryz.zeroValue4
  t5 := Tryz.underlying5
  a5 := Tryz.isAgg5
  z5 := Tryz.sizeOf5
  v5 := Tryz.zeroValue5
  t9 := Tryz.underlying9
  a9 := Tryz.isAgg9
  z9 := Tryz.sizeOf9
  v9 := Tryz.zeroValue9
  t31 := Tryz.underlying100
  a31 := Tryz.isAgg100
  z31 := Tryz.sizeOf100
  v31 := Tryz.zeroValue100
  t46 := Tryz.underlying126
  a46 := Tryz.isAgg126
  z46 := Tryz.sizeOf126
  v46 := Tryz.zeroValue126
  t51 := Tryz.underlying151
  a51 := Tryz.isAgg151
  z51 := Tryz.sizeOf151
  v51 := Tryz.zeroValue151
  t53 := Tryz.underlying23
  a53 := Tryz.isAgg23
  z53 := Tryz.sizeOf23
  v53 := Tryz.zeroValue23
  t131 := Tryz.underlying148
  a131 := Tryz.isAgg148
  z131 := Tryz.sizeOf148
  v131 := Tryz.zeroValue148
  t182 := Tryz.underlying142
  a182 := Tryz.isAgg142
  z182 := Tryz.sizeOf142
  v182 := Tryz.zeroValue142
  t183 := Tryz.underlying143
  a183 := Tryz.isAgg143
  z183 := Tryz.sizeOf143
  v183 := Tryz.zeroValue143
  t218 := Tryz.underlying167
  a218 := Tryz.isAgg167
  z218 := Tryz.sizeOf167
  v218 := Tryz.zeroValue167
  t222 := Tryz.underlying171
  a222 := Tryz.isAgg171
  z222 := Tryz.sizeOf171
  v222 := Tryz.zeroValue171
  t228 := Tryz.underlying185
  a228 := Tryz.isAgg185
  z228 := Tryz.sizeOf185
  v228 := Tryz.zeroValue185
  t229 := Tryz.underlying186
  a229 := Tryz.isAgg186
  z229 := Tryz.sizeOf186
  v229 := Tryz.zeroValue186 }
open Go.Sort Go.RowKit in
theorem Tryz.slices_Sort_string (blk off cap : Nat) (ss : List (List UInt8)) (w : World) (hH : Holds encStr w blk off ss.toArray) (hblk : blk < w.heap.size) (hsz : ss.length < 4611686018427387904) :
    Calls Tryz.prog 54 #[.slice (some ⟨blk, off, none⟩) ss.length cap] w fun e w' =>
      e = .returned (.tuple #[]) ∧ ∃ n os, w' = grow (putRow encStr (Sort.ahead w n) blk off (ss.mergeSort fun x y => decide (x ≤ y)).toArray) os := Any.slices_Sort_string Tryz.lays190 blk off cap ss w hH hblk hsz
open Go.RowKit Go.Sort in
theorem Tryz.slices_Sort_string_none (p : Option Addr) (cap : Nat) (w : World) :
    Calls Tryz.prog 54 #[.slice p 0 cap] w fun e w' => e = .returned (.tuple #[]) ∧ w' = w := Any.slices_Sort_string_none Tryz.lays190 p cap w
end Go.Proofs

namespace Go.Proofs.YtabegbelkfhbcaaGreat
open Go.RowKit Go.Sort

theorem lt_cmp (x y : List UInt8) : x < y ↔ Lib.compareBytes x y < 0 := by
  induction x generalizing y with
  | nil => cases y <;> simp [Lib.compareBytes]
  | cons a x ih =>
    cases y with
    | nil => simp [Lib.compareBytes]
    | cons b y =>
      simp only [Lib.compareBytes, List.cons_lt_cons_iff]
      by_cases h1 : a < b
      · simp [h1]
      · by_cases h2 : b < a
        · have hne : ¬ a = b := by intro e; rw [e] at h2; exact absurd h2 (UInt8.lt_irrefl b)
          simp [h1, h2, hne]
        · have he : a = b := UInt8.le_antisymm (UInt8.not_lt.1 h2) (UInt8.not_lt.1 h1)
          subst he
          simp [ih y]
theorem le_cmp (x y : List UInt8) : x ≤ y ↔ Lib.compareBytes x y ≤ 0 := by
  have h := lt_cmp y x
  have ha := wo_bytes.anti x y
  rw [← List.not_lt, h]
  omega
def stC (s : List UInt8) : Value := .string (strOf s)
theorem stC_enc : encStr = stC := rfl
theorem sort_list (l : List (List UInt8)) : (l.mergeSort fun x y => decide (x ≤ y)).Perm l ∧ (l.mergeSort fun x y => decide (x ≤ y)).Pairwise fun a b => Lib.compareBytes a b ≤ 0 := by
  refine ⟨List.mergeSort_perm _ _, ?_⟩
  have h := List.pairwise_mergeSort (le := fun x y : List UInt8 => decide (x ≤ y)) (fun a b c h1 h2 => by
    simp only [decide_eq_true_eq, le_cmp] at *
    exact wo_bytes.trans _ _ _ h1 h2) (fun a b => by
    have := wo_bytes.anti a b
    simp only [Bool.or_eq_true, decide_eq_true_eq, le_cmp]
    omega) l
  exact h.imp fun h => by simpa [le_cmp] using h
theorem putRow_map (w : World) (g : Nat) (l : List (List UInt8)) : putRow stC w g 0 l.toArray = putRow id w g 0 (l.map stC).toArray := by
  unfold putRow
  congr 1
  funext c
  unfold putCells
  congr 1
  funext k x
  simp only [List.size_toArray, List.length_map]
  split
  · rename_i h
    have hk : k - 0 < l.length := by omega
    rw [getElem!_pos _ _ (by simpa using hk), getElem!_pos _ _ (by simpa using hk)]
    simp
  · rfl
theorem holds_map {w : World} {g : Nat} {l : List (List UInt8)} (h : Holds id w g 0 (l.map stC).toArray) : Holds stC w g 0 l.toArray := by
  intro j hj
  have hj' : j < l.length := by simpa using hj
  have := h j (by simpa using hj')
  rw [getElem!_pos _ _ (by simpa using hj')] at this ⊢
  simpa using this

theorem sortSt_any (w : World) (base : Nat) (v : Value) (l : List (List UInt8)) (ho : w.ownsRow base 9 1 v l.length (l.map stC)) (hl : l.length ≤ 1000000) :
    Calls Tryz.prog 54 #[v] w fun e w' => e = .returned (.tuple #[]) ∧ ∃ l' : List (List UInt8), l'.Perm l ∧ (l'.Pairwise fun a b => Lib.compareBytes a b ≤ 0) ∧ w'.ownsRow base 9 1 v l.length (l'.map stC) ∧ w.grownBy w' v.ownBlock := by
  have ho' := ho
  rcases ho.2 with ⟨rfl, h0⟩ | ⟨g, cap, cur, rfl, hb, hg, hn, hm, hs, ht⟩
  · have hz : l = [] := List.length_eq_zero_iff.1 h0
    subst hz
    refine (Tryz.slices_Sort_string_none none 0 w).mono ?_
    rintro e w' ⟨rfl, rfl⟩
    exact ⟨rfl, [], List.Perm.refl _, List.Pairwise.nil, ho, ⟨rfl, rfl, rfl, Nat.le_refl _, fun _ _ _ => rfl⟩⟩
  · have hlt : g < w.heap.size := (Array.getElem?_eq_some_iff.1 hg).1
    obtain ⟨_, _, _, _, _, _, _, hH⟩ := own_holds ho
    refine (Tryz.slices_Sort_string g 0 cap l w (holds_map hH) hlt (by omega)).mono ?_
    rintro e w' ⟨rfl, n, os, rfl⟩
    obtain ⟨p1, p2⟩ := sort_list l
    refine ⟨rfl, _, p1, p2, ?_, ?_⟩
    · rw [stC_enc, putRow_map]
      exact own_put ho (by simp [p1.length_eq])
    · rw [stC_enc, putRow_map]
      exact grownBy_row _
end Go.Proofs.YtabegbelkfhbcaaGreat

namespace Go.Proofs.YtabegbelkfhbcaaGreat
open Go.RowKit Go.Sort

theorem zero9 : ∀ w, (zeroValue 9).run Tryz.prog w = .ok (.string ⟨#[]⟩) w := fun _ => by kernel_rfl
theorem st_flat (l : List (List UInt8)) : l.map stC = l.flatMap fun s => [stC s] := by
  induction l with
  | nil => rfl
  | cons a l ih => simp [ih]
theorem st_at {W : World} {b g n cap : Nat} {l : List (List UInt8)} (h : W.ownsRow b 9 1 (.slice (some ⟨g, 0, none⟩) n cap) n (l.map stC)) {k : Nat} (hk : k < l.length) (hn : k < n) : W.cell? ⟨g, k, none⟩ = some (.string (strOf l[k])) := by
  have h1 := Row.cellAt (Row.of_own h) (j := k) (u := stC l[k]) (by rw [List.getElem?_map, List.getElem?_eq_getElem hk]; rfl) (by omega)
  rw [Nat.zero_add] at h1
  exact h1

set_option maxRecDepth 100000 in
set_option maxHeartbeats 4000000 in
theorem compactSt_any (w : World) (base : Nat) (v : Value) (l : List (List UInt8)) (ho : w.ownsRow base 9 1 v l.length (l.map stC)) (hl : l.length ≤ 1000000) :
    Calls Tryz.prog 59 #[v] w fun e w' => ∃ v', e = .returned v' ∧ w'.ownsRow base 9 1 v' (compE l).length ((compE l).map stC) ∧ w.grownBy w' v.ownBlock ∧ v'.ownBlock = v.ownBlock := by
  by_cases h2 : l.length < 2
  · have hce : compE l = l := by
      match l, h2 with
      | [], _ => exact compE_nil
      | [x], _ => exact compE_one x
    rw [hce]
    obtain ⟨a, cap, rfl, hc, hm⟩ := Row.shape (own_row ho)
    have hd : decide ((l.length : Int) < 2) = true := decide_eq_true (by omega)
    have HO := Lib.hid ho
    clear ho hce
    generalize l.length = n at *
    go_enter Tryz.func59, Tryz.ntmps59
    go_wp2
    go_ret
    exact ⟨_, rfl, HO.out, ⟨rfl, rfl, rfl, Nat.le_refl _, fun _ _ _ => rfl⟩, rfl⟩
  · have hne : v ≠ .slice none 0 0 := by
      rintro rfl
      obtain ⟨_, _, e1, _, _⟩ := Row.shape (own_row ho)
      simp only [Value.slice.injEq] at e1
      omega
    rcases ho.2 with ⟨e0, _⟩ | ⟨g, cap, cur, rfl, hb, hg, hn, hm, hs, ht⟩
    · exact absurd e0 hne
    clear hne cur hg hs ht
    have hd : decide ((l.length : Int) < 2) = false := decide_eq_false (by omega)
    have HO := Lib.hid ho
    clear ho
    generalize hN : l.length = n at *
    have HN := Lib.hid hN
    clear hN
    go_enter Tryz.func59, Tryz.ntmps59
    go_wp2_with fail
    go_loopw [3] (fun i wr => ∃ k : Nat, 1 ≤ k ∧ k ≤ n ∧ i = .int .i64 k ∧ Hid (compE (l.take k) = l.take k) ∧ Hid (wr.ownsRow base 9 1 (.slice (some ⟨g, 0, none⟩) n cap) n (l.map stC)) ∧ Hid (w.grownBy wr (some g))) (fun i _ => n - (intOf i).toNat)
    case atStart =>
      refine ⟨1, Nat.le_refl _, by omega, rfl, ?_, HO, ⟨rfl, rfl, rfl, Nat.le_refl _, fun _ _ _ => rfl⟩⟩
      show compE (l.take 1) = l.take 1
      match l, HN.out with
      | [], _ => exact compE_nil
      | x :: r, _ => exact compE_one x
    case round =>
      obtain ⟨k, hk1, hk, rfl, hc, hown, hgr⟩ := hrel
      by_cases hlt : k < n
      · have hI : decide ((k : Int) < (n : Int)) = true := decide_eq_true (by omega)
        have k1 : k < l.length := by rw [HN.out]; exact hlt
        have k0 : k - 1 < l.length := by omega
        have f0 := st_at hown.out k1 hlt
        have g0 := st_at hown.out k0 (by omega)
        obtain ⟨E, hE⟩ : ∃ E : Bool, E = decide (l[k] = l[k - 1]) := ⟨_, rfl⟩
        have HE := Lib.hid hE
        clear hE
        have hi0 : (0 : Int) ≤ (k : Int) - 1 := by omega
        have hi1 : (k : Int) - 1 < (n : Int) := by omega
        have hi2 : ((k : Int) - 1).toNat = k - 1 := by omega
        go_upto_region 6 with fail
        go_cut [25] from 16 to 25 (fun v25 wx => v25 = .bool E ∧ ∃ q, wx = wr.drewN q)
        case first =>
          have HE2 : Hid (E = _) := HE.out
          clear HE
          generalize l[k] = x at *
          generalize l[k - 1] = y at *
          clear hc hown hgr HO HN
          by_cases hxy : x = y
          · have b1 : (x == y) = true := beq_iff_eq.2 hxy
            have he : E = true := by rw [HE2.out]; exact decide_eq_true hxy
            subst he
            clear hxy
            go_quiet (fail)
            go_wp2_with fail
            go_meet
            exact ⟨rfl, _, rfl⟩
          · have b1 : (x == y) = false := beq_eq_false_iff_ne.2 hxy
            have b2 : ¬ strOf x = strOf y := fun e => hxy (strOf_inj.1 e)
            have he : E = false := by rw [HE2.out]; exact decide_eq_false hxy
            subst he
            clear hxy
            go_quiet (fail)
            go_wp2_with fail
            go_meet
            exact ⟨rfl, _, rfl⟩
        case rest =>
          obtain ⟨rfl, q, rfl⟩ := hcut
          clear f0 g0 hi0 hi1 hi2
          obtain ⟨m, rfl⟩ : ∃ m, k = m + 1 := ⟨k - 1, by omega⟩
          have hct := compE_take (l := l) (n := m) k1
          cases E
          · have hne : l[m + 1] ≠ l[m] := of_decide_eq_false HE.out.symm
            have hc2 : Hid (compE (l.take (m + 1 + 1)) = l.take (m + 1 + 1)) := by
              show _ = _
              rw [hct, if_neg hne, hc.out, ← List.take_succ_eq_append_getElem k1]
            clear hct hne HE
            go_wp2_with fail
            go_roundw
            case rel => exact ⟨m + 2, by omega, by omega, by go_num, hc2, own_drewN q hown.out, grown_drewN q hgr.out⟩
            case measure => simp [intOf]; omega
          · have heq : l[m + 1] = l[m] := of_decide_eq_true HE.out.symm
            have hstart : Hid (CompInv l l (m + 1) (m + 1 + 1)) := CompInv.start k1 hc.out heq
            clear hct heq HE
            have hcapn : m + 1 < cap := by omega
            have hne : ¬ cap = m + 1 := by omega
            go_wp2_with fail
            obtain ⟨d, hd⟩ : ∃ d, d = n - (m + 1) := ⟨_, rfl⟩
            obtain ⟨ce, hce⟩ : ∃ ce, ce = cap - (m + 1) := ⟨_, rfl⟩
            rw [← hd, ← hce]
            have hd1 : m + 1 + d = n := by omega
            have HD1 := Lib.hid hd1
            have hmn : m + 1 + d ≤ n := by omega
            have hd2 : d ≤ 1000000 := by omega
            have hd3 : d ≤ ce := by omega
            have hq0 : m + 1 ≤ n := by omega
            clear hd hce hd1
            go_loopw [3, 5] (fun kk jj wr2 => ∃ (q j : Nat) (r : List (List UInt8)), 1 ≤ j ∧ j ≤ d ∧ q + 1 ≤ m + 1 + j ∧ kk = .int .i64 q ∧ jj = .int .i64 j ∧ Hid (CompInv l r q (m + 1 + j)) ∧ Hid (wr2.ownsRow base 9 1 (.slice (some ⟨g, 0, none⟩) n cap) n (r.map stC)) ∧ Hid (w.grownBy wr2 (some g))) (fun _ jj _ => d - (intOf jj).toNat)
            case atStart => exact ⟨m + 1, 1, l, Nat.le_refl _, by have := HD1.out; omega, by omega, rfl, rfl, hstart, own_drewN q hown.out, grown_drewN q hgr.out⟩
            case round =>
              clear hstart hown hgr hc hk1 hk
              obtain ⟨q, j, r, hj1, hj, hq, rfl, rfl, hinv, hown, hgr⟩ := hrel
              by_cases hlt2 : j < d
              · have hI2 : decide ((j : Int) < (d : Int)) = true := decide_eq_true (by omega)
                have hil : m + 1 + j < l.length := by rw [HN.out]; have := HD1.out; omega
                have k0 : m + 1 + j - 1 < l.length := by omega
                obtain ⟨r1, r2, er1, er2⟩ := hinv.out.at hil
                have hlr : r.length = n := by rw [hinv.out.len, HN.out]
                have f0 := st_at hown.out r1 (by omega)
                have g0 := st_at hown.out r2 (by omega)
                have hql : q < r.length := by omega
                have hqc := st_at hown.out hql (by omega)
                rw [er1] at f0
                rw [er2] at g0
                have eb : m + 1 + j - 1 = m + 1 + (j - 1) := by omega
                obtain ⟨E, hE⟩ : ∃ E : Bool, E = decide (l[m + 1 + j] = l[m + 1 + j - 1]'k0) := ⟨_, rfl⟩
                have HE := Lib.hid hE
                have hsame := fun h => hinv.out.same hil h
                have hnext := fun h => hinv.out.next hil h
                have HS := Lib.hid hsame
                have HX := Lib.hid hnext
                clear hsame hnext hE er1 er2 r1 r2
                generalize l[m + 1 + j] = x at *
                generalize l[m + 1 + j - 1]'k0 = y at *
                rw [eb] at g0
                have hlr2 : n ≤ r.length := by omega
                clear hinv hlr eb
                have hi0 : (0 : Int) ≤ (j : Int) - 1 := by omega
                have hi1 : (j : Int) - 1 < (d : Int) := by omega
                have hi2 : ((j : Int) - 1).toNat = j - 1 := by omega
                go_upto_region 11 with fail
                go_cut [44] from 35 to 44 (fun v44 wx => v44 = .bool (!E) ∧ ∃ p, wx = wr.drewN p)
                case first =>
                  have HE2 : Hid (E = _) := HE.out
                  clear HE HS HX hown hgr HO HN HD1 hqc
                  by_cases hxy : x = y
                  · have b1 : (x == y) = true := beq_iff_eq.2 hxy
                    have he : E = true := by rw [HE2.out]; exact decide_eq_true hxy
                    subst he
                    clear hxy
                    go_quiet (fail)
                    go_wp2_with fail
                    go_meet
                    exact ⟨rfl, _, rfl⟩
                  · have b1 : (x == y) = false := beq_eq_false_iff_ne.2 hxy
                    have b2 : ¬ strOf x = strOf y := fun e => hxy (strOf_inj.1 e)
                    have he : E = false := by rw [HE2.out]; exact decide_eq_false hxy
                    subst he
                    clear hxy
                    go_quiet (fail)
                    go_wp2_with fail
                    go_meet
                    exact ⟨rfl, _, rfl⟩
                case rest =>
                  obtain ⟨rfl, p, rfl⟩ := hcut
                  clear g0 hi0 hi1 hi2
                  cases E
                  · have hxy : x ≠ y := of_decide_eq_false HE.out.symm
                    have hinv2 := Lib.hid (HX.out hxy)
                    clear hxy HS HX HE
                    have hown2 := own_drewN p hown.out
                    rw [st_flat] at hown2
                    have hth := own_there hown2 q 1 (by omega)
                    have hset3 := own_set (fun s => [stC s]) (fun _ => rfl) hown2 q hql x
                    obtain ⟨wz, hwz⟩ : ∃ wz, (wr.drewN p).setCells g (q * 1) [stC x] = wz := ⟨_, rfl⟩
                    rw [hwz, ← st_flat] at hset3
                    have hwz2 : (wr.drewN p).setCell ⟨g, q, none⟩ (.string (strOf x)) = wz := by rw [← hwz, Nat.mul_one]; rfl
                    have HWZ := Lib.hid hwz2
                    have HS3 := Lib.hid hset3.1
                    have HG3 := Lib.hid hset3.2
                    have hxp : Ext wr (wr.drewN p) := (Ext.refl wr).drewN p
                    have f0 := hxp.cell f0
                    have hqc := hxp.cell hqc
                    have hfz : (wr.drewN p).frozen? ⟨g, q, none⟩ = false := by
                      have := (hth 0 (by decide)).2
                      rwa [Nat.mul_one, Nat.add_zero] at this
                    clear hwz hwz2 hset3 hown2 hth hxp
                    have hqn : q < n := by omega
                    go_upto_region 13 with fail
                    rw [HWZ.out]
                    go_wp2_with fail
                    go_roundw
                    case rel => exact ⟨q + 1, j + 1, r.set q x, by omega, hlt2, by omega, by go_num, by go_num, hinv2, HS3.out, (grown_drewN p hgr.out).trans HG3.out⟩
                    case measure => simp [intOf]; omega
                  · have hxy : x = y := of_decide_eq_true HE.out.symm
                    have hinv2 := Lib.hid (HS.out hxy)
                    clear hxy HS HX HE f0 hqc
                    go_wp2_with fail
                    go_roundw
                    case rel => exact ⟨q, j + 1, r, by omega, hlt2, by omega, rfl, by go_num, hinv2, own_drewN p hown.out, grown_drewN p hgr.out⟩
                    case measure => simp [intOf]; omega
              · obtain rfl : j = d := by omega
                have hI2 : decide ((j : Int) < (j : Int)) = false := decide_eq_false (by omega)
                have hdone := hinv.out
                rw [HD1.out, ← HN.out] at hdone
                obtain ⟨ht, hlen⟩ := hdone.done
                have hqn : q < n := by omega
                have hqc : ¬ cap = q := by omega
                have hqc2 : q ≤ cap := by omega
                have hcl := run_clear_tail hown.out 100 (.string ⟨#[]⟩) rfl (by simp [Value.cells, Value.oneCell']) Tryz.underlying100 zero9 q (cap - q) hqn
                have hfin := own_clear_tail hown.out (Nat.le_of_lt hqn) (.string ⟨#[]⟩) rfl
                have hres : Hid ((r.map stC).take (q * 1) = (compE l).map stC) := by show _ = _; rw [Nat.mul_one, ← List.map_take, ht]
                have HL := Lib.hid hlen
                have HF := Lib.hid hfin
                rw [Nat.mul_one] at hcl
                generalize hwz : wr.setCells g (q * 1) (Builtin.zeroCells (Value.string ⟨#[]⟩).cells (n - q)).toList = wz at *
                rw [Nat.mul_one] at hwz
                rw [hwz] at hcl
                clear ht hlen hfin hinv hdone hwz
                go_wp2_with fail
                go_ret
                refine ⟨_, rfl, ?_, hgr.out.trans HF.out.2, rfl⟩
                rw [HL.out, ← hres.out]
                exact HF.out.1
      · obtain rfl : k = n := by omega
        have hI : decide ((k : Int) < (k : Int)) = false := decide_eq_false (by omega)
        have hce : Hid (compE l = l) := by
          have h := hc.out
          rw [List.take_of_length_le (by rw [HN.out]; exact Nat.le_refl _)] at h
          exact h
        go_wp2_with fail
        go_ret
        refine ⟨_, rfl, ?_, hgr.out, rfl⟩
        rw [hce.out, HN.out]
        exact hown.out
end Go.Proofs.YtabegbelkfhbcaaGreat

namespace Go.Proofs.YtabegbelkfhbcaaGreat
open Go.RowKit Go.Sort

theorem info9t : (Tryz.prog.info? 9).map (fun i => (i.zero, i.size, i.bytes)) = some (some (.string ⟨#[]⟩), 1, 16) := by kernel_rfl
theorem st_row (w : World) (s : List UInt8) : Row (w.alloc (.cells #[.string (strOf s)] 9)) 1 (.slice (some ⟨w.heap.size, 0, none⟩) 1 1) 1 [stC s] :=
  Row.of_own (World.ownsRow_lit (base := w.heap.size) (e := 9) (size := 1) w #[.string (strOf s)] 1 (Nat.le_refl _) (by decide) rfl)
def nameC (c : C) : Value := stC c.name
theorem names_sorted {p : List C} {l' : List (List UInt8)} (h1 : l'.Perm (p.map C.name)) (h2 : l'.Pairwise fun a b => Lib.compareBytes a b ≤ 0) : compE l' = namesF p := by
  unfold namesF
  refine compL_sorted wo_bytes h1 h2 (fun _ _ _ _ => bytes_zero) fun a _ b _ => ?_
  rw [decide_eq_true_iff]
  exact ⟨fun h => by rw [h]; exact wo_bytes.refl b, bytes_zero⟩

set_option maxRecDepth 100000 in
set_option maxHeartbeats 8000000 in
theorem names_any (w : World) (vp : Value) (p : List C) (hp : PredR w vp p) (hl : p.length ≤ 100000) :
    Calls Tryz.prog 53 #[vp] w fun e w' => ∃ v, e = .returned v ∧ w'.ownsRow w.heap.size 9 1 v (namesF p).length ((namesF p).map stC) ∧ Ext w w' := by
  obtain ⟨a, cap, rfl, hc, hmx⟩ := hp.shape
  unfold maxLen at hmx
  have HP := Lib.hid hp
  clear hp
  generalize hN : p.length = N at *
  have HN := Lib.hid hN
  clear hN
  have H0 : Hid (w.ownsRow w.heap.size 9 1 (.slice none 0 0) 0 ((p.take 0).map nameC)) := ⟨rfl, .inl ⟨rfl, rfl⟩⟩
  go_enter Tryz.func53, Tryz.ntmps53
  go_wp2_with fail
  go_loopw [3, 8] (fun v i wr => ∃ k : Nat, k ≤ N ∧ i = .int .i64 k ∧ Hid (wr.ownsRow w.heap.size 9 1 v k ((p.take k).map nameC)) ∧ Ext w wr) (fun _ i _ => N - (intOf i).toNat)
  case atStart => exact ⟨0, Nat.zero_le _, rfl, H0, Ext.refl w⟩
  case round =>
    clear H0
    obtain ⟨k, hk, rfl, hown, hx⟩ := hrel
    by_cases hlt : k < N
    · have hI : decide ((k : Int) < (N : Int)) = true := decide_eq_true (by omega)
      have hkl : k < p.length := by rw [HN.out]; exact hlt
      obtain ⟨B, o, sa, sc, rfl, f0, f1, f2, f3, f4, f5, f6, hset⟩ := PredR.at (HP.out.ext hx) hkl
      have hstep : (p.take (k + 1)).map (nameC) = (p.take k).map (nameC) ++ [stC p[k].name] := by
        rw [List.take_succ_eq_append_getElem hkl, List.map_append]; rfl
      have HSTEP := Lib.hid hstep
      clear hstep hset
      generalize p[k] = x at *
      generalize x.set.length = xl at *
      obtain ⟨hxa, hX⟩ := boxes1 wr (.cells #[.string (strOf x.name), .int .i64 x.op, .int .i64 x.v.k, .int .i64 x.v.n, .string (strOf x.v.s), .bool x.v.b, .slice sa xl sc] 53)
      have x0 := cell_of_row _ _ 0 _ _ _ hX
      have hrow := st_row (wr.alloc (.cells #[.string (strOf x.name), .int .i64 x.op, .int .i64 x.v.k, .int .i64 x.v.n, .string (strOf x.v.s), .bool x.v.b, .slice sa xl sc] 53)) x.name
      rw [World.size_alloc] at hrow
      have hxb := hxa.alloc (.cells #[.string (strOf x.name)] 9)
      have ho := own_ext hown.out hxb
      have hx2 := hx.trans hxb
      have HROW := Lib.hid hrow
      have HOWN := Lib.hid ho
      have hbase := hx2.size
      clear hX hrow hxa hxb ho hown hx
      go_wp2_with (at_builtin; refine wpList_append_row 100 9 (.tmp 12) (.tmp 15) rfl w.heap.size _ 1 16 Tryz.underlying100 info9t rfl (by decide) rfl _ k ((p.take k).map nameC) rfl HOWN.out 1 [stC x.name] HROW.out (by intro u hu; rw [List.mem_singleton.1 hu]; rfl) (by omega) (by unfold maxLen; omega) hbase ?_; intro v' w' hown2 hg; have HO2 := Lib.hid hown2; have HX2 := Lib.hid (hx2.grown_none hg (own_base HOWN.out)); clear hown2 hg)
      go_roundw
      case rel => exact ⟨k + 1, hlt, by go_num, by show World.ownsRow _ _ _ _ _ _ _; rw [HSTEP.out]; exact HO2.out, HX2.out⟩
      case measure => simp [intOf]; omega
    · obtain rfl : k = N := by omega
      have hI : decide ((k : Int) < (k : Int)) = false := decide_eq_false (by omega)
      have htk : (p.take k).map (nameC) = (p.map C.name).map stC := by
        rw [List.take_of_length_le (by rw [HN.out]; exact Nat.le_refl _), List.map_map]; rfl
      have ho := hown.out
      rw [htk] at ho
      have hlen : (p.map C.name).length = k := by rw [List.length_map, HN.out]
      have ho2 := ho
      rw [← hlen] at ho2
      have hsort := sortSt_any wr w.heap.size _ (p.map C.name) ho2 (by omega)
      have hbase := own_base ho2
      have HS := Lib.hid hsort
      have HB := Lib.hid hbase
      have HLEN := Lib.hid hlen
      clear htk hown hlen ho ho2 hsort hbase
      go_wp2_with fail
      refine HS.out.mono ?_
      rintro e w2 ⟨rfl, l', q1, q2, q3, q4⟩
      have hl' : l'.length = (p.map C.name).length := q1.length_eq
      rw [← hl'] at q3
      have hcomp := compactSt_any w2 w.heap.size _ l' q3 (by rw [hl', HLEN.out]; omega)
      rw [names_sorted q1 q2] at hcomp
      have HC := Lib.hid hcomp
      have hx2 := hx.grown_none q4 HB.out
      clear hl' q1 q2 q3 q4 hcomp hx
      go_wp2_with fail
      refine HC.out.mono ?_
      rintro e w3 ⟨v', rfl, z1, z2, _⟩
      have hx3 := hx2.grown_none z2 HB.out
      have HZ := Lib.hid z1
      clear z1 z2 hx2
      go_wp2_with fail
      go_ret
      exact ⟨_, rfl, HZ.out, hx3⟩
end Go.Proofs.YtabegbelkfhbcaaGreat
