/- cmp.Or, the whole order of values.
slices.CompareFunc at values; the order of constraints.
The order of constraints; CompareFunc at constraints; Compare, Same.
slices.SortFunc, pdqsortCmpFunc, Clone, bits.Len at this dump, laid by the kit's lay-plain.
slices.Clone at values and at constraints.
slices.SortFunc at values.
DERIVED: THE SHELF's CONTRACTS AT THIS DUMP, IN PLAIN WORDS (tools/lay-plain.mjs out of 'YtlhbpflcffjhmaaGreatShQRaw.lean', which tools/lay-shelf.mjs wrote): THE SAME DECLARATIONS UNDER THE SAME YtlhbpflcffjhmaaGreatS: 'import', 'namespace', 'open', 'def', 'theorem' AND NOTHING ELSE: no command of the shelf's: FOR A HAND-IN. Each laying: the table of numbers ('.._ren') and one theorem, a field a fact of the dump's own or the kernel's comparison; each contract: ONE APPLICATION.
Rows of predicates: Clone, SortFunc by Compare.
What a constraint's region holds is what the constraint asks of a value. (Plain.)
A constraint's region holds a value just if the constraint does; examples match; what matches both overlaps. (Plain.)
An example matches both; what matches both overlaps. (Plain.) -/
import Derived.Shelf.SlSortCmp.NoneTotal
import Derived.Shelf.SlSortCmp.SmallK
import Derived.Shelf.SlicesE.Clone
import Derived.Shelf.Small.Bits
import Derived.Test.YtlhbpflcffjhmaaGreatProg
import Derived.Shelf.SlSortCmp.Whole1
import Derived.Test.YtlhbpflcffjhmaaGreatPk6
import Derived.Test.YtlhbpflcffjhmaaGreatPk4
import Derived.Test.YtlhbpflcffjhmaaGreatPk3
namespace Go.Proofs.YtlhbpflcffjhmaaGreat
open Go.RowKit

def orL : List Int → Int
  | [] => 0
  | x :: r => if x = 0 then orL r else x
theorem orL4 (a b c d : Int) : orL [a, b, c, d] = or2 a (or2 b (or2 c d)) := by
  simp only [orL, or2]
  (repeat' split) <;> simp_all
theorem orL_zero {l : List Int} {k : Nat} (hk : k < l.length) (h : l[k] = 0) : orL (l.drop k) = orL (l.drop (k + 1)) := by
  rw [List.drop_eq_getElem_cons hk, orL, if_pos h]
theorem orL_hit {l : List Int} {k : Nat} (hk : k < l.length) (h : l[k] ≠ 0) : orL (l.drop k) = l[k] := by
  rw [List.drop_eq_getElem_cons hk, orL, if_neg h]

set_option maxRecDepth 100000 in
set_option maxHeartbeats 2000000 in
theorem or_any (w : World) (v : Value) (l : List Int) (h : Row w 1 v l.length (l.map (Value.int .i64))) : Calls Tryz.prog 71 #[v] w fun e w' => e = .returned (.int .i64 (orL l)) ∧ w' = w := by
  obtain ⟨a, cap, rfl, hc, hm⟩ := Row.shape h
  unfold maxLen at hm
  generalize hn : l.length = n at *
  have HN := Lib.hid hn
  clear hn
  go_enter Tryz.func71, Tryz.ntmps71
  go_wp2_with fail
  go_loopw [5, 8] (fun _ i wr => ∃ k : Nat, k ≤ n ∧ i = .int .i64 k ∧ Hid (orL (l.drop k) = orL l) ∧ wr = w) (fun _ i _ => n - (intOf i).toNat)
  case atStart => exact ⟨0, Nat.zero_le _, rfl, rfl, rfl⟩
  case round =>
    obtain ⟨k, hk, rfl, hor, rfl⟩ := hrel
    by_cases hlt : k < n
    · have k1 : k < l.length := by rw [HN.out]; exact hlt
      have hI : decide ((k : Int) < (n : Int)) = true := decide_eq_true (by omega)
      obtain ⟨B, o, rfl, f0⟩ := Row.cell h (j := k) (u := .int .i64 l[k]) (by rw [List.getElem?_map, List.getElem?_eq_getElem k1]; rfl) (by omega)
      by_cases hz : l[k] = 0
      · have hnx : Hid (orL (l.drop (k + 1)) = orL l) := by show _ = _; rw [← orL_zero k1 hz, hor.out]
        rw [hz] at f0
        clear hz
        go_wp2_with fail
        go_roundw
        case rel => exact ⟨k + 1, hlt, by go_num, hnx, by first | rfl | trivial⟩
        case measure => simp [intOf]; omega
      · have hhit : Hid (orL l = l[k]) := by show _ = _; rw [← hor.out, orL_hit k1 hz]
        have hd : (l[k] != 0) = true := by simp [hz]
        have hd1 : (l[k] == 0) = false := beq_int_ne hz
        generalize l[k] = x at *
        replace hz := Lib.hid hz
        go_wp2_with fail
        go_ret
        exact ⟨by rw [hhit.out]; rfl, rfl⟩
    · obtain rfl : k = n := by omega
      have hI : decide ((k : Int) < (k : Int)) = false := decide_eq_false (by omega)
      have hz : Hid (orL l = 0) := by show _ = _; rw [← hor.out, ← HN.out, List.drop_length]; rfl
      go_wp2_with fail
      go_ret
      exact ⟨by rw [hz.out]; rfl, rfl⟩

/-- Worlds that grew and drew: a way in which memory may turn. -/
def GrewS : Rg.Step := ⟨Grew, Grew.refl, fun h k => Grew.trans h k, fun w => (Grew.refl w).drew⟩
def Rg.Fact.ints (l : List Int) : Rg.Fact GrewS := ⟨fun v w => Row w 1 v l.length (l.map (Value.int .i64)), fun _ _ _ hx h => Row.ext h hx.1⟩
theorem row_four (w : World) (a b c d : Int) : Row (w.alloc (.cells #[.int .i64 a, .int .i64 b, .int .i64 c, .int .i64 d] 3)) 1 (.slice (some ⟨w.heap.size, 0, none⟩) 4 4) [a, b, c, d].length ([a, b, c, d].map (Value.int .i64)) := by
  have := World.ownsRow_lit (base := w.heap.size) (e := 3) (size := 1) w #[.int .i64 a, .int .i64 b, .int .i64 c, .int .i64 d] 4 (Nat.le_refl _) (by decide) rfl
  exact Row.of_own this

set_option maxRecDepth 100000 in
set_option maxHeartbeats 4000000 in
theorem whole_any (w : World) (a b : V) :
    Calls Tryz.prog 74 #[.agg #[.int .i64 a.k, .int .i64 a.n, .string (strOf a.s), .bool a.b], .agg #[.int .i64 b.k, .int .i64 b.n, .string (strOf b.s), .bool b.b]] w
      fun e w' => e = .returned (.int .i64 (wholeV a b)) ∧ Grew w w' := by
  have hx0 : Grew w ((w.alloc (.cells #[.int .i64 a.k, .int .i64 a.n, .string (strOf a.s), .bool a.b] 61)).alloc (.cells #[.int .i64 b.k, .int .i64 b.n, .string (strOf b.s), .bool b.b] 61)) := ((Grew.refl w).alloc _).alloc _
  have hA : ((w.alloc (.cells #[.int .i64 a.k, .int .i64 a.n, .string (strOf a.s), .bool a.b] 61)).alloc (.cells #[.int .i64 b.k, .int .i64 b.n, .string (strOf b.s), .bool b.b] 61)).heap[w.heap.size]? = some (.cells #[.int .i64 a.k, .int .i64 a.n, .string (strOf a.s), .bool a.b] 61 (0, 0)) := by
    have h := heap_alloc_new w (.cells #[.int .i64 a.k, .int .i64 a.n, .string (strOf a.s), .bool a.b] 61)
    rw [((Ext.refl _).alloc _).block _ (Array.getElem?_eq_some_iff.1 h).1]; exact h
  have hN : ((w.alloc (.cells #[.int .i64 a.k, .int .i64 a.n, .string (strOf a.s), .bool a.b] 61)).alloc (.cells #[.int .i64 b.k, .int .i64 b.n, .string (strOf b.s), .bool b.b] 61)).heap[w.heap.size + 1]? = some (.cells #[.int .i64 b.k, .int .i64 b.n, .string (strOf b.s), .bool b.b] 61 (0, 0)) := by
    have h := heap_alloc_new (w.alloc (.cells #[.int .i64 a.k, .int .i64 a.n, .string (strOf a.s), .bool a.b] 61)) (.cells #[.int .i64 b.k, .int .i64 b.n, .string (strOf b.s), .bool b.b] 61)
    rw [World.size_alloc] at h; exact h
  have a0 := cell_of_row _ _ 0 _ _ _ hA
  have a1 := cell_of_row _ _ 1 _ _ _ hA
  have a2 := cell_of_row _ _ 2 _ _ _ hA
  have a3 := cell_of_row _ _ 3 _ _ _ hA
  have b0 := cell_of_row _ _ 0 _ _ _ hN
  have b1 := cell_of_row _ _ 1 _ _ _ hN
  have b2 := cell_of_row _ _ 2 _ _ _ hN
  have b3 := cell_of_row _ _ 3 _ _ _ hN
  have hres : wholeV a b = orL [cmpV a b, Lib.compareInt a.n b.n, Lib.compareBytes a.s b.s, cmpB a.b b.b] := by rw [orL4]; rfl
  have hcB : ∀ W, Calls Tryz.prog 61 #[.agg #[.int .i64 3, .int .i64 0, .string (strOf []), .bool a.b], .agg #[.int .i64 3, .int .i64 0, .string (strOf []), .bool b.b]] W fun e w' => e = .returned (.int .i64 (cmpB a.b b.b)) ∧ Grew W w' := fun W => compare_any W 3 0 3 0 [] [] a.b b.b
  rw [hres]
  clear hA hN hres
  go_enter Tryz.func74, Tryz.ntmps74
  go_upto_region 1 with fail
  generalize (w.alloc (.cells #[.int .i64 a.k, .int .i64 a.n, .string (strOf a.s), .bool a.b] 61)).alloc (.cells #[.int .i64 b.k, .int .i64 b.n, .string (strOf b.s), .bool b.b] 61) = wa at *
  refine Rg.wp_region_facts GrewS [Rg.Fact.eq _ (.agg #[.int .i64 a.k, .int .i64 a.n, .string (strOf a.s), .bool a.b]),
      Rg.Fact.eq _ (.agg #[.int .i64 b.k, .int .i64 b.n, .string (strOf b.s), .bool b.b]),
      Rg.Fact.eq _ (.int .i64 (cmpV a b)),
      Rg.Fact.eq _ (.pointer (some ⟨w.heap.size, 1, none⟩)),
      Rg.Fact.eq _ (.int .i64 a.n),
      Rg.Fact.eq _ (.pointer (some ⟨w.heap.size + 1, 1, none⟩)),
      Rg.Fact.eq _ (.int .i64 b.n),
      Rg.Fact.eq _ (.int .i64 (Lib.compareInt a.n b.n)),
      Rg.Fact.eq _ (.pointer (some ⟨w.heap.size, 2, none⟩)),
      Rg.Fact.eq _ (.string (strOf a.s)),
      Rg.Fact.eq _ (.pointer (some ⟨w.heap.size + 1, 2, none⟩)),
      Rg.Fact.eq _ (.string (strOf b.s)),
      Rg.Fact.eq _ (.int .i64 (Lib.compareBytes a.s b.s)),
      Rg.Fact.eq _ (.pointer (some ⟨w.heap.size, 3, none⟩)),
      Rg.Fact.eq _ (.bool a.b),
      Rg.Fact.eq _ (.agg #[.int .i64 3, .int .i64 0, .string (strOf []), .bool a.b]),
      Rg.Fact.eq _ (.pointer (some ⟨w.heap.size + 1, 3, none⟩)),
      Rg.Fact.eq _ (.bool b.b),
      Rg.Fact.eq _ (.agg #[.int .i64 3, .int .i64 0, .string (strOf []), .bool b.b]),
      Rg.Fact.eq _ (.int .i64 (cmpB a.b b.b)),
      Rg.Fact.ints [cmpV a b, Lib.compareInt a.n b.n, Lib.compareBytes a.s b.s, cmpB a.b b.b],
      Rg.Fact.eq _ (.int .i64 (orL [cmpV a b, Lib.compareInt a.n b.n, Lib.compareBytes a.s b.s, cmpB a.b b.b])),
      Rg.Fact.eq _ (.int .i64 (orL [cmpV a b, Lib.compareInt a.n b.n, Lib.compareBytes a.s b.s, cmpB a.b b.b]))]
    [[], [], [(0, 5), (1, 6)], [], [(3, 8)], [], [(5, 10)], [(4, 9), (6, 11)], [], [(8, 13)], [], [(10, 15)], [(9, 14), (11, 16)], [], [(13, 18)], [(14, 19)], [], [(16, 21)], [(17, 22)], [(15, 20), (18, 23)], [(2, 7), (7, 12), (12, 17), (19, 24)], [(20, 25)], [(21, 26)]]
    [(0, 5), (1, 6), (2, 7), (3, 8), (4, 9), (5, 10), (6, 11), (7, 12), (8, 13), (9, 14), (10, 15), (11, 16), (12, 17), (13, 18), (14, 19), (15, 20), (16, 21), (17, 22), (18, 23), (19, 24), (20, 25), (21, 26), (22, 4)] (by kernel_rfl) (by kernel_rfl) ?_ ?_
  · refine ⟨?_, ?_, ?_, ?_, ?_, ?_, ?_, ?_, ?_, ?_, ?_, ?_, ?_, ?_, ?_, ?_, ?_, ?_, ?_, ?_, ?_, ?_, ?_, trivial⟩
    · intro w1 hx1; change wpList _ _ _ _ _ _; have m0 := hx1.1.cell a0; have m1 := hx1.1.cell a1; have m2 := hx1.1.cell a2; have m3 := hx1.1.cell a3; go_wp2_with fail; exact ⟨rfl, GrewS.refl _, rfl, rfl⟩
    · intro w1 hx1; change wpList _ _ _ _ _ _; have m0 := hx1.1.cell b0; have m1 := hx1.1.cell b1; have m2 := hx1.1.cell b2; have m3 := hx1.1.cell b3; go_wp2_with fail; exact ⟨rfl, GrewS.refl _, rfl, rfl⟩
    · intro w1 hx1; rintro _ rfl; rintro _ rfl; change wpList _ _ _ _ _ _; go_wp2_with fail; refine (cmpV_any _ a b).mono ?_; rintro e w2 ⟨rfl, hx2⟩; go_wp2_with fail; exact ⟨rfl, hx2, rfl, rfl⟩
    · intro w1 hx1; change wpList _ _ _ _ _ _; go_wp2_with fail; exact ⟨rfl, GrewS.refl _, rfl, rfl⟩
    · intro w1 hx1; rintro _ rfl; change wpList _ _ _ _ _ _; have m := hx1.1.cell a1; go_wp2_with fail; exact ⟨rfl, GrewS.refl _, rfl, rfl⟩
    · intro w1 hx1; change wpList _ _ _ _ _ _; go_wp2_with fail; exact ⟨rfl, GrewS.refl _, rfl, rfl⟩
    · intro w1 hx1; rintro _ rfl; change wpList _ _ _ _ _ _; have m := hx1.1.cell b1; go_wp2_with fail; exact ⟨rfl, GrewS.refl _, rfl, rfl⟩
    · intro w1 hx1; rintro _ rfl; rintro _ rfl; change wpList _ _ _ _ _ _; go_wp2_with fail; refine (cmpint64_any _ _ _).mono ?_; rintro e w2 ⟨rfl, rfl⟩; go_wp2_with fail; exact ⟨rfl, GrewS.refl _, rfl, rfl⟩
    · intro w1 hx1; change wpList _ _ _ _ _ _; go_wp2_with fail; exact ⟨rfl, GrewS.refl _, rfl, rfl⟩
    · intro w1 hx1; rintro _ rfl; change wpList _ _ _ _ _ _; have m := hx1.1.cell a2; go_wp2_with fail; exact ⟨rfl, GrewS.refl _, rfl, rfl⟩
    · intro w1 hx1; change wpList _ _ _ _ _ _; go_wp2_with fail; exact ⟨rfl, GrewS.refl _, rfl, rfl⟩
    · intro w1 hx1; rintro _ rfl; change wpList _ _ _ _ _ _; have m := hx1.1.cell b2; go_wp2_with fail; exact ⟨rfl, GrewS.refl _, rfl, rfl⟩
    · intro w1 hx1; rintro _ rfl; rintro _ rfl; change wpList _ _ _ _ _ _; go_wp2_with fail; refine (cmpstr_any _ _ _).mono ?_; rintro e w2 ⟨rfl, rfl⟩; go_wp2_with fail; exact ⟨rfl, GrewS.refl _, rfl, rfl⟩
    · intro w1 hx1; change wpList _ _ _ _ _ _; go_wp2_with fail; exact ⟨rfl, GrewS.refl _, rfl, rfl⟩
    · intro w1 hx1; rintro _ rfl; change wpList _ _ _ _ _ _; have m := hx1.1.cell a3; go_wp2_with fail; exact ⟨rfl, GrewS.refl _, rfl, rfl⟩
    · intro w1 hx1; rintro _ rfl; change wpList _ _ _ _ _ _; go_wp2_with fail; refine (truth_any _ _).mono ?_; rintro e w2 ⟨rfl, hx2⟩; go_wp2_with fail; exact ⟨rfl, hx2, rfl, rfl⟩
    · intro w1 hx1; change wpList _ _ _ _ _ _; go_wp2_with fail; exact ⟨rfl, GrewS.refl _, rfl, rfl⟩
    · intro w1 hx1; rintro _ rfl; change wpList _ _ _ _ _ _; have m := hx1.1.cell b3; go_wp2_with fail; exact ⟨rfl, GrewS.refl _, rfl, rfl⟩
    · intro w1 hx1; rintro _ rfl; change wpList _ _ _ _ _ _; go_wp2_with fail; refine (truth_any _ _).mono ?_; rintro e w2 ⟨rfl, hx2⟩; go_wp2_with fail; exact ⟨rfl, hx2, rfl, rfl⟩
    · intro w1 hx1; rintro _ rfl; rintro _ rfl; change wpList _ _ _ _ _ _; go_wp2_with fail; refine (hcB _).mono ?_; rintro e w2 ⟨rfl, hx2⟩; go_wp2_with fail; exact ⟨rfl, hx2, rfl, rfl⟩
    · intro w1 hx1; rintro _ rfl; rintro _ rfl; rintro _ rfl; rintro _ rfl; change wpList _ _ _ _ _ _; have hr := row_four w1 (cmpV a b) (Lib.compareInt a.n b.n) (Lib.compareBytes a.s b.s) (cmpB a.b b.b); go_wp2_with fail; exact ⟨rfl, (Grew.refl w1).alloc _, rfl, hr⟩
    · intro w1 hx1; intro v25 h25; change wpList _ _ _ _ _ _; go_wp2_with fail; refine (or_any _ _ _ h25).mono ?_; rintro e w2 ⟨rfl, rfl⟩; go_wp2_with fail; exact ⟨rfl, GrewS.refl _, rfl, rfl⟩
    · intro w1 hx1; rintro _ rfl; change wpList _ _ _ _ _ _; exact Rg.ob_assign _ rfl rfl rfl rfl rfl
  · intro w1 hx1; rintro _ rfl; rintro _ rfl; rintro _ rfl; rintro _ rfl; rintro _ rfl; rintro _ rfl; rintro _ rfl; rintro _ rfl; rintro _ rfl; rintro _ rfl; rintro _ rfl; rintro _ rfl; rintro _ rfl; rintro _ rfl; rintro _ rfl; rintro _ rfl; rintro _ rfl; rintro _ rfl; rintro _ rfl; rintro _ rfl; intro v25 h25; rintro _ rfl; rintro _ rfl; refine depsThen_nil ?_; dsimp only; simp only [Act.put, List.setIfInBounds_toArray, List.set_cons_zero, List.set_cons_succ]
    replace h25 : (Rg.Fact.ints [cmpV a b, Lib.compareInt a.n b.n, Lib.compareBytes a.s b.s, cmpB a.b b.b]).p v25 w1 := h25
    go_wp2_with fail
    go_ret
    exact ⟨rfl, hx0.trans hx1⟩
end Go.Proofs.YtlhbpflcffjhmaaGreat

namespace Go.Proofs.YtlhbpflcffjhmaaGreat
open Go.RowKit

theorem cmpL_step {α : Type} {cf : α → α → Int} {l m : List α} {k : Nat} (h1 : k < l.length) (h2 : k < m.length) (h : cf l[k] m[k] = 0) : cmpL cf (l.drop k) (m.drop k) = cmpL cf (l.drop (k + 1)) (m.drop (k + 1)) := by
  rw [List.drop_eq_getElem_cons h1, List.drop_eq_getElem_cons h2, cmpL, if_pos h]
theorem cmpL_stop {α : Type} {cf : α → α → Int} {l m : List α} {k : Nat} (h1 : k < l.length) (h2 : k < m.length) (h : cf l[k] m[k] ≠ 0) : cmpL cf (l.drop k) (m.drop k) = cf l[k] m[k] := by
  rw [List.drop_eq_getElem_cons h1, List.drop_eq_getElem_cons h2, cmpL, if_neg h]
theorem cmpL_more {α : Type} {cf : α → α → Int} {l m : List α} {k : Nat} (h1 : k < l.length) (h2 : m.length ≤ k) : cmpL cf (l.drop k) (m.drop k) = 1 := by
  rw [List.drop_eq_getElem_cons h1, List.drop_eq_nil_of_le h2, cmpL]
theorem cmpL_less {α : Type} {cf : α → α → Int} {l m : List α} {k : Nat} (h1 : l.length ≤ k) (h2 : k < m.length) : cmpL cf (l.drop k) (m.drop k) = -1 := by
  rw [List.drop_eq_getElem_cons h2, List.drop_eq_nil_of_le h1, cmpL]
theorem cmpL_same {α : Type} {cf : α → α → Int} {l m : List α} {k : Nat} (h1 : l.length ≤ k) (h2 : m.length ≤ k) : cmpL cf (l.drop k) (m.drop k) = 0 := by
  rw [List.drop_eq_nil_of_le h2, List.drop_eq_nil_of_le h1, cmpL]

set_option maxRecDepth 100000 in
set_option maxHeartbeats 4000000 in
theorem cmpf122_any (w : World) (v1 v2 : Value) (l m : List V) (h1 : SetR w v1 l) (h2 : SetR w v2 m) (g : Nat) (cb : Array Value) (cf : V → V → Int) (eg : ∀ args w, (callFunc g args).run Tryz.prog w = .ok (.enter g args) w)
    (hc : ∀ (W : World) (x y : V), Calls Tryz.prog g (#[.agg #[.int .i64 x.k, .int .i64 x.n, .string (strOf x.s), .bool x.b], .agg #[.int .i64 y.k, .int .i64 y.n, .string (strOf y.s), .bool y.b]] ++ cb) W fun e W' => e = .returned (.int .i64 (cf x y)) ∧ Grew W W') :
    Calls Tryz.prog 75 #[v1, v2, .func (.func g) #[] cb] w fun e w' => e = .returned (.int .i64 (cmpL cf l m)) ∧ Grew w w' := by
  obtain ⟨a1, cap1, rfl, hc1, hm1⟩ := Row.shape h1
  obtain ⟨a2, cap2, rfl, hc2, hm2⟩ := Row.shape h2
  unfold maxLen at hm1 hm2
  generalize hn1 : l.length = n1 at *
  generalize hn2 : m.length = n2 at *
  have HN1 := Lib.hid hn1
  have HN2 := Lib.hid hn2
  clear hn1 hn2
  have HC := Lib.hid hc
  clear hc
  go_enter Tryz.func75, Tryz.ntmps75
  go_wp2_with fail
  go_loopw [7, 8, 9, 10, 13] (fun _ _ _ _ i wr => ∃ k : Nat, k ≤ n1 ∧ k ≤ n2 ∧ i = .int .i64 k ∧ Hid (cmpL cf (l.drop k) (m.drop k) = cmpL cf l m) ∧ Grew w wr) (fun _ _ _ _ i _ => n1 - (intOf i).toNat)
  case atStart => exact ⟨0, Nat.zero_le _, Nat.zero_le _, rfl, rfl, Grew.refl w⟩
  case round =>
    obtain ⟨k, hk, hkm, rfl, hcm, hx⟩ := hrel
    by_cases hlt : k < n1
    · have k1 : k < l.length := by rw [HN1.out]; exact hlt
      have hI : decide ((k : Int) < (n1 : Int)) = true := decide_eq_true (by omega)
      obtain ⟨B1, o1, rfl, f0, f1, f2, f3⟩ := SetR.at (h1.ext hx.1) k1
      by_cases hlm : k < n2
      · have k2 : k < m.length := by rw [HN2.out]; exact hlm
        have hI2 : decide ((n2 : Int) ≤ (k : Int)) = false := decide_eq_false (by omega)
        obtain ⟨B2, o2, rfl, g0, g1, g2, g3⟩ := SetR.at (h2.ext hx.1) k2
        have hcall := fun W => HC.out W l[k] m[k]
        have hst : cf l[k] m[k] = 0 → cmpL cf (l.drop (k + 1)) (m.drop (k + 1)) = cmpL cf l m := fun h => by rw [← cmpL_step k1 k2 h, hcm.out]
        have hsp : cf l[k] m[k] ≠ 0 → cmpL cf l m = cf l[k] m[k] := fun h => by rw [← hcm.out, cmpL_stop k1 k2 h]
        generalize l[k] = x at *
        generalize m[k] = y at *
        have hxb : ∀ o : Obj, Grew w (wr.alloc o) := fun o => hx.alloc o
        have q0 := ((Ext.refl wr).alloc (.cells #[.int .i64 x.k, .int .i64 x.n, .string (strOf x.s), .bool x.b] 61)).cell g0
        have q1 := ((Ext.refl wr).alloc (.cells #[.int .i64 x.k, .int .i64 x.n, .string (strOf x.s), .bool x.b] 61)).cell g1
        have q2 := ((Ext.refl wr).alloc (.cells #[.int .i64 x.k, .int .i64 x.n, .string (strOf x.s), .bool x.b] 61)).cell g2
        have q3 := ((Ext.refl wr).alloc (.cells #[.int .i64 x.k, .int .i64 x.n, .string (strOf x.s), .bool x.b] 61)).cell g3
        by_cases hz : cf x y = 0
        · have hres := Lib.hid (hst hz)
          rw [hz] at hcall
          have HCALL := Lib.hid hcall
          clear hz hst hsp hcall
          go_wp2_with (go_at_fn g; refine (HCALL.out _).mono ?_; rintro e w3 ⟨rfl, hx3⟩)
          go_roundw
          case rel => exact ⟨k + 1, hlt, hlm, by go_num, hres, (((hx.alloc _).alloc _).trans hx3)⟩
          case measure => simp [intOf]; omega
        · have hres := Lib.hid (hsp hz)
          have hd : (cf x y != 0) = true := by simp [hz]
          have hd1 := beq_int_ne hz
          generalize cf x y = r at *
          have HCALL := Lib.hid hcall
          clear hz hst hsp hcall
          go_wp2_with (go_at_fn g; refine (HCALL.out _).mono ?_; rintro e w3 ⟨rfl, hx3⟩)
          go_ret
          exact ⟨by rw [hres.out]; rfl, (((hx.alloc _).alloc _).trans hx3)⟩
      · obtain rfl : k = n2 := by omega
        have hI2 : decide ((k : Int) ≤ (k : Int)) = true := decide_eq_true (by omega)
        have hres : Hid (cmpL cf l m = 1) := by show _ = _; rw [← hcm.out, cmpL_more k1 (by rw [HN2.out]; omega)]
        generalize l[k] = x at *
        go_wp2_with fail
        go_ret
        exact ⟨by rw [hres.out]; rfl, hx.alloc _⟩
    · obtain rfl : k = n1 := by omega
      have hI : decide ((k : Int) < (k : Int)) = false := decide_eq_false (by omega)
      by_cases hlm : k < n2
      · have hI2 : decide ((k : Int) < (n2 : Int)) = true := decide_eq_true (by omega)
        have hres : Hid (cmpL cf l m = -1) := by show _ = _; rw [← hcm.out, cmpL_less (by rw [HN1.out]; omega) (by rw [HN2.out]; exact hlm)]
        go_wp2_with fail
        go_ret
        exact ⟨by rw [hres.out]; rfl, hx⟩
      · have hI2 : decide ((k : Int) < (n2 : Int)) = false := decide_eq_false (by omega)
        have hres : Hid (cmpL cf l m = 0) := by show _ = _; rw [← hcm.out, cmpL_same (by rw [HN1.out]; omega) (by rw [HN2.out]; omega)]
        go_wp2_with fail
        go_ret
        exact ⟨by rw [hres.out]; rfl, hx⟩
end Go.Proofs.YtlhbpflcffjhmaaGreat

namespace Go.Proofs.YtlhbpflcffjhmaaGreat
open Go.RowKit

theorem ent121 : ∀ args w, (callFunc 74 args).run Tryz.prog w = .ok (.enter 74 args) w := enters_of Tryz.func74 (by kernel_rfl) rfl
theorem ent65 : ∀ args w, (callFunc 31 args).run Tryz.prog w = .ok (.enter 31 args) w := enters_of Tryz.func31 (by kernel_rfl) rfl

set_option maxRecDepth 100000 in
set_option maxHeartbeats 4000000 in
theorem order_any (w : World) (a b : C) (sa : Option Addr) (ca : Nat) (sb : Option Addr) (cb : Nat) (ha : SetR w (.slice sa a.set.length ca) a.set) (hb : SetR w (.slice sb b.set.length cb) b.set) :
    Calls Tryz.prog 31 #[.agg #[.string (strOf a.name), .int .i64 a.op, .int .i64 a.v.k, .int .i64 a.v.n, .string (strOf a.v.s), .bool a.v.b, .slice sa a.set.length ca], .agg #[.string (strOf b.name), .int .i64 b.op, .int .i64 b.v.k, .int .i64 b.v.n, .string (strOf b.v.s), .bool b.v.b, .slice sb b.set.length cb]] w fun e w' => e = .returned (.int .i64 (orderC a b)) ∧ Grew w w' := by
  have hx0 : Grew w ((w.alloc (.cells #[.string (strOf a.name), .int .i64 a.op, .int .i64 a.v.k, .int .i64 a.v.n, .string (strOf a.v.s), .bool a.v.b, .slice sa a.set.length ca] 64)).alloc (.cells #[.string (strOf b.name), .int .i64 b.op, .int .i64 b.v.k, .int .i64 b.v.n, .string (strOf b.v.s), .bool b.v.b, .slice sb b.set.length cb] 64)) := ((Grew.refl w).alloc _).alloc _
  have hA : CBox ((w.alloc (.cells #[.string (strOf a.name), .int .i64 a.op, .int .i64 a.v.k, .int .i64 a.v.n, .string (strOf a.v.s), .bool a.v.b, .slice sa a.set.length ca] 64)).alloc (.cells #[.string (strOf b.name), .int .i64 b.op, .int .i64 b.v.k, .int .i64 b.v.n, .string (strOf b.v.s), .bool b.v.b, .slice sb b.set.length cb] 64)) w.heap.size a sa ca := (CBox.mk (heap_alloc_new _ _) (ha.ext ((Ext.refl w).alloc _))).ext ((Ext.refl _).alloc _)
  have hN : ((w.alloc (.cells #[.string (strOf a.name), .int .i64 a.op, .int .i64 a.v.k, .int .i64 a.v.n, .string (strOf a.v.s), .bool a.v.b, .slice sa a.set.length ca] 64)).alloc (.cells #[.string (strOf b.name), .int .i64 b.op, .int .i64 b.v.k, .int .i64 b.v.n, .string (strOf b.v.s), .bool b.v.b, .slice sb b.set.length cb] 64)).heap[w.heap.size + 1]? = some (.cells #[.string (strOf b.name), .int .i64 b.op, .int .i64 b.v.k, .int .i64 b.v.n, .string (strOf b.v.s), .bool b.v.b, .slice sb b.set.length cb] 64 (0, 0)) := by
    have h := heap_alloc_new (w.alloc (.cells #[.string (strOf a.name), .int .i64 a.op, .int .i64 a.v.k, .int .i64 a.v.n, .string (strOf a.v.s), .bool a.v.b, .slice sa a.set.length ca] 64)) (.cells #[.string (strOf b.name), .int .i64 b.op, .int .i64 b.v.k, .int .i64 b.v.n, .string (strOf b.v.s), .bool b.v.b, .slice sb b.set.length cb] 64)
    rw [World.size_alloc] at h; exact h
  have hB : CBox ((w.alloc (.cells #[.string (strOf a.name), .int .i64 a.op, .int .i64 a.v.k, .int .i64 a.v.n, .string (strOf a.v.s), .bool a.v.b, .slice sa a.set.length ca] 64)).alloc (.cells #[.string (strOf b.name), .int .i64 b.op, .int .i64 b.v.k, .int .i64 b.v.n, .string (strOf b.v.s), .bool b.v.b, .slice sb b.set.length cb] 64)) (w.heap.size + 1) b sb cb := ⟨hN, hb.ext hx0.1⟩
  obtain ⟨a0, a1, a2, a3, a4, a5, a6⟩ := hA.cell
  obtain ⟨b0, b1, b2, b3, b4, b5, b6⟩ := hB.cell
  have has := hA.s
  have hbs := hB.s
  have hres : orderC a b = orL [Lib.compareBytes a.name b.name, Lib.compareInt a.op b.op, wholeV a.v b.v, cmpL wholeV a.set b.set] := by rw [orL4]; rfl
  have hcB : ∀ W, Ext ((w.alloc (.cells #[.string (strOf a.name), .int .i64 a.op, .int .i64 a.v.k, .int .i64 a.v.n, .string (strOf a.v.s), .bool a.v.b, .slice sa a.set.length ca] 64)).alloc (.cells #[.string (strOf b.name), .int .i64 b.op, .int .i64 b.v.k, .int .i64 b.v.n, .string (strOf b.v.s), .bool b.v.b, .slice sb b.set.length cb] 64)) W → Calls Tryz.prog 75 #[.slice sa a.set.length ca, .slice sb b.set.length cb, .func (.func 74) #[] #[]] W fun e w' => e = .returned (.int .i64 (cmpL wholeV a.set b.set)) ∧ Grew W w' :=
    fun W hW => cmpf122_any W _ _ a.set b.set (has.ext hW) (hbs.ext hW) 74 #[] wholeV ent121 (fun W x y => whole_any W x y)
  rw [hres]
  clear hA hN hB hres ha hb has hbs
  generalize cmpL wholeV a.set b.set = r4 at *
  go_enter Tryz.func31, Tryz.ntmps31
  go_upto_region 1 with fail
  generalize (w.alloc (.cells #[.string (strOf a.name), .int .i64 a.op, .int .i64 a.v.k, .int .i64 a.v.n, .string (strOf a.v.s), .bool a.v.b, .slice sa a.set.length ca] 64)).alloc (.cells #[.string (strOf b.name), .int .i64 b.op, .int .i64 b.v.k, .int .i64 b.v.n, .string (strOf b.v.s), .bool b.v.b, .slice sb b.set.length cb] 64) = wa at *
  generalize a.set.length = na at *
  generalize b.set.length = nb at *
  refine Rg.wp_region_facts GrewS [Rg.Fact.eq _ (.pointer (some ⟨w.heap.size, 0, none⟩)),
      Rg.Fact.eq _ (.string (strOf a.name)),
      Rg.Fact.eq _ (.pointer (some ⟨w.heap.size + 1, 0, none⟩)),
      Rg.Fact.eq _ (.string (strOf b.name)),
      Rg.Fact.eq _ (.int .i64 (Lib.compareBytes a.name b.name)),
      Rg.Fact.eq _ (.pointer (some ⟨w.heap.size, 1, none⟩)),
      Rg.Fact.eq _ (.int .i64 a.op),
      Rg.Fact.eq _ (.pointer (some ⟨w.heap.size + 1, 1, none⟩)),
      Rg.Fact.eq _ (.int .i64 b.op),
      Rg.Fact.eq _ (.int .i64 (Lib.compareInt a.op b.op)),
      Rg.Fact.eq _ (.pointer (some ⟨w.heap.size, 2, none⟩)),
      Rg.Fact.eq _ (.agg #[.int .i64 a.v.k, .int .i64 a.v.n, .string (strOf a.v.s), .bool a.v.b]),
      Rg.Fact.eq _ (.pointer (some ⟨w.heap.size + 1, 2, none⟩)),
      Rg.Fact.eq _ (.agg #[.int .i64 b.v.k, .int .i64 b.v.n, .string (strOf b.v.s), .bool b.v.b]),
      Rg.Fact.eq _ (.int .i64 (wholeV a.v b.v)),
      Rg.Fact.eq _ (.pointer (some ⟨w.heap.size, 6, none⟩)),
      Rg.Fact.eq _ (.slice sa na ca),
      Rg.Fact.eq _ (.pointer (some ⟨w.heap.size + 1, 6, none⟩)),
      Rg.Fact.eq _ (.slice sb nb cb),
      Rg.Fact.eq _ (.int .i64 r4),
      Rg.Fact.ints [Lib.compareBytes a.name b.name, Lib.compareInt a.op b.op, wholeV a.v b.v, r4],
      Rg.Fact.eq _ (.int .i64 (orL [Lib.compareBytes a.name b.name, Lib.compareInt a.op b.op, wholeV a.v b.v, r4])),
      Rg.Fact.eq _ (.int .i64 (orL [Lib.compareBytes a.name b.name, Lib.compareInt a.op b.op, wholeV a.v b.v, r4]))]
    [[], [(0, 5)], [], [(2, 7)], [(1, 6), (3, 8)], [], [(5, 10)], [], [(7, 12)], [(6, 11), (8, 13)], [], [(10, 15)], [], [(12, 17)], [(11, 16), (13, 18)], [], [(15, 20)], [], [(17, 22)], [(16, 21), (18, 23)], [(4, 9), (9, 14), (14, 19), (19, 24)], [(20, 25)], [(21, 26)]]
    [(0, 5), (1, 6), (2, 7), (3, 8), (4, 9), (5, 10), (6, 11), (7, 12), (8, 13), (9, 14), (10, 15), (11, 16), (12, 17), (13, 18), (14, 19), (15, 20), (16, 21), (17, 22), (18, 23), (19, 24), (20, 25), (21, 26), (22, 4)] (by kernel_rfl) (by kernel_rfl) ?_ ?_
  · refine ⟨?_, ?_, ?_, ?_, ?_, ?_, ?_, ?_, ?_, ?_, ?_, ?_, ?_, ?_, ?_, ?_, ?_, ?_, ?_, ?_, ?_, ?_, ?_, trivial⟩
    · intro w1 hx1; change wpList _ _ _ _ _ _; go_wp2_with fail; exact ⟨rfl, GrewS.refl _, rfl, rfl⟩
    · intro w1 hx1; rintro _ rfl; change wpList _ _ _ _ _ _; have m := hx1.1.cell a0; go_wp2_with fail; exact ⟨rfl, GrewS.refl _, rfl, rfl⟩
    · intro w1 hx1; change wpList _ _ _ _ _ _; go_wp2_with fail; exact ⟨rfl, GrewS.refl _, rfl, rfl⟩
    · intro w1 hx1; rintro _ rfl; change wpList _ _ _ _ _ _; have m := hx1.1.cell b0; go_wp2_with fail; exact ⟨rfl, GrewS.refl _, rfl, rfl⟩
    · intro w1 hx1; rintro _ rfl; rintro _ rfl; change wpList _ _ _ _ _ _; go_wp2_with fail; refine (cmpstr_any _ _ _).mono ?_; rintro e w2 ⟨rfl, rfl⟩; go_wp2_with fail; exact ⟨rfl, GrewS.refl _, rfl, rfl⟩
    · intro w1 hx1; change wpList _ _ _ _ _ _; go_wp2_with fail; exact ⟨rfl, GrewS.refl _, rfl, rfl⟩
    · intro w1 hx1; rintro _ rfl; change wpList _ _ _ _ _ _; have m := hx1.1.cell a1; go_wp2_with fail; exact ⟨rfl, GrewS.refl _, rfl, rfl⟩
    · intro w1 hx1; change wpList _ _ _ _ _ _; go_wp2_with fail; exact ⟨rfl, GrewS.refl _, rfl, rfl⟩
    · intro w1 hx1; rintro _ rfl; change wpList _ _ _ _ _ _; have m := hx1.1.cell b1; go_wp2_with fail; exact ⟨rfl, GrewS.refl _, rfl, rfl⟩
    · intro w1 hx1; rintro _ rfl; rintro _ rfl; change wpList _ _ _ _ _ _; go_wp2_with fail; refine (cmpint_any _ _ _).mono ?_; rintro e w2 ⟨rfl, rfl⟩; go_wp2_with fail; exact ⟨rfl, GrewS.refl _, rfl, rfl⟩
    · intro w1 hx1; change wpList _ _ _ _ _ _; go_wp2_with fail; exact ⟨rfl, GrewS.refl _, rfl, rfl⟩
    · intro w1 hx1; rintro _ rfl; change wpList _ _ _ _ _ _; have m0 := hx1.1.cell a2; have m1 := hx1.1.cell a3; have m2 := hx1.1.cell a4; have m3 := hx1.1.cell a5; go_wp2_with fail; exact ⟨rfl, GrewS.refl _, rfl, rfl⟩
    · intro w1 hx1; change wpList _ _ _ _ _ _; go_wp2_with fail; exact ⟨rfl, GrewS.refl _, rfl, rfl⟩
    · intro w1 hx1; rintro _ rfl; change wpList _ _ _ _ _ _; have m0 := hx1.1.cell b2; have m1 := hx1.1.cell b3; have m2 := hx1.1.cell b4; have m3 := hx1.1.cell b5; go_wp2_with fail; exact ⟨rfl, GrewS.refl _, rfl, rfl⟩
    · intro w1 hx1; rintro _ rfl; rintro _ rfl; change wpList _ _ _ _ _ _; go_wp2_with fail; refine (whole_any _ a.v b.v).mono ?_; rintro e w2 ⟨rfl, hx2⟩; go_wp2_with fail; exact ⟨rfl, hx2, rfl, rfl⟩
    · intro w1 hx1; change wpList _ _ _ _ _ _; go_wp2_with fail; exact ⟨rfl, GrewS.refl _, rfl, rfl⟩
    · intro w1 hx1; rintro _ rfl; change wpList _ _ _ _ _ _; have m := hx1.1.cell a6; go_wp2_with fail; exact ⟨rfl, GrewS.refl _, rfl, rfl⟩
    · intro w1 hx1; change wpList _ _ _ _ _ _; go_wp2_with fail; exact ⟨rfl, GrewS.refl _, rfl, rfl⟩
    · intro w1 hx1; rintro _ rfl; change wpList _ _ _ _ _ _; have m := hx1.1.cell b6; go_wp2_with fail; exact ⟨rfl, GrewS.refl _, rfl, rfl⟩
    · intro w1 hx1; rintro _ rfl; rintro _ rfl; change wpList _ _ _ _ _ _; go_wp2_with fail; refine (hcB _ hx1.1).mono ?_; rintro e w2 ⟨rfl, hx2⟩; go_wp2_with fail; exact ⟨rfl, hx2, rfl, rfl⟩
    · intro w1 hx1; rintro _ rfl; rintro _ rfl; rintro _ rfl; rintro _ rfl; change wpList _ _ _ _ _ _; have hr := row_four w1 (Lib.compareBytes a.name b.name) (Lib.compareInt a.op b.op) (wholeV a.v b.v) r4; go_wp2_with fail; exact ⟨rfl, (Grew.refl w1).alloc _, rfl, hr⟩
    · intro w1 hx1; intro v25 h25; change wpList _ _ _ _ _ _; go_wp2_with fail; refine (or_any _ _ _ h25).mono ?_; rintro e w2 ⟨rfl, rfl⟩; go_wp2_with fail; exact ⟨rfl, GrewS.refl _, rfl, rfl⟩
    · intro w1 hx1; rintro _ rfl; change wpList _ _ _ _ _ _; exact Rg.ob_assign _ rfl rfl rfl rfl rfl
  · intro w1 hx1; rintro _ rfl; rintro _ rfl; rintro _ rfl; rintro _ rfl; rintro _ rfl; rintro _ rfl; rintro _ rfl; rintro _ rfl; rintro _ rfl; rintro _ rfl; rintro _ rfl; rintro _ rfl; rintro _ rfl; rintro _ rfl; rintro _ rfl; rintro _ rfl; rintro _ rfl; rintro _ rfl; rintro _ rfl; rintro _ rfl; intro v25 h25; rintro _ rfl; rintro _ rfl; refine depsThen_nil ?_; dsimp only; simp only [Act.put, List.setIfInBounds_toArray, List.set_cons_zero, List.set_cons_succ]
    replace h25 : (Rg.Fact.ints [Lib.compareBytes a.name b.name, Lib.compareInt a.op b.op, wholeV a.v b.v, r4]).p v25 w1 := h25
    go_wp2_with fail
    go_ret
    exact ⟨rfl, hx0.trans hx1⟩

set_option maxRecDepth 100000 in
set_option maxHeartbeats 4000000 in
theorem cmpf64_any (w : World) (v1 v2 : Value) (l m : List C) (h1 : PredR w v1 l) (h2 : PredR w v2 m) (g : Nat) (cb : Array Value) (cf : C → C → Int) (eg : ∀ args w, (callFunc g args).run Tryz.prog w = .ok (.enter g args) w)
    (hc : ∀ (W : World) (x y : C) (sx : Option Addr) (cx : Nat) (sy : Option Addr) (cy : Nat), SetR W (.slice sx x.set.length cx) x.set → SetR W (.slice sy y.set.length cy) y.set → Calls Tryz.prog g (#[.agg #[.string (strOf x.name), .int .i64 x.op, .int .i64 x.v.k, .int .i64 x.v.n, .string (strOf x.v.s), .bool x.v.b, .slice sx x.set.length cx], .agg #[.string (strOf y.name), .int .i64 y.op, .int .i64 y.v.k, .int .i64 y.v.n, .string (strOf y.v.s), .bool y.v.b, .slice sy y.set.length cy]] ++ cb) W fun e W' => e = .returned (.int .i64 (cf x y)) ∧ Grew W W') :
    Calls Tryz.prog 30 #[v1, v2, .func (.func g) #[] cb] w fun e w' => e = .returned (.int .i64 (cmpL cf l m)) ∧ Grew w w' := by
  obtain ⟨a1, cap1, rfl, hc1, hm1⟩ := h1.shape
  obtain ⟨a2, cap2, rfl, hc2, hm2⟩ := h2.shape
  unfold maxLen at hm1 hm2
  generalize hn1 : l.length = n1 at *
  generalize hn2 : m.length = n2 at *
  have HN1 := Lib.hid hn1
  have HN2 := Lib.hid hn2
  clear hn1 hn2
  have HC := Lib.hid hc
  clear hc
  go_enter Tryz.func30, Tryz.ntmps30
  go_wp2_with fail
  go_loopw [7, 8, 9, 10, 13] (fun _ _ _ _ i wr => ∃ k : Nat, k ≤ n1 ∧ k ≤ n2 ∧ i = .int .i64 k ∧ Hid (cmpL cf (l.drop k) (m.drop k) = cmpL cf l m) ∧ Grew w wr) (fun _ _ _ _ i _ => n1 - (intOf i).toNat)
  case atStart => exact ⟨0, Nat.zero_le _, Nat.zero_le _, rfl, rfl, Grew.refl w⟩
  case round =>
    obtain ⟨k, hk, hkm, rfl, hcm, hx⟩ := hrel
    by_cases hlt : k < n1
    · have k1 : k < l.length := by rw [HN1.out]; exact hlt
      have hI : decide ((k : Int) < (n1 : Int)) = true := decide_eq_true (by omega)
      obtain ⟨B1, o1, sx, cx, rfl, f0, f1, f2, f3, f4, f5, f6, fs⟩ := (h1.ext hx.1).at k1
      by_cases hlm : k < n2
      · have k2 : k < m.length := by rw [HN2.out]; exact hlm
        have hI2 : decide ((n2 : Int) ≤ (k : Int)) = false := decide_eq_false (by omega)
        obtain ⟨B2, o2, sy, cy, rfl, g0, g1, g2, g3, g4, g5, g6, gs⟩ := (h2.ext hx.1).at k2
        have hcall := fun W (hw : Ext wr W) => HC.out W l[k] m[k] sx cx sy cy (fs.ext hw) (gs.ext hw)
        clear fs gs
        have hst : cf l[k] m[k] = 0 → cmpL cf (l.drop (k + 1)) (m.drop (k + 1)) = cmpL cf l m := fun h => by rw [← cmpL_step k1 k2 h, hcm.out]
        have hsp : cf l[k] m[k] ≠ 0 → cmpL cf l m = cf l[k] m[k] := fun h => by rw [← hcm.out, cmpL_stop k1 k2 h]
        generalize l[k] = x at *
        generalize m[k] = y at *
        have hxb : ∀ o : Obj, Grew w (wr.alloc o) := fun o => hx.alloc o
        have q0 := ((Ext.refl wr).alloc (.cells #[.string (strOf x.name), .int .i64 x.op, .int .i64 x.v.k, .int .i64 x.v.n, .string (strOf x.v.s), .bool x.v.b, .slice sx x.set.length cx] 64)).cell g0
        have q1 := ((Ext.refl wr).alloc (.cells #[.string (strOf x.name), .int .i64 x.op, .int .i64 x.v.k, .int .i64 x.v.n, .string (strOf x.v.s), .bool x.v.b, .slice sx x.set.length cx] 64)).cell g1
        have q2 := ((Ext.refl wr).alloc (.cells #[.string (strOf x.name), .int .i64 x.op, .int .i64 x.v.k, .int .i64 x.v.n, .string (strOf x.v.s), .bool x.v.b, .slice sx x.set.length cx] 64)).cell g2
        have q3 := ((Ext.refl wr).alloc (.cells #[.string (strOf x.name), .int .i64 x.op, .int .i64 x.v.k, .int .i64 x.v.n, .string (strOf x.v.s), .bool x.v.b, .slice sx x.set.length cx] 64)).cell g3
        have q4 := ((Ext.refl wr).alloc (.cells #[.string (strOf x.name), .int .i64 x.op, .int .i64 x.v.k, .int .i64 x.v.n, .string (strOf x.v.s), .bool x.v.b, .slice sx x.set.length cx] 64)).cell g4
        have q5 := ((Ext.refl wr).alloc (.cells #[.string (strOf x.name), .int .i64 x.op, .int .i64 x.v.k, .int .i64 x.v.n, .string (strOf x.v.s), .bool x.v.b, .slice sx x.set.length cx] 64)).cell g5
        have q6 := ((Ext.refl wr).alloc (.cells #[.string (strOf x.name), .int .i64 x.op, .int .i64 x.v.k, .int .i64 x.v.n, .string (strOf x.v.s), .bool x.v.b, .slice sx x.set.length cx] 64)).cell g6
        have hxx : Ext wr ((wr.alloc (.cells #[.string (strOf x.name), .int .i64 x.op, .int .i64 x.v.k, .int .i64 x.v.n, .string (strOf x.v.s), .bool x.v.b, .slice sx x.set.length cx] 64)).alloc (.cells #[.string (strOf y.name), .int .i64 y.op, .int .i64 y.v.k, .int .i64 y.v.n, .string (strOf y.v.s), .bool y.v.b, .slice sy y.set.length cy] 64)) := ((Ext.refl wr).alloc _).alloc _
        by_cases hz : cf x y = 0
        · have hres := Lib.hid (hst hz)
          rw [hz] at hcall
          have HCALL := Lib.hid hcall
          clear hz hst hsp hcall
          go_wp2_with (go_at_fn g; refine (HCALL.out _ hxx).mono ?_; rintro e w3 ⟨rfl, hx3⟩)
          go_roundw
          case rel => exact ⟨k + 1, hlt, hlm, by go_num, hres, (((hx.alloc _).alloc _).trans hx3)⟩
          case measure => simp [intOf]; omega
        · have hres := Lib.hid (hsp hz)
          have hd : (cf x y != 0) = true := by simp [hz]
          have hd1 := beq_int_ne hz
          generalize cf x y = r at *
          have HCALL := Lib.hid hcall
          clear hz hst hsp hcall
          go_wp2_with (go_at_fn g; refine (HCALL.out _ hxx).mono ?_; rintro e w3 ⟨rfl, hx3⟩)
          go_ret
          exact ⟨by rw [hres.out]; rfl, (((hx.alloc _).alloc _).trans hx3)⟩
      · obtain rfl : k = n2 := by omega
        have hI2 : decide ((k : Int) ≤ (k : Int)) = true := decide_eq_true (by omega)
        have hres : Hid (cmpL cf l m = 1) := by show _ = _; rw [← hcm.out, cmpL_more k1 (by rw [HN2.out]; omega)]
        generalize l[k] = x at *
        go_wp2_with fail
        go_ret
        exact ⟨by rw [hres.out]; rfl, hx.alloc _⟩
    · obtain rfl : k = n1 := by omega
      have hI : decide ((k : Int) < (k : Int)) = false := decide_eq_false (by omega)
      by_cases hlm : k < n2
      · have hI2 : decide ((k : Int) < (n2 : Int)) = true := decide_eq_true (by omega)
        have hres : Hid (cmpL cf l m = -1) := by show _ = _; rw [← hcm.out, cmpL_less (by rw [HN1.out]; omega) (by rw [HN2.out]; exact hlm)]
        go_wp2_with fail
        go_ret
        exact ⟨by rw [hres.out]; rfl, hx⟩
      · have hI2 : decide ((k : Int) < (n2 : Int)) = false := decide_eq_false (by omega)
        have hres : Hid (cmpL cf l m = 0) := by show _ = _; rw [← hcm.out, cmpL_same (by rw [HN1.out]; omega) (by rw [HN2.out]; omega)]
        go_wp2_with fail
        go_ret
        exact ⟨by rw [hres.out]; rfl, hx⟩

set_option maxRecDepth 100000 in
set_option maxHeartbeats 2000000 in
theorem pcompare_any (w : World) (v1 v2 : Value) (p q : List C) (h1 : PredR w v1 p) (h2 : PredR w v2 q) : Calls Tryz.prog 8 #[v1, v2] w fun e w' => e = .returned (.int .i64 (cmpP p q)) ∧ Grew w w' := by
  have hcon := cmpf64_any w v1 v2 p q h1 h2 31 #[] orderC ent65 (fun W x y sx cx sy cy hx hy => order_any W x y sx cx sy cy hx hy)
  obtain ⟨a1, c1, rfl, -, -⟩ := h1.shape
  obtain ⟨a2, c2, rfl, -, -⟩ := h2.shape
  show Calls Tryz.prog 8 _ w fun e w' => e = .returned (.int .i64 (cmpL orderC p q)) ∧ Grew w w'
  generalize cmpL orderC p q = r at *
  go_enter Tryz.func8, Tryz.ntmps8
  go_wp2_with (go_at_call 30; refine hcon.mono ?_; rintro e w' ⟨rfl, hx⟩)
  go_ret
  exact ⟨rfl, hx⟩

set_option maxRecDepth 100000 in
set_option maxHeartbeats 2000000 in
theorem psame_any (w : World) (v1 v2 : Value) (p q : List C) (h1 : PredR w v1 p) (h2 : PredR w v2 q) : Calls Tryz.prog 66 #[v1, v2] w fun e w' => e = .returned (.bool (decide (cmpP p q = 0))) ∧ Grew w w' := by
  have hcon := pcompare_any w v1 v2 p q h1 h2
  obtain ⟨a1, c1, rfl, -, -⟩ := h1.shape
  obtain ⟨a2, c2, rfl, -, -⟩ := h2.shape
  generalize cmpP p q = r at *
  rw [← beq_dec]
  go_enter Tryz.func66, Tryz.ntmps66
  go_wp2_with (go_at_call 8; refine hcon.mono ?_; rintro e w' ⟨rfl, hx⟩)
  go_ret
  exact ⟨rfl, hx⟩
end Go.Proofs.YtlhbpflcffjhmaaGreat

namespace Go.Proofs
open Go.Shelf
def Tryz.sortV_ren : Go.Shelf.Ren := ⟨fun | 6 => 60 | 15 => 105 | 14 => 104 | 28 => 146 | 29 => 147 | 20 => 138 | 21 => 139 | 22 => 140 | 23 => 141 | 24 => 142 | 25 => 143 | 26 => 144 | 27 => 145 | 46 => 193 | 47 => 194 | 48 => 195 | 49 => 196 | 50 => 197 | 57 => 227 | n => n, fun | 22 => 62 | 24 => 61 | 25 => 101 | 3 => 3 | 39 => 41 | 0 => 0 | 53 => 178 | 55 => 180 | 4 => 4 | 46 => 172 | 45 => 171 | 50 => 87 | 5 => 5 | 9 => 9 | 66 => 205 | 70 => 209 | 76 => 230 | 77 => 231 | n => n, fun | n => n⟩
theorem Tryz.sortV : Go.Proofs.SlLaysF0.n6 Tryz.prog Tryz.sortV_ren := {
  mixed := by kernel_rfl
  f6 := ⟨Tryz.f60.name, by decide, Tryz.func60.trans (congrArg some (by kernel_rfl))⟩
  f14 := ⟨Tryz.f104.name, by decide, Tryz.func104.trans (congrArg some (by kernel_rfl))⟩
  f15 := Tryz.func105.trans (congrArg some (by kernel_rfl))
  f20 := ⟨Tryz.f138.name, by decide, Tryz.func138.trans (congrArg some (by kernel_rfl))⟩
  f21 := ⟨Tryz.f139.name, by decide, Tryz.func139.trans (congrArg some (by kernel_rfl))⟩
  f22 := ⟨Tryz.f140.name, by decide, Tryz.func140.trans (congrArg some (by kernel_rfl))⟩
  f23 := ⟨Tryz.f141.name, by decide, Tryz.func141.trans (congrArg some (by kernel_rfl))⟩
  f24 := ⟨Tryz.f142.name, by decide, Tryz.func142.trans (congrArg some (by kernel_rfl))⟩
  f25 := ⟨Tryz.f143.name, by decide, Tryz.func143.trans (congrArg some (by kernel_rfl))⟩
  f26 := ⟨Tryz.f144.name, by decide, Tryz.func144.trans (congrArg some (by kernel_rfl))⟩
  f27 := ⟨Tryz.f145.name, by decide, Tryz.func145.trans (congrArg some (by kernel_rfl))⟩
  f28 := Tryz.func146.trans (congrArg some (by kernel_rfl))
  f29 := Tryz.func147.trans (congrArg some (by kernel_rfl))
  f46 := ⟨Tryz.f193.name, by decide, Tryz.func193.trans (congrArg some (by kernel_rfl))⟩
  f47 := Tryz.func194.trans (congrArg some (by kernel_rfl))
  f48 := Tryz.func195.trans (congrArg some (by kernel_rfl))
  f49 := ⟨Tryz.f196.name, by decide, Tryz.func196.trans (congrArg some (by kernel_rfl))⟩
  f50 := ⟨Tryz.f197.name, by decide, Tryz.func197.trans (congrArg some (by kernel_rfl))⟩
  f57 := ⟨Tryz.f227.name, by decide, Tryz.func227.trans (congrArg some (by kernel_rfl))⟩
  t0 := Tryz.underlying0
  a0 := Tryz.isAgg0
  z0 := Tryz.sizeOf0
  v0 := Tryz.zeroValue0
  t3 := Tryz.underlying3
  a3 := Tryz.isAgg3
  z3 := Tryz.sizeOf3
  v3 := Tryz.zeroValue3
  t4 := Tryz.underlying4
  a4 := Tryz.isAgg4
  z4 := Tryz.sizeOf4
  v4 := Tryz.zeroValue4
  t5 := Tryz.underlying5
  a5 := Tryz.isAgg5
  z5 := Tryz.sizeOf5
  v5 := Tryz.zeroValue5
  t9 := Tryz.underlying9
  a9 := Tryz.isAgg9
  z9 := Tryz.sizeOf9
  v9 := Tryz.zeroValue9
  t22 := Tryz.underlying62
  a22 := Tryz.isAgg62
  z22 := Tryz.sizeOf62
  v22 := Tryz.zeroValue62
  t25 := Tryz.underlying101
  a25 := Tryz.isAgg101
  z25 := Tryz.sizeOf101
  v25 := Tryz.zeroValue101
  t39 := Tryz.underlying41
  a39 := Tryz.isAgg41
  z39 := Tryz.sizeOf41
  v39 := Tryz.zeroValue41
  t45 := Tryz.underlying171
  a45 := Tryz.isAgg171
  z45 := Tryz.sizeOf171
  v45 := Tryz.zeroValue171
  t46 := Tryz.underlying172
  a46 := Tryz.isAgg172
  z46 := Tryz.sizeOf172
  v46 := Tryz.zeroValue172
  t50 := Tryz.underlying87
  a50 := Tryz.isAgg87
  z50 := Tryz.sizeOf87
  v50 := Tryz.zeroValue87
  t53 := Tryz.underlying178
  a53 := Tryz.isAgg178
  z53 := Tryz.sizeOf178
  v53 := Tryz.zeroValue178
  t55 := Tryz.underlying180
  a55 := Tryz.isAgg180
  z55 := Tryz.sizeOf180
  v55 := Tryz.zeroValue180
  t66 := Tryz.underlying205
  a66 := Tryz.isAgg205
  z66 := Tryz.sizeOf205
  v66 := Tryz.zeroValue205
  t70 := Tryz.underlying209
  a70 := Tryz.isAgg209
  z70 := Tryz.sizeOf209
  v70 := Tryz.zeroValue209
  t76 := Tryz.underlying230
  a76 := Tryz.isAgg230
  z76 := Tryz.sizeOf230
  v76 := Tryz.zeroValue230
  t77 := Tryz.underlying231
  a77 := Tryz.isAgg231
  z77 := Tryz.sizeOf231
  v77 := Tryz.zeroValue231 }
def Tryz.sortC_ren : Go.Shelf.Ren := ⟨fun | 14 => 149 | 20 => 198 | 21 => 199 | 22 => 200 | 23 => 201 | 24 => 202 | 25 => 203 | 26 => 204 | 27 => 205 | 46 => 228 | 47 => 194 | 48 => 195 | 49 => 229 | 50 => 230 | 15 => 105 | 57 => 236 | 28 => 146 | 29 => 147 | n => n, fun | 24 => 64 | 22 => 24 | 3 => 3 | 25 => 65 | 4 => 4 | 0 => 0 | 46 => 172 | 45 => 171 | 50 => 87 | 66 => 205 | 39 => 41 | 55 => 180 | 70 => 209 | 76 => 230 | 77 => 231 | 53 => 178 | 5 => 5 | 9 => 9 | n => n, fun | n => n⟩
theorem Tryz.sortC : Go.Proofs.SlLaysF0.n14 Tryz.prog Tryz.sortC_ren := {
  mixed := by kernel_rfl
  f14 := ⟨Tryz.f149.name, by decide, Tryz.func149.trans (congrArg some (by kernel_rfl))⟩
  f15 := Tryz.func105.trans (congrArg some (by kernel_rfl))
  f20 := ⟨Tryz.f198.name, by decide, Tryz.func198.trans (congrArg some (by kernel_rfl))⟩
  f21 := ⟨Tryz.f199.name, by decide, Tryz.func199.trans (congrArg some (by kernel_rfl))⟩
  f22 := ⟨Tryz.f200.name, by decide, Tryz.func200.trans (congrArg some (by kernel_rfl))⟩
  f23 := ⟨Tryz.f201.name, by decide, Tryz.func201.trans (congrArg some (by kernel_rfl))⟩
  f24 := ⟨Tryz.f202.name, by decide, Tryz.func202.trans (congrArg some (by kernel_rfl))⟩
  f25 := ⟨Tryz.f203.name, by decide, Tryz.func203.trans (congrArg some (by kernel_rfl))⟩
  f26 := ⟨Tryz.f204.name, by decide, Tryz.func204.trans (congrArg some (by kernel_rfl))⟩
  f27 := ⟨Tryz.f205.name, by decide, Tryz.func205.trans (congrArg some (by kernel_rfl))⟩
  f28 := Tryz.func146.trans (congrArg some (by kernel_rfl))
  f29 := Tryz.func147.trans (congrArg some (by kernel_rfl))
  f46 := ⟨Tryz.f228.name, by decide, Tryz.func228.trans (congrArg some (by kernel_rfl))⟩
  f47 := Tryz.func194.trans (congrArg some (by kernel_rfl))
  f48 := Tryz.func195.trans (congrArg some (by kernel_rfl))
  f49 := ⟨Tryz.f229.name, by decide, Tryz.func229.trans (congrArg some (by kernel_rfl))⟩
  f50 := ⟨Tryz.f230.name, by decide, Tryz.func230.trans (congrArg some (by kernel_rfl))⟩
  f57 := ⟨Tryz.f236.name, by decide, Tryz.func236.trans (congrArg some (by kernel_rfl))⟩
  t0 := Tryz.underlying0
  a0 := Tryz.isAgg0
  z0 := Tryz.sizeOf0
  v0 := Tryz.zeroValue0
  t3 := Tryz.underlying3
  a3 := Tryz.isAgg3
  z3 := Tryz.sizeOf3
  v3 := Tryz.zeroValue3
  t4 := Tryz.underlying4
  a4 := Tryz.isAgg4
  z4 := Tryz.sizeOf4
  v4 := Tryz.zeroValue4
  t5 := Tryz.underlying5
  a5 := Tryz.isAgg5
  z5 := Tryz.sizeOf5
  v5 := Tryz.zeroValue5
  t9 := Tryz.underlying9
  a9 := Tryz.isAgg9
  z9 := Tryz.sizeOf9
  v9 := Tryz.zeroValue9
  t22 := Tryz.underlying24
  a22 := Tryz.isAgg24
  z22 := Tryz.sizeOf24
  v22 := Tryz.zeroValue24
  t25 := Tryz.underlying65
  a25 := Tryz.isAgg65
  z25 := Tryz.sizeOf65
  v25 := Tryz.zeroValue65
  t39 := Tryz.underlying41
  a39 := Tryz.isAgg41
  z39 := Tryz.sizeOf41
  v39 := Tryz.zeroValue41
  t45 := Tryz.underlying171
  a45 := Tryz.isAgg171
  z45 := Tryz.sizeOf171
  v45 := Tryz.zeroValue171
  t46 := Tryz.underlying172
  a46 := Tryz.isAgg172
  z46 := Tryz.sizeOf172
  v46 := Tryz.zeroValue172
  t50 := Tryz.underlying87
  a50 := Tryz.isAgg87
  z50 := Tryz.sizeOf87
  v50 := Tryz.zeroValue87
  t53 := Tryz.underlying178
  a53 := Tryz.isAgg178
  z53 := Tryz.sizeOf178
  v53 := Tryz.zeroValue178
  t55 := Tryz.underlying180
  a55 := Tryz.isAgg180
  z55 := Tryz.sizeOf180
  v55 := Tryz.zeroValue180
  t66 := Tryz.underlying205
  a66 := Tryz.isAgg205
  z66 := Tryz.sizeOf205
  v66 := Tryz.zeroValue205
  t70 := Tryz.underlying209
  a70 := Tryz.isAgg209
  z70 := Tryz.sizeOf209
  v70 := Tryz.zeroValue209
  t76 := Tryz.underlying230
  a76 := Tryz.isAgg230
  z76 := Tryz.sizeOf230
  v76 := Tryz.zeroValue230
  t77 := Tryz.underlying231
  a77 := Tryz.isAgg231
  z77 := Tryz.sizeOf231
  v77 := Tryz.zeroValue231 }
def Tryz.cloneV_ren : Go.Shelf.Ren := ⟨fun | 41 => 59 | n => n, fun | 22 => 62 | 23 => 61 | 4 => 4 | n => n, fun | n => n⟩
theorem Tryz.cloneV : Go.Proofs.SlLaysE0.n41 Tryz.prog Tryz.cloneV_ren := {
  mixed := by kernel_rfl
  f41 := ⟨Tryz.f59.name, by decide, Tryz.func59.trans (congrArg some (by kernel_rfl))⟩
  t4 := Tryz.underlying4
  a4 := Tryz.isAgg4
  z4 := Tryz.sizeOf4
  v4 := Tryz.zeroValue4
  t22 := Tryz.underlying62
  a22 := Tryz.isAgg62
  z22 := Tryz.sizeOf62
  v22 := Tryz.zeroValue62 }
def Tryz.cloneC_ren : Go.Shelf.Ren := ⟨fun | 41 => 109 | n => n, fun | 22 => 98 | 23 => 64 | 4 => 4 | n => n, fun | n => n⟩
theorem Tryz.cloneC : Go.Proofs.SlLaysE0.n41 Tryz.prog Tryz.cloneC_ren := {
  mixed := by kernel_rfl
  f41 := ⟨Tryz.f109.name, by decide, Tryz.func109.trans (congrArg some (by kernel_rfl))⟩
  t4 := Tryz.underlying4
  a4 := Tryz.isAgg4
  z4 := Tryz.sizeOf4
  v4 := Tryz.zeroValue4
  t22 := Tryz.underlying98
  a22 := Tryz.isAgg98
  z22 := Tryz.sizeOf98
  v22 := Tryz.zeroValue98 }
def Tryz.bitsLen_ren : Go.Shelf.Ren := ⟨fun | 125 => 105 | 128 => 146 | 129 => 147 | n => n, fun | 46 => 41 | 3 => 3 | 51 => 178 | 53 => 180 | 4 => 4 | 5 => 5 | 9 => 9 | n => n, fun | n => n⟩
theorem Tryz.bitsLen : Go.Proofs.Lays.n125 Tryz.prog Tryz.bitsLen_ren := {
  mixed := by kernel_rfl
  f125 := Tryz.func105.trans (congrArg some (by kernel_rfl))
  f128 := Tryz.func146.trans (congrArg some (by kernel_rfl))
  f129 := Tryz.func147.trans (congrArg some (by kernel_rfl))
  t3 := Tryz.underlying3
  a3 := Tryz.isAgg3
  z3 := Tryz.sizeOf3
  v3 := Tryz.zeroValue3
  t4 := Tryz.underlying4
  a4 := Tryz.isAgg4
  z4 := Tryz.sizeOf4
  v4 := Tryz.zeroValue4
  t5 := Tryz.underlying5
  a5 := Tryz.isAgg5
  z5 := Tryz.sizeOf5
  v5 := Tryz.zeroValue5
  t9 := Tryz.underlying9
  a9 := Tryz.isAgg9
  z9 := Tryz.sizeOf9
  v9 := Tryz.zeroValue9
  t46 := Tryz.underlying41
  a46 := Tryz.isAgg41
  z46 := Tryz.sizeOf41
  v46 := Tryz.zeroValue41
  t51 := Tryz.underlying178
  a51 := Tryz.isAgg178
  z51 := Tryz.sizeOf178
  v51 := Tryz.zeroValue178
  t53 := Tryz.underlying180
  a53 := Tryz.isAgg180
  z53 := Tryz.sizeOf180
  v53 := Tryz.zeroValue180 }
end Go.Proofs

namespace Go.Proofs.YtlhbpflcffjhmaaGreat
open Go.RowKit

set_option maxRecDepth 100000 in
set_option maxHeartbeats 2000000 in
theorem cloneV_any (w : World) (v : Value) (l : List V) (h : SetR w v l) (hl : l.length ≤ 1000000) :
    Calls Tryz.prog 59 #[v] w fun e w' => ∃ v', e = .returned v' ∧ w'.ownsRow w.heap.size 61 4 v' l.length (l.flatMap vC) ∧ Ext w w' := by
  obtain ⟨a, cap, rfl, hc, hm⟩ := Row.shape h
  have hq : ∀ (w : World) (a : Option Addr) (n c n' c' : Nat), (binOp .eql 62 (.slice a n c) (.slice none n' c')).run Tryz.prog w = .ok (.bool a.isNone) w := fun w a n c n' c' => Lib.run_eql_slice_nil w _ _ a n c n' c' Tryz.underlying62
  cases a with
  | none =>
    have hz : l = [] := by
      obtain ⟨_, a', cap', e1, _, _, hnil, _⟩ := h
      simp only [Value.slice.injEq] at e1
      have := hnil e1.1.symm
      exact List.length_eq_zero_iff.1 (by omega)
    subst hz
    go_enter Tryz.func59, Tryz.ntmps59
    go_wp2
    go_ret
    exact ⟨_, rfl, ⟨rfl, .inl ⟨rfl, rfl⟩⟩, Ext.refl w⟩
  | some p =>
    have hr := h.ext ((Ext.refl w).alloc (.cells #[] 61))
    have hone := vC_one l
    unfold maxLen at hm
    go_enter Tryz.func59, Tryz.ntmps59
    go_wp2_with (at_builtin; refine wpList_append_row 62 61 (.tmp 5) (.tmp 6) rfl w.heap.size _ 4 40 Tryz.underlying62 info28t rfl (by decide) rfl _ 0 [] rfl (World.ownsRow_made w #[] 0 (Nat.le_refl _) (Nat.zero_le _) (by simp)) l.length (l.flatMap vC) hr hone (by omega) (by unfold maxLen; omega) (by simp) ?_; intro v' w1 hown hgrow)
    go_ret
    refine ⟨v', rfl, by simpa using hown, Ext.grown_none ((Ext.refl w).alloc _) hgrow (by intro k hk; cases hk; exact Nat.le_refl _)⟩
set_option maxRecDepth 100000 in
set_option maxHeartbeats 2000000 in
theorem cloneC_any (w : World) (v : Value) (l : List CS) (h : Row w 7 v l.length (l.flatMap csC)) (hsl : ∀ x ∈ l, x.h.oneCell' = true) (hl : l.length ≤ 1000000) :
    Calls Tryz.prog 109 #[v] w fun e w' => ∃ v', e = .returned v' ∧ w'.ownsRow w.heap.size 64 7 v' l.length (l.flatMap csC) ∧ Ext w w' ∧ (v = .slice none 0 0 → v' = .slice none 0 0) := by
  obtain ⟨a, cap, rfl, hc, hm⟩ := Row.shape h
  have hq : ∀ (w : World) (a : Option Addr) (n c n' c' : Nat), (binOp .eql 98 (.slice a n c) (.slice none n' c')).run Tryz.prog w = .ok (.bool a.isNone) w := fun w a n c n' c' => Lib.run_eql_slice_nil w _ _ a n c n' c' Tryz.underlying98
  cases a with
  | none =>
    have hz : l = [] := by
      obtain ⟨_, a', cap', e1, _, _, hnil, _⟩ := h
      simp only [Value.slice.injEq] at e1
      have := hnil e1.1.symm
      exact List.length_eq_zero_iff.1 (by omega)
    subst hz
    go_enter Tryz.func109, Tryz.ntmps109
    go_wp2
    go_ret
    exact ⟨_, rfl, ⟨rfl, .inl ⟨rfl, rfl⟩⟩, Ext.refl w, fun _ => rfl⟩
  | some p =>
    have hr := h.ext ((Ext.refl w).alloc (.cells #[] 64))
    have hone := csC_one l hsl
    unfold maxLen at hm
    go_enter Tryz.func109, Tryz.ntmps109
    go_wp2_with (at_builtin; refine wpList_append_row 98 64 (.tmp 5) (.tmp 6) rfl w.heap.size _ 7 88 Tryz.underlying98 info31t rfl (by decide) rfl _ 0 [] rfl (World.ownsRow_made w #[] 0 (Nat.le_refl _) (Nat.zero_le _) (by simp)) l.length (l.flatMap csC) hr hone (by omega) (by unfold maxLen; omega) (by simp) ?_; intro v' w1 hown hgrow)
    go_ret
    refine ⟨v', rfl, by simpa using hown, Ext.grown_none ((Ext.refl w).alloc _) hgrow (by intro k hk; cases hk; exact Nat.le_refl _), fun h => by cases h⟩
end Go.Proofs.YtlhbpflcffjhmaaGreat

namespace Go.Proofs.YtlhbpflcffjhmaaGreat
open Go.RowKit Go.Sort

instance : Inhabited V := ⟨⟨0, 0, [], false⟩⟩
theorem wo_swo {α : Type} {cf : α → α → Int} (h : WO cf) : SWO (ltOf cf) := by
  have hr : ∀ x, cf x x = 0 := h.refl
  refine ⟨fun x => ?_, fun x y z h1 h2 => ?_, fun x y z h1 h2 => ?_⟩
  · unfold ltOf; rw [hr]; rfl
  · unfold ltOf at *
    have a1 := of_decide_eq_true h1
    have a2 := of_decide_eq_true h2
    refine decide_eq_true ?_
    have b1 := h.trans x y z (by omega) (by omega)
    rcases Int.lt_or_eq_of_le b1 with b | b
    · exact b
    · have c1 := h.anti x z
      have c2 := h.trans z x y (by omega) (by omega)
      have c3 := h.anti y z
      omega
  · unfold ltOf at *
    have a1 := of_decide_eq_false h1
    have a2 := of_decide_eq_false h2
    refine decide_eq_false ?_
    have e1 := h.anti x y
    have e2 := h.anti y z
    have e3 := h.anti x z
    have b1 := h.trans z y x (by omega) (by omega)
    omega

theorem ent23 : ∀ args w, (callFunc 61 args).run Tryz.prog w = .ok (.enter 61 args) w := enters_of Tryz.func61 (by kernel_rfl) rfl

theorem sortV_any (w : World) (base : Nat) (v : Value) (l : List V) (ho : w.ownsRow base 61 4 v l.length (l.flatMap vC)) (hl : l.length ≤ 1000000) :
    Calls Tryz.prog 60 #[v, .func (.func 61) #[] #[]] w fun e w' => e = .returned (.tuple #[]) ∧ ∃ l' : List V, l'.Perm l ∧ (l'.Pairwise fun a b => cmpV a b ≤ 0) ∧ w'.ownsRow base 61 4 v l.length (l'.flatMap vC) ∧ w.grownBy w' v.ownBlock := by
  have ho' := ho
  rcases ho.2 with ⟨rfl, h0⟩ | ⟨g, cap, cur, rfl, hb, hg, hn, hm, hs, ht⟩
  · have hz : l = [] := List.length_eq_zero_iff.1 h0
    subst hz
    refine (AnyF.slices_SortFunc_none { Tryz.sortV with } none 0 (.func (.func 61) #[] #[]) w).mono ?_
    rintro e w' ⟨rfl, rfl⟩
    exact ⟨rfl, [], List.Perm.refl _, List.Pairwise.nil, ho, ⟨rfl, rfl, rfl, Nat.le_refl _, fun _ _ _ => rfl⟩⟩
  · have hlt : g < w.heap.size := (Array.getElem?_eq_some_iff.1 hg).1
    have hH := own_holdsK vC (by decide) vC_len ho
    have hone : ∀ x, ∀ u ∈ vC x, u.oneCell' = true := fun x u hu => vC_one [x] u (by simpa using hu)
    have hc := AnyQ.slices_SortFunc Tryz.sortV 4 (fun w => Tryz.isAgg61 w) (fun w => Tryz.sizeOf61 w) vC vC_len hone cmpV (wo_swo wo_V) 61 #[] g 0 cap l.toArray w ent23
      (fun m os dk _ x y => (cmpV_any _ x y).mono fun _ _ ⟨he, hx⟩ => ⟨he, hx.grown⟩) hH hlt (by simp; omega)
    have e1 : l.toArray.size = l.length := by simp
    rw [e1] at hc
    refine hc.mono ?_
    rintro e w' ⟨rfl, d', n, os, hp, hs', rfl⟩
    obtain ⟨p1, p2⟩ := sorted_list (by rw [e1]; exact hp) (by rw [e1]; exact hs') (wo_V.anti)
    have hll : d'.toList.length = l.length := p1.length_eq
    have hfin := own_sorted (m := n) (os := os) vC (by decide) vC_len ho hll
    exact ⟨rfl, d'.toList, p1, p2, hfin.1, hfin.2⟩
end Go.Proofs.YtlhbpflcffjhmaaGreat

namespace Go.Proofs
open Go.Shelf
def Tryz.sortQ_ren : Go.Shelf.Ren := ⟨fun | 6 => 69 | 15 => 105 | 14 => 113 | 28 => 146 | 29 => 147 | 20 => 150 | 21 => 151 | 22 => 152 | 23 => 153 | 24 => 154 | 25 => 155 | 26 => 156 | 27 => 157 | 46 => 206 | 47 => 194 | 48 => 195 | 49 => 207 | 50 => 208 | 57 => 231 | n => n, fun | 22 => 22 | 24 => 25 | 25 => 26 | 3 => 3 | 39 => 41 | 0 => 0 | 53 => 178 | 55 => 180 | 4 => 4 | 46 => 172 | 45 => 171 | 50 => 87 | 5 => 5 | 9 => 9 | 66 => 205 | 70 => 209 | 76 => 230 | 77 => 231 | n => n, fun | n => n⟩
theorem Tryz.sortQ : Go.Proofs.SlLaysF.n6 Tryz.prog Tryz.sortQ_ren := {
  mixed := by kernel_rfl
  f6 := ⟨Tryz.f69.name, by decide, Tryz.func69.trans (congrArg some (by kernel_rfl))⟩
  f14 := ⟨Tryz.f113.name, by decide, Tryz.func113.trans (congrArg some (by kernel_rfl))⟩
  f15 := Tryz.func105.trans (congrArg some (by kernel_rfl))
  f20 := ⟨Tryz.f150.name, by decide, Tryz.func150.trans (congrArg some (by kernel_rfl))⟩
  f21 := ⟨Tryz.f151.name, by decide, Tryz.func151.trans (congrArg some (by kernel_rfl))⟩
  f22 := ⟨Tryz.f152.name, by decide, Tryz.func152.trans (congrArg some (by kernel_rfl))⟩
  f23 := ⟨Tryz.f153.name, by decide, Tryz.func153.trans (congrArg some (by kernel_rfl))⟩
  f24 := ⟨Tryz.f154.name, by decide, Tryz.func154.trans (congrArg some (by kernel_rfl))⟩
  f25 := ⟨Tryz.f155.name, by decide, Tryz.func155.trans (congrArg some (by kernel_rfl))⟩
  f26 := ⟨Tryz.f156.name, by decide, Tryz.func156.trans (congrArg some (by kernel_rfl))⟩
  f27 := ⟨Tryz.f157.name, by decide, Tryz.func157.trans (congrArg some (by kernel_rfl))⟩
  f28 := Tryz.func146.trans (congrArg some (by kernel_rfl))
  f29 := Tryz.func147.trans (congrArg some (by kernel_rfl))
  f46 := ⟨Tryz.f206.name, by decide, Tryz.func206.trans (congrArg some (by kernel_rfl))⟩
  f47 := Tryz.func194.trans (congrArg some (by kernel_rfl))
  f48 := Tryz.func195.trans (congrArg some (by kernel_rfl))
  f49 := ⟨Tryz.f207.name, by decide, Tryz.func207.trans (congrArg some (by kernel_rfl))⟩
  f50 := ⟨Tryz.f208.name, by decide, Tryz.func208.trans (congrArg some (by kernel_rfl))⟩
  f57 := ⟨Tryz.f231.name, by decide, Tryz.func231.trans (congrArg some (by kernel_rfl))⟩
  t0 := Tryz.underlying0
  a0 := Tryz.isAgg0
  z0 := Tryz.sizeOf0
  v0 := Tryz.zeroValue0
  t3 := Tryz.underlying3
  a3 := Tryz.isAgg3
  z3 := Tryz.sizeOf3
  v3 := Tryz.zeroValue3
  t4 := Tryz.underlying4
  a4 := Tryz.isAgg4
  z4 := Tryz.sizeOf4
  v4 := Tryz.zeroValue4
  t5 := Tryz.underlying5
  a5 := Tryz.isAgg5
  z5 := Tryz.sizeOf5
  v5 := Tryz.zeroValue5
  t9 := Tryz.underlying9
  a9 := Tryz.isAgg9
  z9 := Tryz.sizeOf9
  v9 := Tryz.zeroValue9
  t22 := Tryz.underlying22
  a22 := Tryz.isAgg22
  z22 := Tryz.sizeOf22
  v22 := Tryz.zeroValue22
  a24 := Tryz.isAgg25
  z24 := Tryz.sizeOf25
  t25 := Tryz.underlying26
  a25 := Tryz.isAgg26
  z25 := Tryz.sizeOf26
  v25 := Tryz.zeroValue26
  t39 := Tryz.underlying41
  a39 := Tryz.isAgg41
  z39 := Tryz.sizeOf41
  v39 := Tryz.zeroValue41
  t45 := Tryz.underlying171
  a45 := Tryz.isAgg171
  z45 := Tryz.sizeOf171
  v45 := Tryz.zeroValue171
  t46 := Tryz.underlying172
  a46 := Tryz.isAgg172
  z46 := Tryz.sizeOf172
  v46 := Tryz.zeroValue172
  t50 := Tryz.underlying87
  a50 := Tryz.isAgg87
  z50 := Tryz.sizeOf87
  v50 := Tryz.zeroValue87
  t53 := Tryz.underlying178
  a53 := Tryz.isAgg178
  z53 := Tryz.sizeOf178
  v53 := Tryz.zeroValue178
  t55 := Tryz.underlying180
  a55 := Tryz.isAgg180
  z55 := Tryz.sizeOf180
  v55 := Tryz.zeroValue180
  t66 := Tryz.underlying205
  a66 := Tryz.isAgg205
  z66 := Tryz.sizeOf205
  v66 := Tryz.zeroValue205
  t70 := Tryz.underlying209
  a70 := Tryz.isAgg209
  z70 := Tryz.sizeOf209
  v70 := Tryz.zeroValue209
  t76 := Tryz.underlying230
  a76 := Tryz.isAgg230
  z76 := Tryz.sizeOf230
  v76 := Tryz.zeroValue230
  t77 := Tryz.underlying231
  a77 := Tryz.isAgg231
  z77 := Tryz.sizeOf231
  v77 := Tryz.zeroValue231 }
end Go.Proofs

namespace Go.Proofs.YtlhbpflcffjhmaaGreat
open Go.RowKit Go.Sort Go.MapKept

theorem infoQ : (Tryz.prog.info? 25).map (fun i => (i.zero, i.size, i.bytes)) = some (some (.slice none 0 0), 1, 24) := by kernel_rfl
theorem pred_one {w : World} {h : Value} {p : List C} (k : PredR w h p) : h.oneCell' = true := by obtain ⟨a, c, rfl, _, _⟩ := k.shape; rfl
theorem ppC_one (l : List PP) (h : ∀ x ∈ l, x.h.oneCell' = true) : ∀ u ∈ l.flatMap ppC, u.oneCell' = true := fun u hu => by
  obtain ⟨x, hx, hu⟩ := List.mem_flatMap.1 hu
  obtain rfl : u = x.h := by simpa [ppC] using hu
  exact h x hx
theorem flat_ppC (l : List PP) : l.flatMap ppC = l.map PP.h := by
  induction l with
  | nil => rfl
  | cons x l ih => rw [List.flatMap_cons, ih]; rfl
theorem preds_nil {w : World} {n cap : Nat} {l : List PP} (h : PredsR w (.slice none n cap) l) : l = [] := by
  obtain ⟨_, a', cap', e1, _, _, hnil, _⟩ := h.row
  simp only [Value.slice.injEq] at e1
  have := hnil e1.1.symm
  exact List.length_eq_zero_iff.1 (by omega)
set_option maxRecDepth 100000 in
set_option maxHeartbeats 2000000 in
theorem cloneQ_any (w : World) (v : Value) (l : List PP) (h : PredsR w v l) (hl : l.length ≤ 1000000) :
    Calls Tryz.prog 47 #[v] w fun e w' => ∃ v', e = .returned v' ∧ OwnQ w' w.heap.size v' l ∧ Ext w w' ∧ (v = .slice none 0 0 → v' = .slice none 0 0) := by
  obtain ⟨a, cap, rfl, hc, hm⟩ := Row.shape h.row
  have hq : ∀ (w : World) (a : Option Addr) (n c n' c' : Nat), (binOp .eql 22 (.slice a n c) (.slice none n' c')).run Tryz.prog w = .ok (.bool a.isNone) w := fun w a n c n' c' => Lib.run_eql_slice_nil w _ _ a n c n' c' Tryz.underlying22
  cases a with
  | none =>
    obtain rfl := preds_nil h
    go_enter Tryz.func47, Tryz.ntmps47
    go_wp2
    go_ret
    exact ⟨_, rfl, ⟨rfl, .inl ⟨rfl, rfl⟩⟩, Ext.refl w, fun _ => rfl⟩
  | some p =>
    have hr := h.row.ext ((Ext.refl w).alloc (.cells #[] 25))
    have hone := ppC_one l fun x hx => pred_one (h.hs x hx)
    unfold maxLen at hm
    clear h
    go_enter Tryz.func47, Tryz.ntmps47
    go_wp2_with (at_builtin; refine wpList_append_row 22 25 (.tmp 5) (.tmp 6) rfl w.heap.size _ 1 24 Tryz.underlying22 infoQ rfl (by decide) rfl _ 0 [] rfl (World.ownsRow_made w #[] 0 (Nat.le_refl _) (Nat.zero_le _) (by simp)) l.length (l.flatMap ppC) hr hone (by omega) (by unfold maxLen; omega) (by simp) ?_; intro v' w1 hown hgrow)
    go_ret
    refine ⟨v', rfl, by unfold OwnQ; simpa using hown, Ext.grown_none ((Ext.refl w).alloc _) hgrow (by intro k hk; cases hk; exact Nat.le_refl _), fun h => by cases h⟩

/-! SortFunc -/
theorem putRow_enc {α : Type} [Inhabited α] (enc : α → Value) (w : World) (g : Nat) (l : List α) : putRow enc w g 0 l.toArray = putRow id w g 0 (l.map enc).toArray := by
  unfold putRow
  congr 1
  funext c
  unfold putCells
  congr 1
  funext k x
  simp only [List.size_toArray, List.length_map]
  split
  · rename_i h
    have hk : k - 0 < l.length := by omega
    rw [getElem!_pos _ _ (by simpa using hk), getElem!_pos _ _ (by simpa using hk)]
    simp
  · rfl
theorem holds_enc {α : Type} [Inhabited α] (enc : α → Value) {w : World} {g : Nat} {l : List α} (h : Holds id w g 0 (l.map enc).toArray) : Holds enc w g 0 l.toArray := by
  intro j hj
  have hj' : j < l.length := by simpa using hj
  have := h j (by simpa using hj')
  rw [getElem!_pos _ _ (by simpa using hj')] at this ⊢
  simpa using this
/-- A predicate where it may be sorted: in rows of its types. -/
def SQ (b : Nat) (w : World) : Type := { x : PP // PredT b w x.h x.p }
def sqE {b : Nat} {w : World} (x : SQ b w) : Value := x.1.h
def sqO {b : Nat} {w : World} (x y : SQ b w) : Int := cmpP x.1.p y.1.p
theorem wo_SQ {b : Nat} {w : World} : WO (sqO (b := b) (w := w)) := ⟨fun _ _ => wo_P.anti _ _, fun _ _ _ => wo_P.trans _ _ _⟩
theorem SQ.lift {b : Nat} {w : World} : ∀ us : List PP, (∀ x ∈ us, PredT b w x.h x.p) → ∃ ss : List (SQ b w), ss.map (·.1) = us
  | [], _ => ⟨[], rfl⟩
  | x :: r, h => by
    obtain ⟨ss, e⟩ := SQ.lift r fun y hy => h y (List.mem_cons_of_mem _ hy)
    exact ⟨⟨x, h x List.mem_cons_self⟩ :: ss, congrArg (x :: ·) e⟩
/-- A row of predicates' slices turns: the predicates stay. -/
theorem PredT.rowTurn {b base n : Nat} {w w' : World} {h v : Value} {p : List C} {xs : List Value} (k : PredT b w h p) (ho : w.ownsRow base 25 1 v n xs) (hg : w.grownBy w' v.ownBlock) : PredT b w' h p :=
  k.turn (TurnT.of_row (M := fun _ => False) (base := 0) ho (Nat.zero_le _) hg) (fun _ h => h.elim) (by decide) (by decide)
theorem ent_pcmp : ∀ args w, (callFunc 8 args).run Tryz.prog w = .ok (.enter 8 args) w := enters_of Tryz.func8 (by kernel_rfl) rfl
theorem ent_psame : ∀ args w, (callFunc 66 args).run Tryz.prog w = .ok (.enter 66 args) w := enters_of Tryz.func66 (by kernel_rfl) rfl
theorem sortQ_any (w : World) (base b : Nat) (v : Value) (us : List PP) (ho : OwnQ w base v us) (hs : ∀ x ∈ us, PredT b w x.h x.p) (hl : us.length ≤ 1000000) :
    Calls Tryz.prog 69 #[v, .func (.func 8) #[] #[]] w
      fun e w' => e = .returned (.tuple #[]) ∧ ∃ us' : List PP, us'.Perm us ∧ (us'.Pairwise fun a b => cmpP a.p b.p ≤ 0) ∧ OwnQ w' base v us' ∧ w.grownBy w' v.ownBlock := by
  by_cases h0 : us = []
  · subst h0
    obtain ⟨a, cap, rfl, _, _⟩ := own_shape ho
    refine (AnyF.slices_SortFunc_none { Tryz.sortQ with } a cap (.func (.func 8) #[] #[]) w).mono ?_
    rintro e w' ⟨rfl, rfl⟩
    exact ⟨rfl, [], List.Perm.refl _, List.Pairwise.nil, ho, ⟨rfl, rfl, rfl, Nat.le_refl _, fun _ _ _ => rfl⟩⟩
  · rcases ho.2 with ⟨_, e0⟩ | ⟨g, cap, cur, rfl, hb, hg, hn, hm, hsz, ht⟩
    · exact absurd (List.length_eq_zero_iff.1 e0) h0
    · obtain ⟨_, _, _, _, _, _, hlt, hH⟩ := own_holds ho
      obtain ⟨ss, hss⟩ := SQ.lift us hs
      have hsl : ss.length = us.length := by rw [← hss, List.length_map]
      haveI : Inhabited (SQ b w) := ⟨ss.head (by intro h; rw [h] at hsl; exact h0 (List.length_eq_zero_iff.1 hsl.symm))⟩
      have hmap : us.flatMap ppC = ss.map sqE := by rw [flat_ppC, ← hss, List.map_map]; rfl
      rw [hmap] at hH
      have hone : OneCell (sqE (b := b) (w := w)) := fun x => pred_one x.2.pred
      have hcmp : CmpLays1 (α := SQ b w) Tryz.prog 8 #[] sqE sqO g 0 ss.toArray.size w := fun m os dk hdk x y => by
        have hgw : w.grownBy (sortWorld sqE w g 0 m dk os) (some g) := by
          unfold sortWorld
          rw [← Array.toArray_toList (xs := dk), putRow_enc]
          exact grownBy_row _
        have hx := (x.2.rowTurn ho hgw).pred
        have hy := (y.2.rowTurn ho hgw).pred
        exact (pcompare_any (sortWorld sqE w g 0 m dk os) _ _ _ _ hx hy).mono fun _ _ ⟨he, hx⟩ => ⟨he, hx.grown⟩
      have hc := Any.slices_SortFunc Tryz.sortQ sqE hone sqO (wo_swo wo_SQ) 8 #[] g 0 cap ss.toArray w ent_pcmp hcmp (holds_enc sqE hH) hlt (by simp; omega)
      have e1 : ss.toArray.size = us.length := by simp [hsl]
      rw [e1] at hc
      refine hc.mono ?_
      rintro e w' ⟨rfl, d', n, os, hp, hs', rfl⟩
      obtain ⟨p1, p2⟩ := sorted_list (l := ss) (by rw [e1]; exact hp) (by rw [e1]; exact hs') wo_SQ.anti
      have hll : d'.toList.length = ss.length := p1.length_eq
      have hput : sortWorld sqE w g 0 n d' os = grow (putRow id (Sort.ahead w n) g 0 (d'.toList.map sqE).toArray) os := by
        unfold sortWorld
        conv => lhs; rw [← Array.toArray_toList (xs := d'), putRow_enc]
      have hfl : (d'.toList.map (·.1)).flatMap ppC = d'.toList.map sqE := by rw [flat_ppC, List.map_map]; rfl
      refine ⟨rfl, d'.toList.map (·.1), by rw [← hss]; exact p1.map _, by rw [List.pairwise_map]; exact p2, ?_, ?_⟩
      · have : w.ownsRow base 25 1 (.slice (some ⟨g, 0, none⟩) us.length cap) us.length (us.flatMap ppC) := ho
        unfold OwnQ
        rw [hput, hfl, List.length_map, hll, hsl]
        exact own_put this (by rw [hmap, List.length_map, List.length_map, hll])
      · rw [hput]
        exact grownBy_row _
end Go.Proofs.YtlhbpflcffjhmaaGreat

namespace Go.Proofs.YtlhbpflcffjhmaaGreat

theorem fold256 (l : List UInt8) : ∀ n, l.foldl (fun n c => n * 256 + c.toNat) n = n * 256 ^ l.length + wholeF l := by
  induction l with
  | nil => intro n; simp [wholeF]
  | cons c r ih =>
    intro n
    unfold wholeF
    rw [List.foldl_cons, List.foldl_cons, ih, ih, List.length_cons, Nat.pow_succ]
    rw [Nat.add_mul, Nat.add_mul, Nat.mul_assoc, Nat.mul_comm 256]
    simp only [Nat.zero_mul, Nat.zero_add]
    omega
theorem wholeF_cons (c : UInt8) (r : List UInt8) : wholeF (c :: r) = c.toNat * 256 ^ r.length + wholeF r := by
  have := fold256 r c.toNat
  unfold wholeF at this ⊢
  rw [List.foldl_cons]
  simpa using this
theorem lex_whole : ∀ x y : List UInt8, x.length = y.length → (Lib.compareBytes x y < 0 ↔ wholeF x < wholeF y)
  | [], [], _ => by simp [Lib.compareBytes, wholeF]
  | c :: x, d :: y, h => by
    have hl : x.length = y.length := by simpa using h
    have ih := lex_whole x y hl
    have hx := wholeF_lt x.length x rfl
    have hy := wholeF_lt y.length y rfl
    rw [wholeF_cons, wholeF_cons, hl]
    rw [hl] at hx
    generalize 256 ^ y.length = P at *
    simp only [Lib.compareBytes]
    by_cases h1 : c < d
    · have h1' : c.toNat + 1 ≤ d.toNat := UInt8.lt_iff_toNat_lt.1 h1
      have h2 : (c.toNat + 1) * P ≤ d.toNat * P := Nat.mul_le_mul_right _ h1'
      rw [Nat.add_mul, Nat.one_mul] at h2
      rw [if_pos h1]
      exact ⟨fun _ => by omega, fun _ => by decide⟩
    · rw [if_neg h1]
      by_cases h2 : d < c
      · have h2' : d.toNat + 1 ≤ c.toNat := UInt8.lt_iff_toNat_lt.1 h2
        have h3 : (d.toNat + 1) * P ≤ c.toNat * P := Nat.mul_le_mul_right _ h2'
        rw [Nat.add_mul, Nat.one_mul] at h3
        rw [if_pos h2]
        exact ⟨fun h => absurd h (by decide), fun _ => by omega⟩
      · rw [if_neg h2]
        have he : c = d := UInt8.le_antisymm (UInt8.not_lt.1 h2) (UInt8.not_lt.1 h1)
        subst he
        rw [ih]; omega
theorem lt_live2 (a b : List UInt8) : Cut.lt ⟨a, false⟩ ⟨b, false⟩ = Op.bytesLess a b := by unfold Cut.lt; simp
theorem lt_end (a : List UInt8) : Cut.lt ⟨a, false⟩ endC = true := rfl
def inN (n : Int) : Prop := -9223372036854775808 ≤ n ∧ n ≤ 9223372036854775807
theorem num_lt {m n : Int} (hm : inN m) (hn : inN n) : Cut.lt (numC m) (numC n) = decide (m < n) := by
  unfold numC
  rw [lt_live2, Bool.eq_iff_iff, bl_lt, decide_eq_true_iff]
  obtain ⟨h1, h2⟩ := hm
  obtain ⟨h3, h4⟩ := hn
  rw [lex_whole _ _ (by unfold eightF; rw [eightN_len, eightN_len])]
  unfold eightF
  rw [wholeF_eight 8 _ (by omega), wholeF_eight 8 _ (by omega)]
  omega
theorem bytes_next : ∀ x y : List UInt8, Lib.compareBytes x (y ++ [0]) < 0 ↔ Lib.compareBytes x y ≤ 0
  | [], [] => by simp [Lib.compareBytes]
  | [], d :: y => by simp [Lib.compareBytes]
  | c :: x, [] => by
    simp only [List.nil_append, Lib.compareBytes]
    have h0 : ¬ c < 0 := UInt8.not_lt.2 (UInt8.le_iff_toNat_le.2 (by simp))
    rw [if_neg h0]
    by_cases h : (0 : UInt8) < c
    · rw [if_pos h]; decide
    · rw [if_neg h]
      cases x <;> simp [Lib.compareBytes]
  | c :: x, d :: y => by
    have ih := bytes_next x y
    simp only [List.cons_append, Lib.compareBytes]
    by_cases h1 : c < d
    · rw [if_pos h1, if_pos h1]; decide
    · rw [if_neg h1, if_neg h1]
      by_cases h2 : d < c
      · rw [if_pos h2, if_pos h2]; decide
      · rw [if_neg h2, if_neg h2]; exact ih

theorem around_k1 {v : V} (h : v.k = 1) : (aroundV v).1 = numC v.n ∧ (aroundV v).2 = if v.n = 9223372036854775807 then endC else numC (v.n + 1) := by
  unfold aroundV
  rw [if_pos h]
  split <;> exact ⟨rfl, rfl⟩
theorem around_k2 {v : V} (h : v.k = 2) : aroundV v = (⟨v.s, false⟩, ⟨v.s ++ [0], false⟩) := by
  unfold aroundV
  rw [if_neg (by rw [h]; decide), if_pos h]
theorem around_k3 {v : V} (h : v.k = 3) : aroundV v = if v.b then (⟨[0], false⟩, endC) else (⟨[], false⟩, ⟨[0], false⟩) := by
  unfold aroundV
  rw [if_neg (by rw [h]; decide), if_neg (by rw [h]; decide)]
theorem cmp_k {v w : V} (hk : v.k = w.k) : cmpV v w = if v.k = 1 then Lib.compareInt v.n w.n else if v.k = 2 then Lib.compareBytes v.s w.s else if v.k = 3 then cmpB v.b w.b else 0 := by
  unfold cmpV
  rw [if_pos hk]
theorem at_lt {v w : V} (hk : v.k = w.k) (h1 : 1 ≤ v.k) (h3 : v.k ≤ 3) (kv : inN v.n) (kw : inN w.n) : Cut.lt (atV v) (atV w) = decide (cmpV v w < 0) := by
  unfold atV
  rw [cmp_k hk]
  have hc : v.k = 1 ∨ v.k = 2 ∨ v.k = 3 := by omega
  rcases hc with h | h | h
  · rw [(around_k1 h).1, (around_k1 (hk.symm.trans h)).1, if_pos h, num_lt kv kw, Bool.eq_iff_iff, decide_eq_true_iff, decide_eq_true_iff, int_lt]
  · rw [around_k2 h, around_k2 (hk.symm.trans h), if_neg (by rw [h]; decide), if_pos h, lt_live2, Bool.eq_iff_iff, bl_lt, decide_eq_true_iff]
  · rw [around_k3 h, around_k3 (hk.symm.trans h)]
    rw [if_neg (show ¬ v.k = 1 by rw [h]; decide), if_neg (show ¬ v.k = 2 by rw [h]; decide), if_pos h]
    generalize v.b = x
    generalize w.b = y
    cases x <;> cases y <;> decide
theorem at_next {v w : V} (hk : v.k = w.k) (h1 : 1 ≤ v.k) (h3 : v.k ≤ 3) (kv : inN v.n) (kw : inN w.n) : Cut.lt (atV v) (aroundV w).2 = decide (cmpV v w ≤ 0) := by
  unfold atV
  rw [cmp_k hk]
  have hc : v.k = 1 ∨ v.k = 2 ∨ v.k = 3 := by omega
  rcases hc with h | h | h
  · rw [(around_k1 h).1, (around_k1 (hk.symm.trans h)).2, if_pos h]
    have hle : Lib.compareInt v.n w.n ≤ 0 ↔ v.n ≤ w.n := by unfold Lib.compareInt; split <;> (try split) <;> omega
    by_cases hw : w.n = 9223372036854775807
    · rw [if_pos hw, show Cut.lt (numC v.n) endC = true from rfl, Bool.eq_iff_iff, decide_eq_true_iff, hle]
      exact ⟨fun _ => by have := kv.2; omega, fun _ => rfl⟩
    · rw [if_neg hw, num_lt kv ⟨by have := kw.1; omega, by have := kw.2; omega⟩, Bool.eq_iff_iff, decide_eq_true_iff, decide_eq_true_iff, hle]
      omega
  · rw [around_k2 h, around_k2 (hk.symm.trans h), if_neg (by rw [h]; decide), if_pos h, lt_live2, Bool.eq_iff_iff, bl_lt, decide_eq_true_iff, bytes_next]
  · rw [around_k3 h, around_k3 (hk.symm.trans h)]
    rw [if_neg (show ¬ v.k = 1 by rw [h]; decide), if_neg (show ¬ v.k = 2 by rw [h]; decide), if_pos h]
    generalize v.b = x
    generalize w.b = y
    cases x <;> cases y <;> decide
theorem at_first {v : V} (kv : inN v.n) : Cut.lt (atV v) (firstC v.k) = false := by
  unfold firstC
  by_cases h : v.k = 1
  · rw [if_pos h]
    have e : atV v = numC v.n := by unfold atV aroundV; rw [if_pos h]; split <;> rfl
    rw [e, num_lt kv ⟨by decide, by decide⟩]
    exact decide_eq_false (by have := kv.1; omega)
  · rw [if_neg h]
    obtain ⟨l, hl⟩ : ∃ l, atV v = ⟨l, false⟩ := by
      unfold atV aroundV
      rw [if_neg h]
      repeat' split
      all_goals exact ⟨_, rfl⟩
    rw [hl, lt_live2]
    cases hb : Op.bytesLess l [] with
    | false => rfl
    | true => have := (bl_lt _ _).1 hb; cases l <;> simp [Lib.compareBytes] at this

theorem at_live (v : V) : ∃ l, atV v = ⟨l, false⟩ := by
  unfold atV aroundV numC
  repeat' split
  all_goals exact ⟨_, rfl⟩
theorem at_end (v : V) : Cut.lt (atV v) endC = true := by obtain ⟨l, h⟩ := at_live v; rw [h]; rfl

/-! Past a beginning. -/
theorem pastR_snoc (c : UInt8) : ∀ l : List UInt8, pastR (l ++ [c]) = if (pastR l).e = true then (if c = 255 then endC else ⟨[c + 1], false⟩) else ⟨c :: (pastR l).a, false⟩
  | [] => by simp [pastR, endC]
  | d :: l => by
    have ih := pastR_snoc c l
    show (if d = 255 then pastR (l ++ [c]) else ⟨((l ++ [c]).reverse) ++ [d + 1], false⟩) = _
    by_cases hd : d = 255
    · rw [if_pos hd, ih]
      have : pastR (d :: l) = pastR l := by show (if d = 255 then pastR l else _) = _; rw [if_pos hd]
      rw [this]
    · rw [if_neg hd]
      have : pastR (d :: l) = ⟨l.reverse ++ [d + 1], false⟩ := by show (if d = 255 then pastR l else _) = _; rw [if_neg hd]
      rw [this]
      simp
theorem pastF_cons (c : UInt8) (r : List UInt8) : pastF (c :: r) = if (pastF r).e = true then (if c = 255 then endC else ⟨[c + 1], false⟩) else ⟨c :: (pastF r).a, false⟩ := by
  unfold pastF
  rw [List.reverse_cons, pastR_snoc]
theorem past_law : ∀ s x : List UInt8, (!Op.bytesLess x s && Cut.lt ⟨x, false⟩ (pastF s)) = s.isPrefixOf x
  | [], x => by
    have h1 : Op.bytesLess x [] = false := by
      cases hb : Op.bytesLess x [] with
      | false => rfl
      | true => have := (bl_lt _ _).1 hb; cases x <;> simp [Lib.compareBytes] at this
    rw [h1]
    show Cut.lt ⟨x, false⟩ endC = _
    simp [Cut.lt, endC]
  | c :: r, [] => by
    have h1 : Op.bytesLess [] (c :: r) = true := (bl_lt _ _).2 (by simp [Lib.compareBytes])
    rw [h1]; rfl
  | c :: r, d :: y => by
    have ih := past_law r y
    have hcmp : ∀ a b : List UInt8, ∀ u v : UInt8, Op.bytesLess (u :: a) (v :: b) = if u < v then true else if v < u then false else Op.bytesLess a b := fun a b u v => by
      rw [Bool.eq_iff_iff, bl_lt]
      simp only [Lib.compareBytes]
      by_cases h1 : u < v
      · rw [if_pos h1, if_pos h1]; simp
      · rw [if_neg h1, if_neg h1]
        by_cases h2 : v < u
        · rw [if_pos h2, if_pos h2]; simp
        · rw [if_neg h2, if_neg h2, bl_lt]
    rw [hcmp, pastF_cons]
    by_cases h1 : d < c
    · rw [if_pos h1]
      have hne : (c == d) = false := by rw [beq_eq_false_iff_ne]; intro e; rw [e] at h1; exact absurd h1 (UInt8.lt_irrefl d)
      show (false && _) = ((c == d) && r.isPrefixOf y)
      rw [hne]; rfl
    · rw [if_neg h1]
      by_cases h2 : c < d
      · rw [if_pos h2]
        have hne : (c == d) = false := by rw [beq_eq_false_iff_ne]; intro e; rw [e] at h2; exact absurd h2 (UInt8.lt_irrefl d)
        have hlt : Cut.lt ⟨d :: y, false⟩ (if (pastF r).e = true then (if c = 255 then endC else ⟨[c + 1], false⟩) else ⟨c :: (pastF r).a, false⟩) = false := by
          by_cases h3 : (pastF r).e = true
          · rw [if_pos h3]
            by_cases h4 : c = 255
            · subst h4
              have hd := d.toNat_lt
              have h5 := UInt8.lt_iff_toNat_lt.1 h2
              have h6 : (255 : UInt8).toNat = 255 := rfl
              omega
            · rw [if_neg h4, lt_live2, hcmp]
              have hc1 : (c + 1).toNat = c.toNat + 1 := by
                have h6 : c.toNat ≠ 255 := fun e => h4 (UInt8.toNat_inj.1 e)
                have h7 := c.toNat_lt
                rw [UInt8.toNat_add]
                show (c.toNat + 1) % 256 = _
                omega
              have h5 := UInt8.lt_iff_toNat_lt.1 h2
              have h8 : ¬ d < c + 1 := fun h => by have := UInt8.lt_iff_toNat_lt.1 h; omega
              rw [if_neg h8]
              by_cases h9 : c + 1 < d
              · rw [if_pos h9]
              · rw [if_neg h9]
                cases hb : Op.bytesLess y [] with
                | false => rfl
                | true => have := (bl_lt _ _).1 hb; cases y <;> simp [Lib.compareBytes] at this
          · rw [if_neg h3, lt_live2, hcmp, if_neg h1, if_pos h2]
        rw [hlt, Bool.and_false]
        show _ = ((c == d) && r.isPrefixOf y)
        rw [hne]; rfl
      · rw [if_neg h2]
        have he : c = d := UInt8.le_antisymm (UInt8.not_lt.1 h1) (UInt8.not_lt.1 h2)
        subst he
        have e1 : (c :: r).isPrefixOf (c :: y) = r.isPrefixOf y := by
          show ((c == c) && r.isPrefixOf y) = _
          rw [beq_self_eq_true, Bool.true_and]
        rw [e1, ← ih]
        congr 1
        by_cases h3 : (pastF r).e = true
        · rw [if_pos h3]
          have hr : Cut.lt ⟨y, false⟩ (pastF r) = true := by unfold Cut.lt; rw [h3]; rfl
          rw [hr]
          by_cases h4 : c = 255
          · rw [if_pos h4]; rfl
          · rw [if_neg h4, lt_live2, hcmp]
            have hc1 : (c + 1).toNat = c.toNat + 1 := by
              have h6 : c.toNat ≠ 255 := fun e => h4 (UInt8.toNat_inj.1 e)
              have h7 := c.toNat_lt
              rw [UInt8.toNat_add]
              show (c.toNat + 1) % 256 = _
              omega
            rw [if_pos (UInt8.lt_iff_toNat_lt.2 (by omega))]
        · rw [if_neg h3, lt_live2, hcmp, if_neg (UInt8.lt_irrefl c), if_neg (UInt8.lt_irrefl c)]
          have hp : pastF r = ⟨(pastF r).a, false⟩ := by
            cases hq : pastF r with
            | mk a e => rw [hq] at h3; cases e with
              | false => rfl
              | true => exact absurd rfl h3
          rw [hp, lt_live2]
end Go.Proofs.YtlhbpflcffjhmaaGreat

namespace Go.Proofs.YtlhbpflcffjhmaaGreat

theorem inL_one (c : Cut) (x : Sp) : inL c [x] = inS c x := by simp [inL]
theorem one_has {x v : V} (hm : mayV x = true) (kv : inN v.n) (kx : inN x.n) : (oneV x).has v = decide (cmpV v x = 0) := by
  have hk3 : 1 ≤ x.k ∧ x.k ≤ 3 := by
    unfold mayV at hm
    by_cases h1 : x.k = 1
    · omega
    · rw [if_neg h1] at hm
      by_cases h2 : x.k = 2
      · omega
      · rw [if_neg h2] at hm
        by_cases h3 : x.k = 3
        · omega
        · rw [if_neg h3] at hm; cases hm
  have hl : ofL ⟨[], 2, x, []⟩ = fullS [⟨atV x, (aroundV x).2⟩] := by unfold ofL atV; rw [if_pos rfl]
  unfold oneV Rg.has
  by_cases hk : v.k = x.k
  · rw [if_neg (by omega), hl]
    have hs : (setR x.k (fullS [⟨atV x, (aroundV x).2⟩])).of v.k = fullS [⟨atV x, (aroundV x).2⟩] := by
      unfold setR Rg.of
      rw [hk]
      have hc : x.k = 1 ∨ x.k = 2 ∨ x.k = 3 := by omega
      rcases hc with h | h | h <;> rw [h] <;> rfl
    rw [hs, inL_full, inL_one]
    unfold inS
    simp only
    rw [at_lt hk (by omega) (by omega) kv kx, at_next hk (by omega) (by omega) kv kx]
    rw [Bool.eq_iff_iff, Bool.and_eq_true, Bool.not_eq_true', decide_eq_false_iff_not, decide_eq_true_iff, decide_eq_true_iff]
    omega
  · have hz : ¬ cmpV v x = 0 := fun e => hk (cmpV_kind e)
    rw [decide_eq_false hz]
    by_cases ho : v.k < 1 ∨ 3 < v.k
    · rw [if_pos ho]
      unfold setR
      repeat' split
      all_goals rfl
    · rw [if_neg ho]
      have hs : (setR x.k (ofL ⟨[], 2, x, []⟩)).of v.k = [] := by
        unfold setR Rg.of
        have hc : x.k = 1 ∨ x.k = 2 ∨ x.k = 3 := by omega
        have hd : v.k = 1 ∨ v.k = 2 ∨ v.k = 3 := by omega
        rcases hc with h | h | h <;> rcases hd with h2 | h2 | h2 <;> first | exact absurd (h2.trans h.symm) hk | (rw [h, h2]; rfl)
      rw [hs]; rfl
theorem may_kind {x : V} (hm : mayV x = true) : 1 ≤ x.k ∧ x.k ≤ 3 := by
  unfold mayV at hm
  by_cases h1 : x.k = 1
  · omega
  · rw [if_neg h1] at hm
    by_cases h2 : x.k = 2
    · omega
    · rw [if_neg h2] at hm
      by_cases h3 : x.k = 3
      · omega
      · rw [if_neg h3] at hm; cases hm
theorem has_set {k : Int} {l : List Sp} {v : V} (h1 : 1 ≤ k) (h3 : k ≤ 3) : (setR k l).has v = (decide (v.k = k) && inL (atV v) l) := by
  unfold Rg.has
  by_cases hk : v.k = k
  · rw [if_neg (by omega), decide_eq_true hk, Bool.true_and, hk]
    have hc : k = 1 ∨ k = 2 ∨ k = 3 := by omega
    rcases hc with h | h | h <;> subst h <;> rfl
  · rw [decide_eq_false hk, Bool.false_and]
    by_cases ho : v.k < 1 ∨ 3 < v.k
    · rw [if_pos ho]
      unfold setR
      repeat' split
      all_goals rfl
    · rw [if_neg ho]
      have hc : k = 1 ∨ k = 2 ∨ k = 3 := by omega
      have hd : v.k = 1 ∨ v.k = 2 ∨ v.k = 3 := by omega
      rcases hc with h | h | h <;> rcases hd with h2 | h2 | h2 <;> first | exact absurd (h2.trans h.symm) hk | (rw [h, h2]; rfl)
theorem all_same_has {c : C} (h1 : c.op = 1) (hm : mayC c = true) (v : V) : (ofR c).has v = true := by
  unfold ofR
  rw [hm, if_neg (by decide), if_pos h1]
  exact all_has v
theorem holds_has {c : C} (hm : mayC c = true) (kc : inN c.v.n) (ks : ∀ x ∈ c.set, inN x.n) {v : V} (kv : inN v.n) : (ofR c).has v = holdsC c v := by
  by_cases h1 : c.op = 1
  · rw [all_same_has h1 hm]
    unfold holdsC; rw [if_pos h1]
  by_cases h9 : c.op = 9
  · rw [has_in hm h9]
    unfold holdsC
    rw [if_neg h1, if_pos h9]
    have hall : ∀ x ∈ c.set, mayV x = true := by
      unfold mayC at hm
      by_cases hn : c.name.length < 1 ∨ 16 < c.name.length
      · rw [if_pos hn] at hm; cases hm
      · rw [if_neg hn, if_neg h1, if_neg (by omega), if_neg (by omega), if_pos h9] at hm
        simp only [Bool.and_eq_true] at hm
        exact fun x hx => List.all_eq_true.1 hm.2 x hx
    rw [Bool.eq_iff_iff, List.any_eq_true, List.any_eq_true]
    constructor
    · rintro ⟨x, hx, h⟩; exact ⟨x, hx, by rw [one_has (hall x hx) kv (ks x hx)] at h; exact h⟩
    · rintro ⟨x, hx, h⟩; exact ⟨x, hx, by rw [one_has (hall x hx) kv (ks x hx)]; exact h⟩
  · have hmv : mayV c.v = true ∧ (2 ≤ c.op ∧ c.op ≤ 8) ∧ (c.op = 8 → c.v.k = 2) := by
      unfold mayC at hm
      by_cases hn : c.name.length < 1 ∨ 16 < c.name.length
      · rw [if_pos hn] at hm; cases hm
      · rw [if_neg hn, if_neg h1] at hm
        by_cases h27 : 2 ≤ c.op ∧ c.op ≤ 7
        · rw [if_pos h27] at hm
          simp only [Bool.and_eq_true] at hm
          exact ⟨hm.1, by omega, fun h => by omega⟩
        · rw [if_neg h27] at hm
          by_cases h8 : c.op = 8
          · rw [if_pos h8] at hm
            simp only [Bool.and_eq_true, decide_eq_true_eq] at hm
            exact ⟨hm.1.1, by omega, fun _ => hm.1.2⟩
          · rw [if_neg h8, if_neg h9] at hm; cases hm
    obtain ⟨hmv, hop, hk2⟩ := hmv
    obtain ⟨k1, k3⟩ := may_kind hmv
    have e : (ofR c).has v = (decide (v.k = c.v.k) && inL (atV v) (ofL c)) := by
      unfold ofR
      rw [hm, if_neg (by decide), if_neg h1, if_neg h9]
      exact has_set k1 k3
    rw [e]
    unfold holdsC
    rw [if_neg h1, if_neg h9]
    by_cases hk : v.k = c.v.k
    · rw [decide_eq_true hk, Bool.true_and, if_pos hk]
      have a1 := at_lt hk (by omega) (by omega) kv kc
      have a2 := at_next hk (by omega) (by omega) kv kc
      have a3 := at_first kv
      have a4 := at_end v
      rw [hk] at a3
      unfold atV at a1
      have a1' : Cut.lt (atV v) (aroundV c.v).1 = decide (cmpV v c.v < 0) := a1
      unfold ofL
      rw [inL_full]
      by_cases h2 : c.op = 2
      · rw [if_pos h2, if_pos h2, inL_one]
        unfold inS
        simp only
        rw [a1', a2, Bool.eq_iff_iff, Bool.and_eq_true, Bool.not_eq_true', decide_eq_false_iff_not, decide_eq_true_iff, decide_eq_true_iff]
        omega
      rw [if_neg h2, if_neg h2]
      by_cases h3 : c.op = 3
      · rw [if_pos h3, if_pos h3]
        have : ∀ x y : Sp, inL (atV v) [x, y] = (inS (atV v) x || inS (atV v) y) := fun x y => by simp [inL]
        rw [this]
        unfold inS
        simp only
        rw [a1', a2, a3, a4, Bool.not_false, Bool.true_and, Bool.and_true, Bool.eq_iff_iff, Bool.or_eq_true, Bool.not_eq_true', Bool.not_eq_true', decide_eq_false_iff_not, decide_eq_false_iff_not, decide_eq_true_iff]
        omega
      rw [if_neg h3, if_neg h3]
      by_cases h4 : c.op = 4
      · rw [if_pos h4, if_pos h4, inL_one]
        unfold inS
        simp only
        rw [a1', a3]; rfl
      rw [if_neg h4, if_neg h4]
      by_cases h5 : c.op = 5
      · rw [if_pos h5, if_pos h5, inL_one]
        unfold inS
        simp only
        rw [a2, a3]; rfl
      rw [if_neg h5, if_neg h5]
      by_cases h6 : c.op = 6
      · rw [if_pos h6, if_pos h6, inL_one]
        unfold inS
        simp only
        rw [a2, a4, Bool.and_true, Bool.eq_iff_iff, Bool.not_eq_true', decide_eq_false_iff_not, decide_eq_true_iff]
        omega
      rw [if_neg h6, if_neg h6]
      by_cases h7 : c.op = 7
      · rw [if_pos h7, if_pos h7, inL_one]
        unfold inS
        simp only
        rw [a1', a4, Bool.and_true, Bool.eq_iff_iff, Bool.not_eq_true', decide_eq_false_iff_not, decide_eq_true_iff]
        omega
      rw [if_neg h7, if_neg h7]
      have h8 : c.op = 8 := by omega
      rw [if_pos h8, if_pos h8, inL_one]
      have hc2 := hk2 h8
      unfold inS atV
      simp only
      rw [around_k2 hc2, around_k2 (hk.trans hc2), decide_eq_true (hk.trans hc2), Bool.true_and]
      simp only
      rw [lt_live2]
      exact past_law c.v.s v.s
    · rw [decide_eq_false hk, Bool.false_and, if_neg hk]
end Go.Proofs.YtlhbpflcffjhmaaGreat

namespace Go.Proofs.YtlhbpflcffjhmaaGreat

def inC (c : C) : Prop := inN c.v.n ∧ ∀ x ∈ c.set, inN x.n
theorem in0 : inN 0 := ⟨by decide, by decide⟩
theorem some_in {r : Rg} (h : Good4 r) : inN (someR r).1.n := by
  unfold someR
  cases hi : r.i with
  | cons x l =>
    have hx := h.i x (by rw [hi]; exact List.mem_cons_self)
    have he := lt_live hx.2.2
    have hl : x.lo.a.length = 8 := by
      rcases hx.1 with h1 | h1
      · rw [he] at h1; cases h1
      · exact h1
    have := wholeF_lt 8 _ hl
    unfold inN
    show -9223372036854775808 ≤ (wholeF x.lo.a : Int) - 9223372036854775808 ∧ (wholeF x.lo.a : Int) - 9223372036854775808 ≤ 9223372036854775807
    have e : (256 : Nat) ^ 8 = 18446744073709551616 := by decide
    rw [e] at this
    omega
  | nil =>
    cases hs : r.s with
    | cons x l => exact in0
    | nil =>
      cases hb : r.b with
      | cons x l => exact in0
      | nil => exact in0
theorem match_of {p : List C} {l : List (List UInt8 × V)} (hp : mayP p = true) (kp : ∀ c ∈ p, inC c) (h : ∀ n ∈ namesF p, ∃ v, getE l n = some v ∧ inN v.n ∧ (askedF p n).has v = true) : matchP p l = true := by
  unfold matchP
  rw [List.all_eq_true]
  intro c hc
  obtain ⟨v, h1, h2, h3⟩ := h c.name ((names_mem p c.name).2 ⟨c, hc, rfl⟩)
  rw [asked_has hp, List.all_eq_true] at h3
  have h4 := h3 c hc
  rw [decide_eq_true rfl, Bool.not_true, Bool.false_or, holds_has (may_all hp c hc) (kp c hc).1 (kp c hc).2 h2] at h4
  unfold asksE
  rw [h1]; exact h4
theorem getE_map (f : List UInt8 → V) : ∀ (l : List (List UInt8)) (n : List UInt8), n ∈ l → getE (l.map fun n => (n, f n)) n = some (f n)
  | [], n, h => by cases h
  | x :: r, n, h => by
    unfold getE
    rw [List.map_cons, List.find?_cons]
    by_cases hx : x = n
    · subst hx; simp
    · simp only [hx, decide_false]
      exact getE_map f r n (by rcases List.mem_cons.1 h with h | h; exact absurd h.symm hx; exact h)
theorem ex_law {p q : List C} (h : overlapsF p q = true) (kp : ∀ c ∈ p, inC c) (kq : ∀ c ∈ q, inC c) :
    matchP p ((bothF p q).map fun n => (n, (someR ((askedF p n).and (askedF q n))).1)) = true ∧ matchP q ((bothF p q).map fun n => (n, (someR ((askedF p n).and (askedF q n))).1)) = true := by
  obtain ⟨hp, hq, hn⟩ := (overlaps_iff p q).1 h
  have key : ∀ n, n ∈ namesF p ∨ n ∈ namesF q → getE ((bothF p q).map fun n => (n, (someR ((askedF p n).and (askedF q n))).1)) n = some (someR ((askedF p n).and (askedF q n))).1 ∧ inN (someR ((askedF p n).and (askedF q n))).1.n ∧ (askedF p n).has (someR ((askedF p n).and (askedF q n))).1 = true ∧ (askedF q n).has (someR ((askedF p n).and (askedF q n))).1 = true := fun n hm => by
    have hg := apart_good p q n
    obtain ⟨v, v1, v2⟩ := hn n hm
    have hne : ((askedF p n).and (askedF q n)).empty = false := by
      cases he : ((askedF p n).and (askedF q n)).empty with
      | false => rfl
      | true =>
        have := (empty_iff hg).1 he v
        rw [has_and, v1, v2] at this; cases this
    have hs := some_law hg
    have h2 : (someR ((askedF p n).and (askedF q n))).2 = true := by rw [hs.1, hne]; rfl
    have h3 := hs.2 h2
    rw [has_and, Bool.and_eq_true] at h3
    exact ⟨getE_map _ _ n ((both_mem p q n).2 hm), some_in hg, h3.1, h3.2⟩
  exact ⟨match_of hp kp fun n hm => ⟨_, (key n (.inl hm)).1, (key n (.inl hm)).2.1, (key n (.inl hm)).2.2.1⟩, match_of hq kq fun n hm => ⟨_, (key n (.inr hm)).1, (key n (.inr hm)).2.1, (key n (.inr hm)).2.2.2⟩⟩
theorem asked_of {p : List C} {l : List (List UInt8 × V)} (hp : mayP p = true) (kp : ∀ c ∈ p, inC c) (h : matchP p l = true) {n : List UInt8} {v : V} (hg : getE l n = some v) (hv : inN v.n) : (askedF p n).has v = true := by
  rw [asked_has hp, List.all_eq_true]
  intro c hc
  by_cases hn : c.name = n
  · have h1 := List.all_eq_true.1 h c hc
    unfold asksE at h1
    rw [hn, hg] at h1
    rw [decide_eq_true hn, Bool.not_true, Bool.false_or, holds_has (may_all hp c hc) (kp c hc).1 (kp c hc).2 hv]
    exact h1
  · rw [decide_eq_false hn]; rfl
theorem asked_get {p : List C} {l : List (List UInt8 × V)} (h : matchP p l = true) {n : List UInt8} (hn : n ∈ namesF p) : ∃ v, getE l n = some v := by
  obtain ⟨c, hc, rfl⟩ := (names_mem p n).1 hn
  have h1 := List.all_eq_true.1 h c hc
  unfold asksE at h1
  cases hg : getE l c.name with
  | none => rw [hg] at h1; cases h1
  | some v => exact ⟨v, rfl⟩
theorem getE_in {l : List (List UInt8 × V)} (hl : ∀ a ∈ l, inN a.2.n) {n : List UInt8} {v : V} (h : getE l n = some v) : inN v.n := by
  unfold getE at h
  cases hf : l.find? fun a => decide (a.1 = n) with
  | none => rw [hf] at h; cases h
  | some a =>
    rw [hf] at h
    simp only [Option.map_some, Option.some.injEq] at h
    rw [← h]
    exact hl a (List.mem_of_find?_eq_some hf)
theorem overlaps_of {p q : List C} {l : List (List UInt8 × V)} (hp : mayP p = true) (hq : mayP q = true) (kp : ∀ c ∈ p, inC c) (kq : ∀ c ∈ q, inC c) (h1 : matchP p l = true) (h2 : matchP q l = true) (hl : ∀ a ∈ l, inN a.2.n) : overlapsF p q = true := by
  refine (overlaps_iff p q).2 ⟨hp, hq, fun n hn => ?_⟩
  obtain ⟨v, hv⟩ : ∃ v, getE l n = some v := by
    rcases hn with hn | hn
    · exact asked_get h1 hn
    · exact asked_get h2 hn
  have hin := getE_in hl hv
  exact ⟨v, asked_of hp kp h1 hv hin, asked_of hq kq h2 hv hin⟩
end Go.Proofs.YtlhbpflcffjhmaaGreat
