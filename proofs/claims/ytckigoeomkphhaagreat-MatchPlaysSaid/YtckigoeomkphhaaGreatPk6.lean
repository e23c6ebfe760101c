/- cmp.Or, the whole order of values.
slices.CompareFunc at values; the order of constraints.
The reference's whole, Order, Compare, Same (pneumaticref04).
The order of constraints; CompareFunc at constraints; Compare, Same.
The reference's Order, Compare, Same (pneumaticref04).
Covering and overlapping, plainly: normal forms, fewer constraints, both together; what no event matches. No program is in sight.
Spans that rise: how many there can be. No program is in sight. -/
import Derived.Deep.QuietTactic
import Derived.BigQuiet
import Derived.Test.YtckigoeomkphhaaGreatPk5
import Derived.Test.YtckigoeomkphhaaGreatPk3
import Derived.Test.YtckigoeomkphhaaGreatPk2
namespace Go.Proofs.YtckigoeomkphhaaGreat
open Go.RowKit

def orL : List Int → Int
  | [] => 0
  | x :: r => if x = 0 then orL r else x
theorem orL4 (a b c d : Int) : orL [a, b, c, d] = or2 a (or2 b (or2 c d)) := by
  simp only [orL, or2]
  (repeat' split) <;> simp_all
theorem orL_zero {l : List Int} {k : Nat} (hk : k < l.length) (h : l[k] = 0) : orL (l.drop k) = orL (l.drop (k + 1)) := by
  rw [List.drop_eq_getElem_cons hk, orL, if_pos h]
theorem orL_hit {l : List Int} {k : Nat} (hk : k < l.length) (h : l[k] ≠ 0) : orL (l.drop k) = l[k] := by
  rw [List.drop_eq_getElem_cons hk, orL, if_neg h]

set_option maxRecDepth 100000 in
set_option maxHeartbeats 2000000 in
theorem or_any (w : World) (v : Value) (l : List Int) (h : Row w 1 v l.length (l.map (Value.int .i64))) : Calls Tryz.prog 103 #[v] w fun e w' => e = .returned (.int .i64 (orL l)) ∧ w' = w := by
  obtain ⟨a, cap, rfl, hc, hm⟩ := Row.shape h
  unfold maxLen at hm
  generalize hn : l.length = n at *
  have HN := Lib.hid hn
  clear hn
  go_enter Tryz.func103, Tryz.ntmps103
  go_wp2_with fail
  go_loopw [5, 8] (fun _ i wr => ∃ k : Nat, k ≤ n ∧ i = .int .i64 k ∧ Hid (orL (l.drop k) = orL l) ∧ wr = w) (fun _ i _ => n - (intOf i).toNat)
  case atStart => exact ⟨0, Nat.zero_le _, rfl, rfl, rfl⟩
  case round =>
    obtain ⟨k, hk, rfl, hor, rfl⟩ := hrel
    by_cases hlt : k < n
    · have k1 : k < l.length := by rw [HN.out]; exact hlt
      have hI : decide ((k : Int) < (n : Int)) = true := decide_eq_true (by omega)
      obtain ⟨B, o, rfl, f0⟩ := Row.cell h (j := k) (u := .int .i64 l[k]) (by rw [List.getElem?_map, List.getElem?_eq_getElem k1]; rfl) (by omega)
      by_cases hz : l[k] = 0
      · have hnx : Hid (orL (l.drop (k + 1)) = orL l) := by show _ = _; rw [← orL_zero k1 hz, hor.out]
        rw [hz] at f0
        clear hz
        go_wp2_with fail
        go_roundw
        case rel => exact ⟨k + 1, hlt, by go_num, hnx, by first | rfl | trivial⟩
        case measure => simp [intOf]; omega
      · have hhit : Hid (orL l = l[k]) := by show _ = _; rw [← hor.out, orL_hit k1 hz]
        have hd : (l[k] != 0) = true := by simp [hz]
        have hd1 : (l[k] == 0) = false := beq_int_ne hz
        generalize l[k] = x at *
        replace hz := Lib.hid hz
        go_wp2_with fail
        go_ret
        exact ⟨by rw [hhit.out]; rfl, rfl⟩
    · obtain rfl : k = n := by omega
      have hI : decide ((k : Int) < (k : Int)) = false := decide_eq_false (by omega)
      have hz : Hid (orL l = 0) := by show _ = _; rw [← hor.out, ← HN.out, List.drop_length]; rfl
      go_wp2_with fail
      go_ret
      exact ⟨by rw [hz.out]; rfl, rfl⟩

/-- Worlds that grew and drew: a way in which memory may turn. -/
def GrewS : Rg.Step := ⟨Grew, Grew.refl, fun h k => Grew.trans h k, fun w => (Grew.refl w).drew⟩
def Rg.Fact.ints (l : List Int) : Rg.Fact GrewS := ⟨fun v w => Row w 1 v l.length (l.map (Value.int .i64)), fun _ _ _ hx h => Row.ext h hx.1⟩
theorem row_four (w : World) (a b c d : Int) : Row (w.alloc (.cells #[.int .i64 a, .int .i64 b, .int .i64 c, .int .i64 d] 3)) 1 (.slice (some ⟨w.heap.size, 0, none⟩) 4 4) [a, b, c, d].length ([a, b, c, d].map (Value.int .i64)) := by
  have := World.ownsRow_lit (base := w.heap.size) (e := 3) (size := 1) w #[.int .i64 a, .int .i64 b, .int .i64 c, .int .i64 d] 4 (Nat.le_refl _) (by decide) rfl
  exact Row.of_own this

set_option maxRecDepth 100000 in
set_option maxHeartbeats 4000000 in
theorem whole_any (w : World) (a b : V) :
    Calls Tryz.prog 104 #[.agg #[.int .i64 a.k, .int .i64 a.n, .string (strOf a.s), .bool a.b], .agg #[.int .i64 b.k, .int .i64 b.n, .string (strOf b.s), .bool b.b]] w
      fun e w' => e = .returned (.int .i64 (wholeV a b)) ∧ Grew w w' := by
  have hx0 : Grew w ((w.alloc (.cells #[.int .i64 a.k, .int .i64 a.n, .string (strOf a.s), .bool a.b] 49)).alloc (.cells #[.int .i64 b.k, .int .i64 b.n, .string (strOf b.s), .bool b.b] 49)) := ((Grew.refl w).alloc _).alloc _
  have hA : ((w.alloc (.cells #[.int .i64 a.k, .int .i64 a.n, .string (strOf a.s), .bool a.b] 49)).alloc (.cells #[.int .i64 b.k, .int .i64 b.n, .string (strOf b.s), .bool b.b] 49)).heap[w.heap.size]? = some (.cells #[.int .i64 a.k, .int .i64 a.n, .string (strOf a.s), .bool a.b] 49 (0, 0)) := by
    have h := heap_alloc_new w (.cells #[.int .i64 a.k, .int .i64 a.n, .string (strOf a.s), .bool a.b] 49)
    rw [((Ext.refl _).alloc _).block _ (Array.getElem?_eq_some_iff.1 h).1]; exact h
  have hN : ((w.alloc (.cells #[.int .i64 a.k, .int .i64 a.n, .string (strOf a.s), .bool a.b] 49)).alloc (.cells #[.int .i64 b.k, .int .i64 b.n, .string (strOf b.s), .bool b.b] 49)).heap[w.heap.size + 1]? = some (.cells #[.int .i64 b.k, .int .i64 b.n, .string (strOf b.s), .bool b.b] 49 (0, 0)) := by
    have h := heap_alloc_new (w.alloc (.cells #[.int .i64 a.k, .int .i64 a.n, .string (strOf a.s), .bool a.b] 49)) (.cells #[.int .i64 b.k, .int .i64 b.n, .string (strOf b.s), .bool b.b] 49)
    rw [World.size_alloc] at h; exact h
  have a0 := cell_of_row _ _ 0 _ _ _ hA
  have a1 := cell_of_row _ _ 1 _ _ _ hA
  have a2 := cell_of_row _ _ 2 _ _ _ hA
  have a3 := cell_of_row _ _ 3 _ _ _ hA
  have b0 := cell_of_row _ _ 0 _ _ _ hN
  have b1 := cell_of_row _ _ 1 _ _ _ hN
  have b2 := cell_of_row _ _ 2 _ _ _ hN
  have b3 := cell_of_row _ _ 3 _ _ _ hN
  have hres : wholeV a b = orL [cmpV a b, Lib.compareInt a.n b.n, Lib.compareBytes a.s b.s, cmpB a.b b.b] := by rw [orL4]; rfl
  have hcB : ∀ W, Calls Tryz.prog 51 #[.agg #[.int .i64 3, .int .i64 0, .string (strOf []), .bool a.b], .agg #[.int .i64 3, .int .i64 0, .string (strOf []), .bool b.b]] W fun e w' => e = .returned (.int .i64 (cmpB a.b b.b)) ∧ Grew W w' := fun W => compare_any W 3 0 3 0 [] [] a.b b.b
  rw [hres]
  clear hA hN hres
  go_enter Tryz.func104, Tryz.ntmps104
  go_upto_region 1 with fail
  generalize (w.alloc (.cells #[.int .i64 a.k, .int .i64 a.n, .string (strOf a.s), .bool a.b] 49)).alloc (.cells #[.int .i64 b.k, .int .i64 b.n, .string (strOf b.s), .bool b.b] 49) = wa at *
  refine Rg.wp_region_facts GrewS [Rg.Fact.eq _ (.agg #[.int .i64 a.k, .int .i64 a.n, .string (strOf a.s), .bool a.b]),
      Rg.Fact.eq _ (.agg #[.int .i64 b.k, .int .i64 b.n, .string (strOf b.s), .bool b.b]),
      Rg.Fact.eq _ (.int .i64 (cmpV a b)),
      Rg.Fact.eq _ (.pointer (some ⟨w.heap.size, 1, none⟩)),
      Rg.Fact.eq _ (.int .i64 a.n),
      Rg.Fact.eq _ (.pointer (some ⟨w.heap.size + 1, 1, none⟩)),
      Rg.Fact.eq _ (.int .i64 b.n),
      Rg.Fact.eq _ (.int .i64 (Lib.compareInt a.n b.n)),
      Rg.Fact.eq _ (.pointer (some ⟨w.heap.size, 2, none⟩)),
      Rg.Fact.eq _ (.string (strOf a.s)),
      Rg.Fact.eq _ (.pointer (some ⟨w.heap.size + 1, 2, none⟩)),
      Rg.Fact.eq _ (.string (strOf b.s)),
      Rg.Fact.eq _ (.int .i64 (Lib.compareBytes a.s b.s)),
      Rg.Fact.eq _ (.pointer (some ⟨w.heap.size, 3, none⟩)),
      Rg.Fact.eq _ (.bool a.b),
      Rg.Fact.eq _ (.agg #[.int .i64 3, .int .i64 0, .string (strOf []), .bool a.b]),
      Rg.Fact.eq _ (.pointer (some ⟨w.heap.size + 1, 3, none⟩)),
      Rg.Fact.eq _ (.bool b.b),
      Rg.Fact.eq _ (.agg #[.int .i64 3, .int .i64 0, .string (strOf []), .bool b.b]),
      Rg.Fact.eq _ (.int .i64 (cmpB a.b b.b)),
      Rg.Fact.ints [cmpV a b, Lib.compareInt a.n b.n, Lib.compareBytes a.s b.s, cmpB a.b b.b],
      Rg.Fact.eq _ (.int .i64 (orL [cmpV a b, Lib.compareInt a.n b.n, Lib.compareBytes a.s b.s, cmpB a.b b.b])),
      Rg.Fact.eq _ (.int .i64 (orL [cmpV a b, Lib.compareInt a.n b.n, Lib.compareBytes a.s b.s, cmpB a.b b.b]))]
    [[], [], [(0, 5), (1, 6)], [], [(3, 8)], [], [(5, 10)], [(4, 9), (6, 11)], [], [(8, 13)], [], [(10, 15)], [(9, 14), (11, 16)], [], [(13, 18)], [(14, 19)], [], [(16, 21)], [(17, 22)], [(15, 20), (18, 23)], [(2, 7), (7, 12), (12, 17), (19, 24)], [(20, 25)], [(21, 26)]]
    [(0, 5), (1, 6), (2, 7), (3, 8), (4, 9), (5, 10), (6, 11), (7, 12), (8, 13), (9, 14), (10, 15), (11, 16), (12, 17), (13, 18), (14, 19), (15, 20), (16, 21), (17, 22), (18, 23), (19, 24), (20, 25), (21, 26), (22, 4)] (by kernel_rfl) (by kernel_rfl) ?_ ?_
  · refine ⟨?_, ?_, ?_, ?_, ?_, ?_, ?_, ?_, ?_, ?_, ?_, ?_, ?_, ?_, ?_, ?_, ?_, ?_, ?_, ?_, ?_, ?_, ?_, trivial⟩
    · intro w1 hx1; change wpList _ _ _ _ _ _; have m0 := hx1.1.cell a0; have m1 := hx1.1.cell a1; have m2 := hx1.1.cell a2; have m3 := hx1.1.cell a3; go_wp2_with fail; exact ⟨rfl, GrewS.refl _, rfl, rfl⟩
    · intro w1 hx1; change wpList _ _ _ _ _ _; have m0 := hx1.1.cell b0; have m1 := hx1.1.cell b1; have m2 := hx1.1.cell b2; have m3 := hx1.1.cell b3; go_wp2_with fail; exact ⟨rfl, GrewS.refl _, rfl, rfl⟩
    · intro w1 hx1; rintro _ rfl; rintro _ rfl; change wpList _ _ _ _ _ _; go_wp2_with fail; refine (cmpV_any _ a b).mono ?_; rintro e w2 ⟨rfl, hx2⟩; go_wp2_with fail; exact ⟨rfl, hx2, rfl, rfl⟩
    · intro w1 hx1; change wpList _ _ _ _ _ _; go_wp2_with fail; exact ⟨rfl, GrewS.refl _, rfl, rfl⟩
    · intro w1 hx1; rintro _ rfl; change wpList _ _ _ _ _ _; have m := hx1.1.cell a1; go_wp2_with fail; exact ⟨rfl, GrewS.refl _, rfl, rfl⟩
    · intro w1 hx1; change wpList _ _ _ _ _ _; go_wp2_with fail; exact ⟨rfl, GrewS.refl _, rfl, rfl⟩
    · intro w1 hx1; rintro _ rfl; change wpList _ _ _ _ _ _; have m := hx1.1.cell b1; go_wp2_with fail; exact ⟨rfl, GrewS.refl _, rfl, rfl⟩
    · intro w1 hx1; rintro _ rfl; rintro _ rfl; change wpList _ _ _ _ _ _; go_wp2_with fail; refine (cmpint64_any _ _ _).mono ?_; rintro e w2 ⟨rfl, rfl⟩; go_wp2_with fail; exact ⟨rfl, GrewS.refl _, rfl, rfl⟩
    · intro w1 hx1; change wpList _ _ _ _ _ _; go_wp2_with fail; exact ⟨rfl, GrewS.refl _, rfl, rfl⟩
    · intro w1 hx1; rintro _ rfl; change wpList _ _ _ _ _ _; have m := hx1.1.cell a2; go_wp2_with fail; exact ⟨rfl, GrewS.refl _, rfl, rfl⟩
    · intro w1 hx1; change wpList _ _ _ _ _ _; go_wp2_with fail; exact ⟨rfl, GrewS.refl _, rfl, rfl⟩
    · intro w1 hx1; rintro _ rfl; change wpList _ _ _ _ _ _; have m := hx1.1.cell b2; go_wp2_with fail; exact ⟨rfl, GrewS.refl _, rfl, rfl⟩
    · intro w1 hx1; rintro _ rfl; rintro _ rfl; change wpList _ _ _ _ _ _; go_wp2_with fail; refine (cmpstr_any _ _ _).mono ?_; rintro e w2 ⟨rfl, rfl⟩; go_wp2_with fail; exact ⟨rfl, GrewS.refl _, rfl, rfl⟩
    · intro w1 hx1; change wpList _ _ _ _ _ _; go_wp2_with fail; exact ⟨rfl, GrewS.refl _, rfl, rfl⟩
    · intro w1 hx1; rintro _ rfl; change wpList _ _ _ _ _ _; have m := hx1.1.cell a3; go_wp2_with fail; exact ⟨rfl, GrewS.refl _, rfl, rfl⟩
    · intro w1 hx1; rintro _ rfl; change wpList _ _ _ _ _ _; go_wp2_with fail; refine (truth_any _ _).mono ?_; rintro e w2 ⟨rfl, hx2⟩; go_wp2_with fail; exact ⟨rfl, hx2, rfl, rfl⟩
    · intro w1 hx1; change wpList _ _ _ _ _ _; go_wp2_with fail; exact ⟨rfl, GrewS.refl _, rfl, rfl⟩
    · intro w1 hx1; rintro _ rfl; change wpList _ _ _ _ _ _; have m := hx1.1.cell b3; go_wp2_with fail; exact ⟨rfl, GrewS.refl _, rfl, rfl⟩
    · intro w1 hx1; rintro _ rfl; change wpList _ _ _ _ _ _; go_wp2_with fail; refine (truth_any _ _).mono ?_; rintro e w2 ⟨rfl, hx2⟩; go_wp2_with fail; exact ⟨rfl, hx2, rfl, rfl⟩
    · intro w1 hx1; rintro _ rfl; rintro _ rfl; change wpList _ _ _ _ _ _; go_wp2_with fail; refine (hcB _).mono ?_; rintro e w2 ⟨rfl, hx2⟩; go_wp2_with fail; exact ⟨rfl, hx2, rfl, rfl⟩
    · intro w1 hx1; rintro _ rfl; rintro _ rfl; rintro _ rfl; rintro _ rfl; change wpList _ _ _ _ _ _; have hr := row_four w1 (cmpV a b) (Lib.compareInt a.n b.n) (Lib.compareBytes a.s b.s) (cmpB a.b b.b); go_wp2_with fail; exact ⟨rfl, (Grew.refl w1).alloc _, rfl, hr⟩
    · intro w1 hx1; intro v25 h25; change wpList _ _ _ _ _ _; go_wp2_with fail; refine (or_any _ _ _ h25).mono ?_; rintro e w2 ⟨rfl, rfl⟩; go_wp2_with fail; exact ⟨rfl, GrewS.refl _, rfl, rfl⟩
    · intro w1 hx1; rintro _ rfl; change wpList _ _ _ _ _ _; exact Rg.ob_assign _ rfl rfl rfl rfl rfl
  · intro w1 hx1; rintro _ rfl; rintro _ rfl; rintro _ rfl; rintro _ rfl; rintro _ rfl; rintro _ rfl; rintro _ rfl; rintro _ rfl; rintro _ rfl; rintro _ rfl; rintro _ rfl; rintro _ rfl; rintro _ rfl; rintro _ rfl; rintro _ rfl; rintro _ rfl; rintro _ rfl; rintro _ rfl; rintro _ rfl; rintro _ rfl; intro v25 h25; rintro _ rfl; rintro _ rfl; refine depsThen_nil ?_; dsimp only; simp only [Act.put, List.setIfInBounds_toArray, List.set_cons_zero, List.set_cons_succ]
    replace h25 : (Rg.Fact.ints [cmpV a b, Lib.compareInt a.n b.n, Lib.compareBytes a.s b.s, cmpB a.b b.b]).p v25 w1 := h25
    go_wp2_with fail
    go_ret
    exact ⟨rfl, hx0.trans hx1⟩
end Go.Proofs.YtckigoeomkphhaaGreat

namespace Go.Proofs.YtckigoeomkphhaaGreat
open Go.RowKit

theorem cmpL_step {α : Type} {cf : α → α → Int} {l m : List α} {k : Nat} (h1 : k < l.length) (h2 : k < m.length) (h : cf l[k] m[k] = 0) : cmpL cf (l.drop k) (m.drop k) = cmpL cf (l.drop (k + 1)) (m.drop (k + 1)) := by
  rw [List.drop_eq_getElem_cons h1, List.drop_eq_getElem_cons h2, cmpL, if_pos h]
theorem cmpL_stop {α : Type} {cf : α → α → Int} {l m : List α} {k : Nat} (h1 : k < l.length) (h2 : k < m.length) (h : cf l[k] m[k] ≠ 0) : cmpL cf (l.drop k) (m.drop k) = cf l[k] m[k] := by
  rw [List.drop_eq_getElem_cons h1, List.drop_eq_getElem_cons h2, cmpL, if_neg h]
theorem cmpL_more {α : Type} {cf : α → α → Int} {l m : List α} {k : Nat} (h1 : k < l.length) (h2 : m.length ≤ k) : cmpL cf (l.drop k) (m.drop k) = 1 := by
  rw [List.drop_eq_getElem_cons h1, List.drop_eq_nil_of_le h2, cmpL]
theorem cmpL_less {α : Type} {cf : α → α → Int} {l m : List α} {k : Nat} (h1 : l.length ≤ k) (h2 : k < m.length) : cmpL cf (l.drop k) (m.drop k) = -1 := by
  rw [List.drop_eq_getElem_cons h2, List.drop_eq_nil_of_le h1, cmpL]
theorem cmpL_same {α : Type} {cf : α → α → Int} {l m : List α} {k : Nat} (h1 : l.length ≤ k) (h2 : m.length ≤ k) : cmpL cf (l.drop k) (m.drop k) = 0 := by
  rw [List.drop_eq_nil_of_le h2, List.drop_eq_nil_of_le h1, cmpL]

set_option maxRecDepth 100000 in
set_option maxHeartbeats 4000000 in
theorem cmpf122_any (w : World) (v1 v2 : Value) (l m : List V) (h1 : SetR w v1 l) (h2 : SetR w v2 m) (g : Nat) (cb : Array Value) (cf : V → V → Int) (eg : ∀ args w, (callFunc g args).run Tryz.prog w = .ok (.enter g args) w)
    (hc : ∀ (W : World) (x y : V), Calls Tryz.prog g (#[.agg #[.int .i64 x.k, .int .i64 x.n, .string (strOf x.s), .bool x.b], .agg #[.int .i64 y.k, .int .i64 y.n, .string (strOf y.s), .bool y.b]] ++ cb) W fun e W' => e = .returned (.int .i64 (cf x y)) ∧ Grew W W') :
    Calls Tryz.prog 105 #[v1, v2, .func (.func g) #[] cb] w fun e w' => e = .returned (.int .i64 (cmpL cf l m)) ∧ Grew w w' := by
  obtain ⟨a1, cap1, rfl, hc1, hm1⟩ := Row.shape h1
  obtain ⟨a2, cap2, rfl, hc2, hm2⟩ := Row.shape h2
  unfold maxLen at hm1 hm2
  generalize hn1 : l.length = n1 at *
  generalize hn2 : m.length = n2 at *
  have HN1 := Lib.hid hn1
  have HN2 := Lib.hid hn2
  clear hn1 hn2
  have HC := Lib.hid hc
  clear hc
  go_enter Tryz.func105, Tryz.ntmps105
  go_wp2_with fail
  go_loopw [7, 8, 9, 10, 13] (fun _ _ _ _ i wr => ∃ k : Nat, k ≤ n1 ∧ k ≤ n2 ∧ i = .int .i64 k ∧ Hid (cmpL cf (l.drop k) (m.drop k) = cmpL cf l m) ∧ Grew w wr) (fun _ _ _ _ i _ => n1 - (intOf i).toNat)
  case atStart => exact ⟨0, Nat.zero_le _, Nat.zero_le _, rfl, rfl, Grew.refl w⟩
  case round =>
    obtain ⟨k, hk, hkm, rfl, hcm, hx⟩ := hrel
    by_cases hlt : k < n1
    · have k1 : k < l.length := by rw [HN1.out]; exact hlt
      have hI : decide ((k : Int) < (n1 : Int)) = true := decide_eq_true (by omega)
      obtain ⟨B1, o1, rfl, f0, f1, f2, f3⟩ := SetR.at (h1.ext hx.1) k1
      by_cases hlm : k < n2
      · have k2 : k < m.length := by rw [HN2.out]; exact hlm
        have hI2 : decide ((n2 : Int) ≤ (k : Int)) = false := decide_eq_false (by omega)
        obtain ⟨B2, o2, rfl, g0, g1, g2, g3⟩ := SetR.at (h2.ext hx.1) k2
        have hcall := fun W => HC.out W l[k] m[k]
        have hst : cf l[k] m[k] = 0 → cmpL cf (l.drop (k + 1)) (m.drop (k + 1)) = cmpL cf l m := fun h => by rw [← cmpL_step k1 k2 h, hcm.out]
        have hsp : cf l[k] m[k] ≠ 0 → cmpL cf l m = cf l[k] m[k] := fun h => by rw [← hcm.out, cmpL_stop k1 k2 h]
        generalize l[k] = x at *
        generalize m[k] = y at *
        have hxb : ∀ o : Obj, Grew w (wr.alloc o) := fun o => hx.alloc o
        have q0 := ((Ext.refl wr).alloc (.cells #[.int .i64 x.k, .int .i64 x.n, .string (strOf x.s), .bool x.b] 49)).cell g0
        have q1 := ((Ext.refl wr).alloc (.cells #[.int .i64 x.k, .int .i64 x.n, .string (strOf x.s), .bool x.b] 49)).cell g1
        have q2 := ((Ext.refl wr).alloc (.cells #[.int .i64 x.k, .int .i64 x.n, .string (strOf x.s), .bool x.b] 49)).cell g2
        have q3 := ((Ext.refl wr).alloc (.cells #[.int .i64 x.k, .int .i64 x.n, .string (strOf x.s), .bool x.b] 49)).cell g3
        by_cases hz : cf x y = 0
        · have hres := Lib.hid (hst hz)
          rw [hz] at hcall
          have HCALL := Lib.hid hcall
          clear hz hst hsp hcall
          go_wp2_with (go_at_fn g; refine (HCALL.out _).mono ?_; rintro e w3 ⟨rfl, hx3⟩)
          go_roundw
          case rel => exact ⟨k + 1, hlt, hlm, by go_num, hres, (((hx.alloc _).alloc _).trans hx3)⟩
          case measure => simp [intOf]; omega
        · have hres := Lib.hid (hsp hz)
          have hd : (cf x y != 0) = true := by simp [hz]
          have hd1 := beq_int_ne hz
          generalize cf x y = r at *
          have HCALL := Lib.hid hcall
          clear hz hst hsp hcall
          go_wp2_with (go_at_fn g; refine (HCALL.out _).mono ?_; rintro e w3 ⟨rfl, hx3⟩)
          go_ret
          exact ⟨by rw [hres.out]; rfl, (((hx.alloc _).alloc _).trans hx3)⟩
      · obtain rfl : k = n2 := by omega
        have hI2 : decide ((k : Int) ≤ (k : Int)) = true := decide_eq_true (by omega)
        have hres : Hid (cmpL cf l m = 1) := by show _ = _; rw [← hcm.out, cmpL_more k1 (by rw [HN2.out]; omega)]
        generalize l[k] = x at *
        go_wp2_with fail
        go_ret
        exact ⟨by rw [hres.out]; rfl, hx.alloc _⟩
    · obtain rfl : k = n1 := by omega
      have hI : decide ((k : Int) < (k : Int)) = false := decide_eq_false (by omega)
      by_cases hlm : k < n2
      · have hI2 : decide ((k : Int) < (n2 : Int)) = true := decide_eq_true (by omega)
        have hres : Hid (cmpL cf l m = -1) := by show _ = _; rw [← hcm.out, cmpL_less (by rw [HN1.out]; omega) (by rw [HN2.out]; exact hlm)]
        go_wp2_with fail
        go_ret
        exact ⟨by rw [hres.out]; rfl, hx⟩
      · have hI2 : decide ((k : Int) < (n2 : Int)) = false := decide_eq_false (by omega)
        have hres : Hid (cmpL cf l m = 0) := by show _ = _; rw [← hcm.out, cmpL_same (by rw [HN1.out]; omega) (by rw [HN2.out]; omega)]
        go_wp2_with fail
        go_ret
        exact ⟨by rw [hres.out]; rfl, hx⟩
end Go.Proofs.YtckigoeomkphhaaGreat

namespace Go.Proofs.YtckigoeomkphhaaGreat
open Go.RowKit

set_option maxRecDepth 100000 in
set_option maxHeartbeats 8000000 in
theorem rwhole_any (w : World) (a b : V) :
    Calls Tryz.prog 102 #[.agg #[.int .i64 a.k, .int .i64 a.n, .string (strOf a.s), .bool a.b], .agg #[.int .i64 b.k, .int .i64 b.n, .string (strOf b.s), .bool b.b]] w fun e w' => e = .returned (.int .i64 (wholeV a b)) ∧ Grew w w' := by
  obtain ⟨hx0, hb1, hb2⟩ := boxes2 w (.cells #[.int .i64 a.k, .int .i64 a.n, .string (strOf a.s), .bool a.b] 49) (.cells #[.int .i64 b.k, .int .i64 b.n, .string (strOf b.s), .bool b.b] 49)
  have hg0 : Grew w ((w.alloc (.cells #[.int .i64 a.k, .int .i64 a.n, .string (strOf a.s), .bool a.b] 49)).alloc (.cells #[.int .i64 b.k, .int .i64 b.n, .string (strOf b.s), .bool b.b] 49)) := ((Grew.refl w).alloc _).alloc _
  have h1 : ∀ W, Calls Tryz.prog 101 #[.agg #[.int .i64 a.k, .int .i64 a.n, .string (strOf a.s), .bool a.b], .agg #[.int .i64 b.k, .int .i64 b.n, .string (strOf b.s), .bool b.b]] W fun e w' => e = .returned (.int .i64 (cmpV a b)) ∧ Grew W w' := fun W => rcompare_any W a.k a.n b.k b.n a.s b.s a.b b.b
  have h2 : ∀ W, Calls Tryz.prog 101 #[.agg #[.int .i64 1, .int .i64 a.n, .string ⟨#[]⟩, .bool false], .agg #[.int .i64 1, .int .i64 b.n, .string ⟨#[]⟩, .bool false]] W fun e w' => e = .returned (.int .i64 (Lib.compareInt a.n b.n)) ∧ Grew W w' := fun W => rcompare_any W 1 a.n 1 b.n [] [] false false
  have h3 : ∀ W, Calls Tryz.prog 101 #[.agg #[.int .i64 2, .int .i64 0, .string (strOf a.s), .bool false], .agg #[.int .i64 2, .int .i64 0, .string (strOf b.s), .bool false]] W fun e w' => e = .returned (.int .i64 (Lib.compareBytes a.s b.s)) ∧ Grew W w' := fun W => rcompare_any W 2 0 2 0 a.s b.s false false
  have h4 : ∀ W, Calls Tryz.prog 101 #[.agg #[.int .i64 3, .int .i64 0, .string ⟨#[]⟩, .bool a.b], .agg #[.int .i64 3, .int .i64 0, .string ⟨#[]⟩, .bool b.b]] W fun e w' => e = .returned (.int .i64 (cmpB a.b b.b)) ∧ Grew W w' := fun W => rcompare_any W 3 0 3 0 [] [] a.b b.b
  have H1 := Lib.hid h1
  have H2 := Lib.hid h2
  have H3 := Lib.hid h3
  have H4 := Lib.hid h4
  have HB1 := Lib.hid hb1
  have HB2 := Lib.hid hb2
  have HG0 := Lib.hid hg0
  have a0 := cell_of_row _ _ 0 _ _ _ hb1
  have a1 := cell_of_row _ _ 1 _ _ _ hb1
  have a2 := cell_of_row _ _ 2 _ _ _ hb1
  have a3 := cell_of_row _ _ 3 _ _ _ hb1
  have b0 := cell_of_row _ _ 0 _ _ _ hb2
  have b1 := cell_of_row _ _ 1 _ _ _ hb2
  have b2 := cell_of_row _ _ 2 _ _ _ hb2
  have b3 := cell_of_row _ _ 3 _ _ _ hb2
  clear h1 h2 h3 h4 hx0 hb1 hb2 hg0
  have hw : wholeV a b = if cmpV a b = 0 then (if Lib.compareInt a.n b.n = 0 then (if Lib.compareBytes a.s b.s = 0 then cmpB a.b b.b else Lib.compareBytes a.s b.s) else Lib.compareInt a.n b.n) else cmpV a b := rfl
  rw [hw]
  clear hw
  generalize cmpV a b = r1 at *
  generalize Lib.compareInt a.n b.n = r2 at *
  generalize Lib.compareBytes a.s b.s = r3 at *
  generalize cmpB a.b b.b = r4 at *
  by_cases z1 : r1 = 0
  · subst z1
    by_cases z2 : r2 = 0
    · subst z2
      by_cases z3 : r3 = 0
      · subst z3
        rw [if_pos rfl, if_pos rfl, if_pos rfl]
        go_enter Tryz.func102, Tryz.ntmps102
        go_upto_region 1 with fail
        generalize (w.alloc (.cells #[.int .i64 a.k, .int .i64 a.n, .string (strOf a.s), .bool a.b] 49)).alloc (.cells #[.int .i64 b.k, .int .i64 b.n, .string (strOf b.s), .bool b.b] 49) = w0 at *
        have HX0 : Hid (Grew w0 w0) := Grew.refl w0
        go_upto_region 2 with (go_at_call 101; (with_reducible refine (H1.out _).mono ?_); rintro e w1 ⟨rfl, hx⟩; have HX1 := Lib.hid (HX0.out.trans hx); clear hx)
        have a1' := HX1.out.1.cell a1
        have b1' := HX1.out.1.cell b1
        go_upto_region 5 with (go_at_call 101; (with_reducible refine (H2.out _).mono ?_); rintro e w2 ⟨rfl, hx⟩; have HX2 := Lib.hid (HX1.out.trans hx); clear hx)
        have a2' := HX2.out.1.cell a2
        have b2' := HX2.out.1.cell b2
        go_upto_region 8 with (go_at_call 101; (with_reducible refine (H3.out _).mono ?_); rintro e w3 ⟨rfl, hx⟩; have HX3 := Lib.hid (HX2.out.trans hx); clear hx)
        have a3' := HX3.out.1.cell a3
        have b3' := HX3.out.1.cell b3
        go_wp2_with (go_at_call 101; (with_reducible refine (H4.out _).mono ?_); rintro e w4 ⟨rfl, hx⟩; have HX4 := Lib.hid (HX3.out.trans hx); clear hx)
        go_ret
        exact ⟨rfl, HG0.out.trans HX4.out⟩
      · have d3 := beq_int_ne z3
        have d3' : (r3 != 0) = true := by simp [z3]
        rw [if_pos rfl, if_pos rfl, if_neg z3]
        clear z3
        go_enter Tryz.func102, Tryz.ntmps102
        go_upto_region 1 with fail
        generalize (w.alloc (.cells #[.int .i64 a.k, .int .i64 a.n, .string (strOf a.s), .bool a.b] 49)).alloc (.cells #[.int .i64 b.k, .int .i64 b.n, .string (strOf b.s), .bool b.b] 49) = w0 at *
        have HX0 : Hid (Grew w0 w0) := Grew.refl w0
        go_upto_region 2 with (go_at_call 101; (with_reducible refine (H1.out _).mono ?_); rintro e w1 ⟨rfl, hx⟩; have HX1 := Lib.hid (HX0.out.trans hx); clear hx)
        have a1' := HX1.out.1.cell a1
        have b1' := HX1.out.1.cell b1
        go_upto_region 5 with (go_at_call 101; (with_reducible refine (H2.out _).mono ?_); rintro e w2 ⟨rfl, hx⟩; have HX2 := Lib.hid (HX1.out.trans hx); clear hx)
        have a2' := HX2.out.1.cell a2
        have b2' := HX2.out.1.cell b2
        go_wp2_with (go_at_call 101; (with_reducible refine (H3.out _).mono ?_); rintro e w3 ⟨rfl, hx⟩; have HX3 := Lib.hid (HX2.out.trans hx); clear hx)
        go_ret
        exact ⟨rfl, HG0.out.trans HX3.out⟩
    · have d2 := beq_int_ne z2
      have d2' : (r2 != 0) = true := by simp [z2]
      rw [if_pos rfl, if_neg z2]
      clear z2
      go_enter Tryz.func102, Tryz.ntmps102
      go_upto_region 1 with fail
      generalize (w.alloc (.cells #[.int .i64 a.k, .int .i64 a.n, .string (strOf a.s), .bool a.b] 49)).alloc (.cells #[.int .i64 b.k, .int .i64 b.n, .string (strOf b.s), .bool b.b] 49) = w0 at *
      have HX0 : Hid (Grew w0 w0) := Grew.refl w0
      go_upto_region 2 with (go_at_call 101; (with_reducible refine (H1.out _).mono ?_); rintro e w1 ⟨rfl, hx⟩; have HX1 := Lib.hid (HX0.out.trans hx); clear hx)
      have a1' := HX1.out.1.cell a1
      have b1' := HX1.out.1.cell b1
      go_wp2_with (go_at_call 101; (with_reducible refine (H2.out _).mono ?_); rintro e w2 ⟨rfl, hx⟩; have HX2 := Lib.hid (HX1.out.trans hx); clear hx)
      go_ret
      exact ⟨rfl, HG0.out.trans HX2.out⟩
  · have d1 := beq_int_ne z1
    have d1' : (r1 != 0) = true := by simp [z1]
    rw [if_neg z1]
    clear z1
    go_enter Tryz.func102, Tryz.ntmps102
    go_upto_region 1 with fail
    generalize (w.alloc (.cells #[.int .i64 a.k, .int .i64 a.n, .string (strOf a.s), .bool a.b] 49)).alloc (.cells #[.int .i64 b.k, .int .i64 b.n, .string (strOf b.s), .bool b.b] 49) = w0 at *
    have HX0 : Hid (Grew w0 w0) := Grew.refl w0
    go_wp2_with (go_at_call 101; (with_reducible refine (H1.out _).mono ?_); rintro e w1 ⟨rfl, hx⟩; have HX1 := Lib.hid (HX0.out.trans hx); clear hx)
    go_ret
    exact ⟨rfl, HG0.out.trans HX1.out⟩
end Go.Proofs.YtckigoeomkphhaaGreat

namespace Go.Proofs.YtckigoeomkphhaaGreat
open Go.RowKit

theorem ent121 : ∀ args w, (callFunc 104 args).run Tryz.prog w = .ok (.enter 104 args) w := enters_of Tryz.func104 (by kernel_rfl) rfl
theorem ent65 : ∀ args w, (callFunc 66 args).run Tryz.prog w = .ok (.enter 66 args) w := enters_of Tryz.func66 (by kernel_rfl) rfl

set_option maxRecDepth 100000 in
set_option maxHeartbeats 4000000 in
theorem order_any (w : World) (a b : C) (sa : Option Addr) (ca : Nat) (sb : Option Addr) (cb : Nat) (ha : SetR w (.slice sa a.set.length ca) a.set) (hb : SetR w (.slice sb b.set.length cb) b.set) :
    Calls Tryz.prog 66 #[.agg #[.string (strOf a.name), .int .i64 a.op, .int .i64 a.v.k, .int .i64 a.v.n, .string (strOf a.v.s), .bool a.v.b, .slice sa a.set.length ca], .agg #[.string (strOf b.name), .int .i64 b.op, .int .i64 b.v.k, .int .i64 b.v.n, .string (strOf b.v.s), .bool b.v.b, .slice sb b.set.length cb]] w fun e w' => e = .returned (.int .i64 (orderC a b)) ∧ Grew w w' := by
  have hx0 : Grew w ((w.alloc (.cells #[.string (strOf a.name), .int .i64 a.op, .int .i64 a.v.k, .int .i64 a.v.n, .string (strOf a.v.s), .bool a.v.b, .slice sa a.set.length ca] 52)).alloc (.cells #[.string (strOf b.name), .int .i64 b.op, .int .i64 b.v.k, .int .i64 b.v.n, .string (strOf b.v.s), .bool b.v.b, .slice sb b.set.length cb] 52)) := ((Grew.refl w).alloc _).alloc _
  have hA : CBox ((w.alloc (.cells #[.string (strOf a.name), .int .i64 a.op, .int .i64 a.v.k, .int .i64 a.v.n, .string (strOf a.v.s), .bool a.v.b, .slice sa a.set.length ca] 52)).alloc (.cells #[.string (strOf b.name), .int .i64 b.op, .int .i64 b.v.k, .int .i64 b.v.n, .string (strOf b.v.s), .bool b.v.b, .slice sb b.set.length cb] 52)) w.heap.size a sa ca := (CBox.mk (heap_alloc_new _ _) (ha.ext ((Ext.refl w).alloc _))).ext ((Ext.refl _).alloc _)
  have hN : ((w.alloc (.cells #[.string (strOf a.name), .int .i64 a.op, .int .i64 a.v.k, .int .i64 a.v.n, .string (strOf a.v.s), .bool a.v.b, .slice sa a.set.length ca] 52)).alloc (.cells #[.string (strOf b.name), .int .i64 b.op, .int .i64 b.v.k, .int .i64 b.v.n, .string (strOf b.v.s), .bool b.v.b, .slice sb b.set.length cb] 52)).heap[w.heap.size + 1]? = some (.cells #[.string (strOf b.name), .int .i64 b.op, .int .i64 b.v.k, .int .i64 b.v.n, .string (strOf b.v.s), .bool b.v.b, .slice sb b.set.length cb] 52 (0, 0)) := by
    have h := heap_alloc_new (w.alloc (.cells #[.string (strOf a.name), .int .i64 a.op, .int .i64 a.v.k, .int .i64 a.v.n, .string (strOf a.v.s), .bool a.v.b, .slice sa a.set.length ca] 52)) (.cells #[.string (strOf b.name), .int .i64 b.op, .int .i64 b.v.k, .int .i64 b.v.n, .string (strOf b.v.s), .bool b.v.b, .slice sb b.set.length cb] 52)
    rw [World.size_alloc] at h; exact h
  have hB : CBox ((w.alloc (.cells #[.string (strOf a.name), .int .i64 a.op, .int .i64 a.v.k, .int .i64 a.v.n, .string (strOf a.v.s), .bool a.v.b, .slice sa a.set.length ca] 52)).alloc (.cells #[.string (strOf b.name), .int .i64 b.op, .int .i64 b.v.k, .int .i64 b.v.n, .string (strOf b.v.s), .bool b.v.b, .slice sb b.set.length cb] 52)) (w.heap.size + 1) b sb cb := ⟨hN, hb.ext hx0.1⟩
  obtain ⟨a0, a1, a2, a3, a4, a5, a6⟩ := hA.cell
  obtain ⟨b0, b1, b2, b3, b4, b5, b6⟩ := hB.cell
  have has := hA.s
  have hbs := hB.s
  have hres : orderC a b = orL [Lib.compareBytes a.name b.name, Lib.compareInt a.op b.op, wholeV a.v b.v, cmpL wholeV a.set b.set] := by rw [orL4]; rfl
  have hcB : ∀ W, Ext ((w.alloc (.cells #[.string (strOf a.name), .int .i64 a.op, .int .i64 a.v.k, .int .i64 a.v.n, .string (strOf a.v.s), .bool a.v.b, .slice sa a.set.length ca] 52)).alloc (.cells #[.string (strOf b.name), .int .i64 b.op, .int .i64 b.v.k, .int .i64 b.v.n, .string (strOf b.v.s), .bool b.v.b, .slice sb b.set.length cb] 52)) W → Calls Tryz.prog 105 #[.slice sa a.set.length ca, .slice sb b.set.length cb, .func (.func 104) #[] #[]] W fun e w' => e = .returned (.int .i64 (cmpL wholeV a.set b.set)) ∧ Grew W w' :=
    fun W hW => cmpf122_any W _ _ a.set b.set (has.ext hW) (hbs.ext hW) 104 #[] wholeV ent121 (fun W x y => whole_any W x y)
  rw [hres]
  clear hA hN hB hres ha hb has hbs
  generalize cmpL wholeV a.set b.set = r4 at *
  go_enter Tryz.func66, Tryz.ntmps66
  go_upto_region 1 with fail
  generalize (w.alloc (.cells #[.string (strOf a.name), .int .i64 a.op, .int .i64 a.v.k, .int .i64 a.v.n, .string (strOf a.v.s), .bool a.v.b, .slice sa a.set.length ca] 52)).alloc (.cells #[.string (strOf b.name), .int .i64 b.op, .int .i64 b.v.k, .int .i64 b.v.n, .string (strOf b.v.s), .bool b.v.b, .slice sb b.set.length cb] 52) = wa at *
  generalize a.set.length = na at *
  generalize b.set.length = nb at *
  refine Rg.wp_region_facts GrewS [Rg.Fact.eq _ (.pointer (some ⟨w.heap.size, 0, none⟩)),
      Rg.Fact.eq _ (.string (strOf a.name)),
      Rg.Fact.eq _ (.pointer (some ⟨w.heap.size + 1, 0, none⟩)),
      Rg.Fact.eq _ (.string (strOf b.name)),
      Rg.Fact.eq _ (.int .i64 (Lib.compareBytes a.name b.name)),
      Rg.Fact.eq _ (.pointer (some ⟨w.heap.size, 1, none⟩)),
      Rg.Fact.eq _ (.int .i64 a.op),
      Rg.Fact.eq _ (.pointer (some ⟨w.heap.size + 1, 1, none⟩)),
      Rg.Fact.eq _ (.int .i64 b.op),
      Rg.Fact.eq _ (.int .i64 (Lib.compareInt a.op b.op)),
      Rg.Fact.eq _ (.pointer (some ⟨w.heap.size, 2, none⟩)),
      Rg.Fact.eq _ (.agg #[.int .i64 a.v.k, .int .i64 a.v.n, .string (strOf a.v.s), .bool a.v.b]),
      Rg.Fact.eq _ (.pointer (some ⟨w.heap.size + 1, 2, none⟩)),
      Rg.Fact.eq _ (.agg #[.int .i64 b.v.k, .int .i64 b.v.n, .string (strOf b.v.s), .bool b.v.b]),
      Rg.Fact.eq _ (.int .i64 (wholeV a.v b.v)),
      Rg.Fact.eq _ (.pointer (some ⟨w.heap.size, 6, none⟩)),
      Rg.Fact.eq _ (.slice sa na ca),
      Rg.Fact.eq _ (.pointer (some ⟨w.heap.size + 1, 6, none⟩)),
      Rg.Fact.eq _ (.slice sb nb cb),
      Rg.Fact.eq _ (.int .i64 r4),
      Rg.Fact.ints [Lib.compareBytes a.name b.name, Lib.compareInt a.op b.op, wholeV a.v b.v, r4],
      Rg.Fact.eq _ (.int .i64 (orL [Lib.compareBytes a.name b.name, Lib.compareInt a.op b.op, wholeV a.v b.v, r4])),
      Rg.Fact.eq _ (.int .i64 (orL [Lib.compareBytes a.name b.name, Lib.compareInt a.op b.op, wholeV a.v b.v, r4]))]
    [[], [(0, 5)], [], [(2, 7)], [(1, 6), (3, 8)], [], [(5, 10)], [], [(7, 12)], [(6, 11), (8, 13)], [], [(10, 15)], [], [(12, 17)], [(11, 16), (13, 18)], [], [(15, 20)], [], [(17, 22)], [(16, 21), (18, 23)], [(4, 9), (9, 14), (14, 19), (19, 24)], [(20, 25)], [(21, 26)]]
    [(0, 5), (1, 6), (2, 7), (3, 8), (4, 9), (5, 10), (6, 11), (7, 12), (8, 13), (9, 14), (10, 15), (11, 16), (12, 17), (13, 18), (14, 19), (15, 20), (16, 21), (17, 22), (18, 23), (19, 24), (20, 25), (21, 26), (22, 4)] (by kernel_rfl) (by kernel_rfl) ?_ ?_
  · refine ⟨?_, ?_, ?_, ?_, ?_, ?_, ?_, ?_, ?_, ?_, ?_, ?_, ?_, ?_, ?_, ?_, ?_, ?_, ?_, ?_, ?_, ?_, ?_, trivial⟩
    · intro w1 hx1; change wpList _ _ _ _ _ _; go_wp2_with fail; exact ⟨rfl, GrewS.refl _, rfl, rfl⟩
    · intro w1 hx1; rintro _ rfl; change wpList _ _ _ _ _ _; have m := hx1.1.cell a0; go_wp2_with fail; exact ⟨rfl, GrewS.refl _, rfl, rfl⟩
    · intro w1 hx1; change wpList _ _ _ _ _ _; go_wp2_with fail; exact ⟨rfl, GrewS.refl _, rfl, rfl⟩
    · intro w1 hx1; rintro _ rfl; change wpList _ _ _ _ _ _; have m := hx1.1.cell b0; go_wp2_with fail; exact ⟨rfl, GrewS.refl _, rfl, rfl⟩
    · intro w1 hx1; rintro _ rfl; rintro _ rfl; change wpList _ _ _ _ _ _; go_wp2_with fail; refine (cmpstr_any _ _ _).mono ?_; rintro e w2 ⟨rfl, rfl⟩; go_wp2_with fail; exact ⟨rfl, GrewS.refl _, rfl, rfl⟩
    · intro w1 hx1; change wpList _ _ _ _ _ _; go_wp2_with fail; exact ⟨rfl, GrewS.refl _, rfl, rfl⟩
    · intro w1 hx1; rintro _ rfl; change wpList _ _ _ _ _ _; have m := hx1.1.cell a1; go_wp2_with fail; exact ⟨rfl, GrewS.refl _, rfl, rfl⟩
    · intro w1 hx1; change wpList _ _ _ _ _ _; go_wp2_with fail; exact ⟨rfl, GrewS.refl _, rfl, rfl⟩
    · intro w1 hx1; rintro _ rfl; change wpList _ _ _ _ _ _; have m := hx1.1.cell b1; go_wp2_with fail; exact ⟨rfl, GrewS.refl _, rfl, rfl⟩
    · intro w1 hx1; rintro _ rfl; rintro _ rfl; change wpList _ _ _ _ _ _; go_wp2_with fail; refine (cmpint_any _ _ _).mono ?_; rintro e w2 ⟨rfl, rfl⟩; go_wp2_with fail; exact ⟨rfl, GrewS.refl _, rfl, rfl⟩
    · intro w1 hx1; change wpList _ _ _ _ _ _; go_wp2_with fail; exact ⟨rfl, GrewS.refl _, rfl, rfl⟩
    · intro w1 hx1; rintro _ rfl; change wpList _ _ _ _ _ _; have m0 := hx1.1.cell a2; have m1 := hx1.1.cell a3; have m2 := hx1.1.cell a4; have m3 := hx1.1.cell a5; go_wp2_with fail; exact ⟨rfl, GrewS.refl _, rfl, rfl⟩
    · intro w1 hx1; change wpList _ _ _ _ _ _; go_wp2_with fail; exact ⟨rfl, GrewS.refl _, rfl, rfl⟩
    · intro w1 hx1; rintro _ rfl; change wpList _ _ _ _ _ _; have m0 := hx1.1.cell b2; have m1 := hx1.1.cell b3; have m2 := hx1.1.cell b4; have m3 := hx1.1.cell b5; go_wp2_with fail; exact ⟨rfl, GrewS.refl _, rfl, rfl⟩
    · intro w1 hx1; rintro _ rfl; rintro _ rfl; change wpList _ _ _ _ _ _; go_wp2_with fail; refine (whole_any _ a.v b.v).mono ?_; rintro e w2 ⟨rfl, hx2⟩; go_wp2_with fail; exact ⟨rfl, hx2, rfl, rfl⟩
    · intro w1 hx1; change wpList _ _ _ _ _ _; go_wp2_with fail; exact ⟨rfl, GrewS.refl _, rfl, rfl⟩
    · intro w1 hx1; rintro _ rfl; change wpList _ _ _ _ _ _; have m := hx1.1.cell a6; go_wp2_with fail; exact ⟨rfl, GrewS.refl _, rfl, rfl⟩
    · intro w1 hx1; change wpList _ _ _ _ _ _; go_wp2_with fail; exact ⟨rfl, GrewS.refl _, rfl, rfl⟩
    · intro w1 hx1; rintro _ rfl; change wpList _ _ _ _ _ _; have m := hx1.1.cell b6; go_wp2_with fail; exact ⟨rfl, GrewS.refl _, rfl, rfl⟩
    · intro w1 hx1; rintro _ rfl; rintro _ rfl; change wpList _ _ _ _ _ _; go_wp2_with fail; refine (hcB _ hx1.1).mono ?_; rintro e w2 ⟨rfl, hx2⟩; go_wp2_with fail; exact ⟨rfl, hx2, rfl, rfl⟩
    · intro w1 hx1; rintro _ rfl; rintro _ rfl; rintro _ rfl; rintro _ rfl; change wpList _ _ _ _ _ _; have hr := row_four w1 (Lib.compareBytes a.name b.name) (Lib.compareInt a.op b.op) (wholeV a.v b.v) r4; go_wp2_with fail; exact ⟨rfl, (Grew.refl w1).alloc _, rfl, hr⟩
    · intro w1 hx1; intro v25 h25; change wpList _ _ _ _ _ _; go_wp2_with fail; refine (or_any _ _ _ h25).mono ?_; rintro e w2 ⟨rfl, rfl⟩; go_wp2_with fail; exact ⟨rfl, GrewS.refl _, rfl, rfl⟩
    · intro w1 hx1; rintro _ rfl; change wpList _ _ _ _ _ _; exact Rg.ob_assign _ rfl rfl rfl rfl rfl
  · intro w1 hx1; rintro _ rfl; rintro _ rfl; rintro _ rfl; rintro _ rfl; rintro _ rfl; rintro _ rfl; rintro _ rfl; rintro _ rfl; rintro _ rfl; rintro _ rfl; rintro _ rfl; rintro _ rfl; rintro _ rfl; rintro _ rfl; rintro _ rfl; rintro _ rfl; rintro _ rfl; rintro _ rfl; rintro _ rfl; rintro _ rfl; intro v25 h25; rintro _ rfl; rintro _ rfl; refine depsThen_nil ?_; dsimp only; simp only [Act.put, List.setIfInBounds_toArray, List.set_cons_zero, List.set_cons_succ]
    replace h25 : (Rg.Fact.ints [Lib.compareBytes a.name b.name, Lib.compareInt a.op b.op, wholeV a.v b.v, r4]).p v25 w1 := h25
    go_wp2_with fail
    go_ret
    exact ⟨rfl, hx0.trans hx1⟩

set_option maxRecDepth 100000 in
set_option maxHeartbeats 4000000 in
theorem cmpf64_any (w : World) (v1 v2 : Value) (l m : List C) (h1 : PredR w v1 l) (h2 : PredR w v2 m) (g : Nat) (cb : Array Value) (cf : C → C → Int) (eg : ∀ args w, (callFunc g args).run Tryz.prog w = .ok (.enter g args) w)
    (hc : ∀ (W : World) (x y : C) (sx : Option Addr) (cx : Nat) (sy : Option Addr) (cy : Nat), SetR W (.slice sx x.set.length cx) x.set → SetR W (.slice sy y.set.length cy) y.set → Calls Tryz.prog g (#[.agg #[.string (strOf x.name), .int .i64 x.op, .int .i64 x.v.k, .int .i64 x.v.n, .string (strOf x.v.s), .bool x.v.b, .slice sx x.set.length cx], .agg #[.string (strOf y.name), .int .i64 y.op, .int .i64 y.v.k, .int .i64 y.v.n, .string (strOf y.v.s), .bool y.v.b, .slice sy y.set.length cy]] ++ cb) W fun e W' => e = .returned (.int .i64 (cf x y)) ∧ Grew W W') :
    Calls Tryz.prog 65 #[v1, v2, .func (.func g) #[] cb] w fun e w' => e = .returned (.int .i64 (cmpL cf l m)) ∧ Grew w w' := by
  obtain ⟨a1, cap1, rfl, hc1, hm1⟩ := h1.shape
  obtain ⟨a2, cap2, rfl, hc2, hm2⟩ := h2.shape
  unfold maxLen at hm1 hm2
  generalize hn1 : l.length = n1 at *
  generalize hn2 : m.length = n2 at *
  have HN1 := Lib.hid hn1
  have HN2 := Lib.hid hn2
  clear hn1 hn2
  have HC := Lib.hid hc
  clear hc
  go_enter Tryz.func65, Tryz.ntmps65
  go_wp2_with fail
  go_loopw [7, 8, 9, 10, 13] (fun _ _ _ _ i wr => ∃ k : Nat, k ≤ n1 ∧ k ≤ n2 ∧ i = .int .i64 k ∧ Hid (cmpL cf (l.drop k) (m.drop k) = cmpL cf l m) ∧ Grew w wr) (fun _ _ _ _ i _ => n1 - (intOf i).toNat)
  case atStart => exact ⟨0, Nat.zero_le _, Nat.zero_le _, rfl, rfl, Grew.refl w⟩
  case round =>
    obtain ⟨k, hk, hkm, rfl, hcm, hx⟩ := hrel
    by_cases hlt : k < n1
    · have k1 : k < l.length := by rw [HN1.out]; exact hlt
      have hI : decide ((k : Int) < (n1 : Int)) = true := decide_eq_true (by omega)
      obtain ⟨B1, o1, sx, cx, rfl, f0, f1, f2, f3, f4, f5, f6, fs⟩ := (h1.ext hx.1).at k1
      by_cases hlm : k < n2
      · have k2 : k < m.length := by rw [HN2.out]; exact hlm
        have hI2 : decide ((n2 : Int) ≤ (k : Int)) = false := decide_eq_false (by omega)
        obtain ⟨B2, o2, sy, cy, rfl, g0, g1, g2, g3, g4, g5, g6, gs⟩ := (h2.ext hx.1).at k2
        have hcall := fun W (hw : Ext wr W) => HC.out W l[k] m[k] sx cx sy cy (fs.ext hw) (gs.ext hw)
        clear fs gs
        have hst : cf l[k] m[k] = 0 → cmpL cf (l.drop (k + 1)) (m.drop (k + 1)) = cmpL cf l m := fun h => by rw [← cmpL_step k1 k2 h, hcm.out]
        have hsp : cf l[k] m[k] ≠ 0 → cmpL cf l m = cf l[k] m[k] := fun h => by rw [← hcm.out, cmpL_stop k1 k2 h]
        generalize l[k] = x at *
        generalize m[k] = y at *
        have hxb : ∀ o : Obj, Grew w (wr.alloc o) := fun o => hx.alloc o
        have q0 := ((Ext.refl wr).alloc (.cells #[.string (strOf x.name), .int .i64 x.op, .int .i64 x.v.k, .int .i64 x.v.n, .string (strOf x.v.s), .bool x.v.b, .slice sx x.set.length cx] 52)).cell g0
        have q1 := ((Ext.refl wr).alloc (.cells #[.string (strOf x.name), .int .i64 x.op, .int .i64 x.v.k, .int .i64 x.v.n, .string (strOf x.v.s), .bool x.v.b, .slice sx x.set.length cx] 52)).cell g1
        have q2 := ((Ext.refl wr).alloc (.cells #[.string (strOf x.name), .int .i64 x.op, .int .i64 x.v.k, .int .i64 x.v.n, .string (strOf x.v.s), .bool x.v.b, .slice sx x.set.length cx] 52)).cell g2
        have q3 := ((Ext.refl wr).alloc (.cells #[.string (strOf x.name), .int .i64 x.op, .int .i64 x.v.k, .int .i64 x.v.n, .string (strOf x.v.s), .bool x.v.b, .slice sx x.set.length cx] 52)).cell g3
        have q4 := ((Ext.refl wr).alloc (.cells #[.string (strOf x.name), .int .i64 x.op, .int .i64 x.v.k, .int .i64 x.v.n, .string (strOf x.v.s), .bool x.v.b, .slice sx x.set.length cx] 52)).cell g4
        have q5 := ((Ext.refl wr).alloc (.cells #[.string (strOf x.name), .int .i64 x.op, .int .i64 x.v.k, .int .i64 x.v.n, .string (strOf x.v.s), .bool x.v.b, .slice sx x.set.length cx] 52)).cell g5
        have q6 := ((Ext.refl wr).alloc (.cells #[.string (strOf x.name), .int .i64 x.op, .int .i64 x.v.k, .int .i64 x.v.n, .string (strOf x.v.s), .bool x.v.b, .slice sx x.set.length cx] 52)).cell g6
        have hxx : Ext wr ((wr.alloc (.cells #[.string (strOf x.name), .int .i64 x.op, .int .i64 x.v.k, .int .i64 x.v.n, .string (strOf x.v.s), .bool x.v.b, .slice sx x.set.length cx] 52)).alloc (.cells #[.string (strOf y.name), .int .i64 y.op, .int .i64 y.v.k, .int .i64 y.v.n, .string (strOf y.v.s), .bool y.v.b, .slice sy y.set.length cy] 52)) := ((Ext.refl wr).alloc _).alloc _
        by_cases hz : cf x y = 0
        · have hres := Lib.hid (hst hz)
          rw [hz] at hcall
          have HCALL := Lib.hid hcall
          clear hz hst hsp hcall
          go_wp2_with (go_at_fn g; refine (HCALL.out _ hxx).mono ?_; rintro e w3 ⟨rfl, hx3⟩)
          go_roundw
          case rel => exact ⟨k + 1, hlt, hlm, by go_num, hres, (((hx.alloc _).alloc _).trans hx3)⟩
          case measure => simp [intOf]; omega
        · have hres := Lib.hid (hsp hz)
          have hd : (cf x y != 0) = true := by simp [hz]
          have hd1 := beq_int_ne hz
          generalize cf x y = r at *
          have HCALL := Lib.hid hcall
          clear hz hst hsp hcall
          go_wp2_with (go_at_fn g; refine (HCALL.out _ hxx).mono ?_; rintro e w3 ⟨rfl, hx3⟩)
          go_ret
          exact ⟨by rw [hres.out]; rfl, (((hx.alloc _).alloc _).trans hx3)⟩
      · obtain rfl : k = n2 := by omega
        have hI2 : decide ((k : Int) ≤ (k : Int)) = true := decide_eq_true (by omega)
        have hres : Hid (cmpL cf l m = 1) := by show _ = _; rw [← hcm.out, cmpL_more k1 (by rw [HN2.out]; omega)]
        generalize l[k] = x at *
        go_wp2_with fail
        go_ret
        exact ⟨by rw [hres.out]; rfl, hx.alloc _⟩
    · obtain rfl : k = n1 := by omega
      have hI : decide ((k : Int) < (k : Int)) = false := decide_eq_false (by omega)
      by_cases hlm : k < n2
      · have hI2 : decide ((k : Int) < (n2 : Int)) = true := decide_eq_true (by omega)
        have hres : Hid (cmpL cf l m = -1) := by show _ = _; rw [← hcm.out, cmpL_less (by rw [HN1.out]; omega) (by rw [HN2.out]; exact hlm)]
        go_wp2_with fail
        go_ret
        exact ⟨by rw [hres.out]; rfl, hx⟩
      · have hI2 : decide ((k : Int) < (n2 : Int)) = false := decide_eq_false (by omega)
        have hres : Hid (cmpL cf l m = 0) := by show _ = _; rw [← hcm.out, cmpL_same (by rw [HN1.out]; omega) (by rw [HN2.out]; omega)]
        go_wp2_with fail
        go_ret
        exact ⟨by rw [hres.out]; rfl, hx⟩

set_option maxRecDepth 100000 in
set_option maxHeartbeats 2000000 in
theorem pcompare_any (w : World) (v1 v2 : Value) (p q : List C) (h1 : PredR w v1 p) (h2 : PredR w v2 q) : Calls Tryz.prog 43 #[v1, v2] w fun e w' => e = .returned (.int .i64 (cmpP p q)) ∧ Grew w w' := by
  have hcon := cmpf64_any w v1 v2 p q h1 h2 66 #[] orderC ent65 (fun W x y sx cx sy cy hx hy => order_any W x y sx cx sy cy hx hy)
  obtain ⟨a1, c1, rfl, -, -⟩ := h1.shape
  obtain ⟨a2, c2, rfl, -, -⟩ := h2.shape
  show Calls Tryz.prog 43 _ w fun e w' => e = .returned (.int .i64 (cmpL orderC p q)) ∧ Grew w w'
  generalize cmpL orderC p q = r at *
  go_enter Tryz.func43, Tryz.ntmps43
  go_wp2_with (go_at_call 65; refine hcon.mono ?_; rintro e w' ⟨rfl, hx⟩)
  go_ret
  exact ⟨rfl, hx⟩

set_option maxRecDepth 100000 in
set_option maxHeartbeats 2000000 in
theorem psame_any (w : World) (v1 v2 : Value) (p q : List C) (h1 : PredR w v1 p) (h2 : PredR w v2 q) : Calls Tryz.prog 21 #[v1, v2] w fun e w' => e = .returned (.bool (decide (cmpP p q = 0))) ∧ Grew w w' := by
  have hcon := pcompare_any w v1 v2 p q h1 h2
  obtain ⟨a1, c1, rfl, -, -⟩ := h1.shape
  obtain ⟨a2, c2, rfl, -, -⟩ := h2.shape
  generalize cmpP p q = r at *
  rw [← beq_dec]
  go_enter Tryz.func21, Tryz.ntmps21
  go_wp2_with (go_at_call 43; refine hcon.mono ?_; rintro e w' ⟨rfl, hx⟩)
  go_ret
  exact ⟨rfl, hx⟩
end Go.Proofs.YtckigoeomkphhaaGreat

namespace Go.Proofs.YtckigoeomkphhaaGreat
open Go.RowKit

theorem cmpI_cases (x y : Int) : (Lib.compareInt x y = -1 ∧ decide (x < y) = true ∧ (x == y) = false) ∨ (x = y ∧ Lib.compareInt x y = 0) ∨ (Lib.compareInt x y = 1 ∧ decide (x < y) = false ∧ (x == y) = false) := by
  unfold Lib.compareInt
  by_cases h1 : x < y
  · exact .inl ⟨by rw [if_pos h1], decide_eq_true h1, beq_eq_false_iff_ne.2 (by omega)⟩
  · by_cases h2 : x > y
    · exact .inr (.inr ⟨by rw [if_neg h1, if_pos h2], decide_eq_false h1, beq_eq_false_iff_ne.2 (by omega)⟩)
    · exact .inr (.inl ⟨by omega, by rw [if_neg h1, if_neg h2]⟩)

set_option maxRecDepth 100000 in
set_option maxHeartbeats 16000000 in
theorem rorder_any (w : World) (a b : C) (sa : Option Addr) (ca : Nat) (sb : Option Addr) (cb : Nat) (ha : SetR w (.slice sa a.set.length ca) a.set) (hb : SetR w (.slice sb b.set.length cb) b.set) :
    Calls Tryz.prog 63 #[.agg #[.string (strOf a.name), .int .i64 a.op, .int .i64 a.v.k, .int .i64 a.v.n, .string (strOf a.v.s), .bool a.v.b, .slice sa a.set.length ca], .agg #[.string (strOf b.name), .int .i64 b.op, .int .i64 b.v.k, .int .i64 b.v.n, .string (strOf b.v.s), .bool b.v.b, .slice sb b.set.length cb]] w fun e w' => e = .returned (.int .i64 (orderC a b)) ∧ Ext w w' := by
  obtain ⟨hx0, hb1, hb2⟩ := boxes2 w (.cells #[.string (strOf a.name), .int .i64 a.op, .int .i64 a.v.k, .int .i64 a.v.n, .string (strOf a.v.s), .bool a.v.b, .slice sa a.set.length ca] 52) (.cells #[.string (strOf b.name), .int .i64 b.op, .int .i64 b.v.k, .int .i64 b.v.n, .string (strOf b.v.s), .bool b.v.b, .slice sb b.set.length cb] 52)
  have hres : orderC a b = if Lib.compareBytes a.name b.name = 0 then (if Lib.compareInt a.op b.op = 0 then (if wholeV a.v b.v = 0 then cmpL wholeV a.set b.set else wholeV a.v b.v) else Lib.compareInt a.op b.op) else Lib.compareBytes a.name b.name := rfl
  rw [hres]
  clear hres
  obtain ⟨hc1, hm1⟩ : a.set.length ≤ ca ∧ ca ≤ maxLen := by obtain ⟨a', c', e, h1, h2⟩ := Row.shape ha; cases e; exact ⟨h1, h2⟩
  obtain ⟨hc2, hm2⟩ : b.set.length ≤ cb ∧ cb ≤ maxLen := by obtain ⟨a', c', e, h1, h2⟩ := Row.shape hb; cases e; exact ⟨h1, h2⟩
  unfold maxLen at hm1 hm2
  have HA := Lib.hid (SetR.ext ha hx0)
  have HB := Lib.hid (SetR.ext hb hx0)
  have HX0 := Lib.hid hx0
  have HWH : Hid (∀ W, Calls Tryz.prog 102 #[.agg #[.int .i64 a.v.k, .int .i64 a.v.n, .string (strOf a.v.s), .bool a.v.b], .agg #[.int .i64 b.v.k, .int .i64 b.v.n, .string (strOf b.v.s), .bool b.v.b]] W fun e w' => e = .returned (.int .i64 (wholeV a.v b.v)) ∧ Grew W w') := fun W => rwhole_any W a.v b.v
  have a0 := cell_of_row _ _ 0 _ _ _ hb1
  have a1 := cell_of_row _ _ 1 _ _ _ hb1
  have a2 := cell_of_row _ _ 2 _ _ _ hb1
  have a3 := cell_of_row _ _ 3 _ _ _ hb1
  have a4 := cell_of_row _ _ 4 _ _ _ hb1
  have a5 := cell_of_row _ _ 5 _ _ _ hb1
  have a6 := cell_of_row _ _ 6 _ _ _ hb1
  have b0 := cell_of_row _ _ 0 _ _ _ hb2
  have b1 := cell_of_row _ _ 1 _ _ _ hb2
  have b2 := cell_of_row _ _ 2 _ _ _ hb2
  have b3 := cell_of_row _ _ 3 _ _ _ hb2
  have b4 := cell_of_row _ _ 4 _ _ _ hb2
  have b5 := cell_of_row _ _ 5 _ _ _ hb2
  have b6 := cell_of_row _ _ 6 _ _ _ hb2
  clear ha hb hx0 hb1 hb2
  rcases bytes_cases a.name b.name with ⟨e1, e2, e3⟩ | ⟨e1, e2, e3⟩ | ⟨e1, e2, e3⟩
  · rw [e1, if_neg (by decide)]
    have e4 : (a.name != b.name) = true := by rw [bne, e3]; rfl
    go_enter Tryz.func63, Tryz.ntmps63
    go_upto_region 1 with fail
    generalize (w.alloc (.cells #[.string (strOf a.name), .int .i64 a.op, .int .i64 a.v.k, .int .i64 a.v.n, .string (strOf a.v.s), .bool a.v.b, .slice sa a.set.length ca] 52)).alloc (.cells #[.string (strOf b.name), .int .i64 b.op, .int .i64 b.v.k, .int .i64 b.v.n, .string (strOf b.v.s), .bool b.v.b, .slice sb b.set.length cb] 52) = w0 at *
    go_wp2_with fail
    go_ret
    exact ⟨rfl, HX0.out⟩
  · rw [e2, if_pos rfl]
    have e4 : (a.name == b.name) = true := by rw [e1]; exact beq_self_eq_true _
    have e5 : (a.name != b.name) = false := by rw [bne, e4]; rfl
    clear e1 e2 e3
    rcases cmpI_cases a.op b.op with ⟨g1, g2, g3⟩ | ⟨g1, g2⟩ | ⟨g1, g2, g3⟩
    · rw [g1, if_neg (by decide)]
      have g4 : (a.op != b.op) = true := by rw [bne, g3]; rfl
      go_enter Tryz.func63, Tryz.ntmps63
      go_upto_region 1 with fail
      generalize (w.alloc (.cells #[.string (strOf a.name), .int .i64 a.op, .int .i64 a.v.k, .int .i64 a.v.n, .string (strOf a.v.s), .bool a.v.b, .slice sa a.set.length ca] 52)).alloc (.cells #[.string (strOf b.name), .int .i64 b.op, .int .i64 b.v.k, .int .i64 b.v.n, .string (strOf b.v.s), .bool b.v.b, .slice sb b.set.length cb] 52) = w0 at *
      go_wp2_with fail
      go_ret
      exact ⟨rfl, HX0.out⟩
    · rw [g2, if_pos rfl]
      have g3 : (a.op == b.op) = true := by rw [g1]; exact beq_self_eq_true _
      have g4 : (a.op != b.op) = false := by rw [bne, g3]; rfl
      clear g1 g2
      generalize wholeV a.v b.v = r3 at *
      by_cases z3 : r3 = 0
      · subst z3
        rw [if_pos rfl]
        generalize hn1 : a.set.length = n1 at *
        generalize hn2 : b.set.length = n2 at *
        have HN1 := Lib.hid hn1
        have HN2 := Lib.hid hn2
        clear hn1 hn2
        go_enter Tryz.func63, Tryz.ntmps63
        go_upto_region 1 with fail
        generalize (w.alloc (.cells #[.string (strOf a.name), .int .i64 a.op, .int .i64 a.v.k, .int .i64 a.v.n, .string (strOf a.v.s), .bool a.v.b, .slice sa n1 ca] 52)).alloc (.cells #[.string (strOf b.name), .int .i64 b.op, .int .i64 b.v.k, .int .i64 b.v.n, .string (strOf b.v.s), .bool b.v.b, .slice sb n2 cb] 52) = w0 at *
        go_upto_region 12 with (go_at_call 102; (with_reducible refine (HWH.out _).mono ?_); rintro e w1 ⟨rfl, hx⟩; have HX1 := Lib.hid hx.1; clear hx)
        go_wp2_with fail
        go_loopw [6] (fun i wr => ∃ k : Nat, k ≤ n1 ∧ k ≤ n2 ∧ i = .int .i64 k ∧ Hid (cmpL wholeV (a.set.drop k) (b.set.drop k) = cmpL wholeV a.set b.set) ∧ Hid (Ext w0 wr)) (fun i _ => n1 - (intOf i).toNat)
        case atStart => exact ⟨0, Nat.zero_le _, Nat.zero_le _, rfl, rfl, HX1.out⟩
        case round =>
          clear HX1
          obtain ⟨k, hk, hkm, rfl, hcm, hx⟩ := hrel
          have q6 := hx.out.cell a6
          have p6 := hx.out.cell b6
          by_cases hlt : k < n1
          · have k1 : k < a.set.length := by rw [HN1.out]; exact hlt
            have hI : decide ((k : Int) < (n1 : Int)) = true := decide_eq_true (by omega)
            have hkN : (k : Int) < (n1 : Int) := by omega
            by_cases hlm : k < n2
            · have k2 : k < b.set.length := by rw [HN2.out]; exact hlm
              have hI2 : decide ((k : Int) < (n2 : Int)) = true := decide_eq_true (by omega)
              have hkM : (k : Int) < (n2 : Int) := by omega
              obtain ⟨B1, o1, rfl, f0, f1, f2, f3⟩ := SetR.at (SetR.ext HA.out hx.out) k1
              obtain ⟨B2, o2, rfl, g0, g1, g2, g3⟩ := SetR.at (SetR.ext HB.out hx.out) k2
              have hcall := fun W => rwhole_any W a.set[k] b.set[k]
              have hst : wholeV a.set[k] b.set[k] = 0 → cmpL wholeV (a.set.drop (k + 1)) (b.set.drop (k + 1)) = cmpL wholeV a.set b.set := fun h => by rw [← cmpL_step k1 k2 h, hcm.out]
              have hsp : wholeV a.set[k] b.set[k] ≠ 0 → cmpL wholeV a.set b.set = wholeV a.set[k] b.set[k] := fun h => by rw [← hcm.out, cmpL_stop k1 k2 h]
              have HCALL := Lib.hid hcall
              have HST := Lib.hid hst
              have HSP := Lib.hid hsp
              clear hcall hst hsp
              generalize a.set[k] = x at *
              generalize b.set[k] = y at *
              go_upto_region 15 with fail
              refine wp_region_facts [Fact.eq (.pointer (some ⟨w.heap.size, 6, none⟩)),
                  Fact.eq (.slice (some ⟨B1, o1, none⟩) n1 ca),
                  Fact.eq (.int .i64 k),
                  Fact.eq (.pointer (some ⟨B1, o1 + k * 4, none⟩)),
                  Fact.eq (.agg #[.int .i64 x.k, .int .i64 x.n, .string (strOf x.s), .bool x.b]),
                  Fact.eq (.pointer (some ⟨w.heap.size + 1, 6, none⟩)),
                  Fact.eq (.slice (some ⟨B2, o2, none⟩) n2 cb),
                  Fact.eq (.int .i64 k),
                  Fact.eq (.pointer (some ⟨B2, o2 + k * 4, none⟩)),
                  Fact.eq (.agg #[.int .i64 y.k, .int .i64 y.n, .string (strOf y.s), .bool y.b]),
                  Fact.eq (.int .i64 (wholeV x y)),
                  Fact.eq (.int .i64 (wholeV x y))]
                [[], [(0, 49)], [], [(1, 50), (2, 51)], [(3, 52)], [], [(5, 54)], [], [(6, 55), (7, 56)], [(8, 57)], [(4, 53), (9, 58)], [(10, 59)]]
                [(0, 49), (1, 50), (2, 51), (3, 52), (4, 53), (5, 54), (6, 55), (7, 56), (8, 57), (9, 58), (10, 59), (11, 5)] (by kernel_rfl) (by kernel_rfl) ?_ ?_
              · refine ⟨?_, ?_, ?_, ?_, ?_, ?_, ?_, ?_, ?_, ?_, ?_, ?_, trivial⟩
                · intro w1 hx1; change wpList _ _ _ _ _ _; go_wp2_with fail; exact ⟨rfl, Ext.refl _, rfl, rfl⟩
                · intro w1 hx1; rintro _ rfl; change wpList _ _ _ _ _ _; have m := hx1.cell q6; go_wp2_with fail; exact ⟨rfl, Ext.refl _, rfl, rfl⟩
                · intro w1 hx1; change wpList _ _ _ _ _ _; exact ob_move rfl rfl rfl rfl rfl
                · intro w1 hx1; rintro _ rfl; rintro _ rfl; change wpList _ _ _ _ _ _; go_wp2_with fail; exact ⟨rfl, Ext.refl _, rfl, rfl⟩
                · intro w1 hx1; rintro _ rfl; change wpList _ _ _ _ _ _; have m0 := hx1.cell f0; have m1 := hx1.cell f1; have m2 := hx1.cell f2; have m3 := hx1.cell f3; go_wp2_with fail; exact ⟨rfl, Ext.refl _, rfl, rfl⟩
                · intro w1 hx1; change wpList _ _ _ _ _ _; go_wp2_with fail; exact ⟨rfl, Ext.refl _, rfl, rfl⟩
                · intro w1 hx1; rintro _ rfl; change wpList _ _ _ _ _ _; have m := hx1.cell p6; go_wp2_with fail; exact ⟨rfl, Ext.refl _, rfl, rfl⟩
                · intro w1 hx1; change wpList _ _ _ _ _ _; exact ob_move rfl rfl rfl rfl rfl
                · intro w1 hx1; rintro _ rfl; rintro _ rfl; change wpList _ _ _ _ _ _; go_wp2_with fail; exact ⟨rfl, Ext.refl _, rfl, rfl⟩
                · intro w1 hx1; rintro _ rfl; change wpList _ _ _ _ _ _; have m0 := hx1.cell g0; have m1 := hx1.cell g1; have m2 := hx1.cell g2; have m3 := hx1.cell g3; go_wp2_with fail; exact ⟨rfl, Ext.refl _, rfl, rfl⟩
                · intro w1 hx1; rintro _ rfl; rintro _ rfl; change wpList _ _ _ _ _ _; go_wp2_with fail; (with_reducible refine (HCALL.out _).mono ?_); rintro e w2 ⟨rfl, hx2⟩; go_wp2_with fail; exact ⟨rfl, hx2.1, rfl, rfl⟩
                · intro w1 hx1; rintro _ rfl; change wpList _ _ _ _ _ _; exact ob_assign rfl rfl rfl rfl rfl
              · intro w1 hx1; rintro _ rfl; rintro _ rfl; rintro _ rfl; rintro _ rfl; rintro _ rfl; rintro _ rfl; rintro _ rfl; rintro _ rfl; rintro _ rfl; rintro _ rfl; rintro _ rfl; rintro _ rfl; refine depsThen_nil ?_; dsimp only; simp only [Act.put, List.setIfInBounds_toArray, List.set_cons_zero, List.set_cons_succ]
                have HX2 := Lib.hid (hx.out.trans hx1)
                clear q6 p6 f0 f1 f2 f3 g0 g1 g2 g3 hx1 hx HCALL
                by_cases hz : wholeV x y = 0
                · have hres := Lib.hid (HST.out hz)
                  rw [hz]
                  clear hz HST HSP
                  go_wp2_with fail
                  go_roundw
                  case rel => exact ⟨k + 1, hlt, hlm, by go_num, hres.out, HX2.out⟩
                  case measure => simp [intOf]; omega
                · have hres := Lib.hid (HSP.out hz)
                  have hd : (wholeV x y != 0) = true := by simp [hz]
                  have hd1 := beq_int_ne hz
                  clear HST HSP hz
                  generalize wholeV x y = r at *
                  go_wp2_with fail
                  go_ret
                  exact ⟨by rw [hres.out]; rfl, HX0.out.trans HX2.out⟩
            · obtain rfl : k = n2 := by omega
              have hI2 : decide ((k : Int) < (k : Int)) = false := decide_eq_false (by omega)
              have hI3 : decide ((n1 : Int) < (k : Int)) = false := decide_eq_false (by omega)
              have hres : Hid (cmpL wholeV a.set b.set = 1) := by show _ = _; rw [← hcm.out, cmpL_more k1 (by rw [HN2.out]; omega)]
              go_wp2_with fail
              go_ret
              exact ⟨by rw [hres.out]; rfl, HX0.out.trans hx.out⟩
          · obtain rfl : k = n1 := by omega
            have hI : decide ((k : Int) < (k : Int)) = false := decide_eq_false (by omega)
            by_cases hlm : k < n2
            · have hI2 : decide ((k : Int) < (n2 : Int)) = true := decide_eq_true (by omega)
              have hres : Hid (cmpL wholeV a.set b.set = -1) := by show _ = _; rw [← hcm.out, cmpL_less (by rw [HN1.out]; omega) (by rw [HN2.out]; exact hlm)]
              go_wp2_with fail
              go_ret
              exact ⟨by rw [hres.out]; rfl, HX0.out.trans hx.out⟩
            · obtain rfl : k = n2 := by omega
              have hres : Hid (cmpL wholeV a.set b.set = 0) := by show _ = _; rw [← hcm.out, cmpL_same (by rw [HN1.out]; omega) (by rw [HN2.out]; omega)]
              go_wp2_with fail
              go_ret
              exact ⟨by rw [hres.out]; rfl, HX0.out.trans hx.out⟩
      · have d3 := beq_int_ne z3
        have d3' : (r3 != 0) = true := by simp [z3]
        rw [if_neg z3]
        clear z3
        go_enter Tryz.func63, Tryz.ntmps63
        go_upto_region 1 with fail
        generalize (w.alloc (.cells #[.string (strOf a.name), .int .i64 a.op, .int .i64 a.v.k, .int .i64 a.v.n, .string (strOf a.v.s), .bool a.v.b, .slice sa a.set.length ca] 52)).alloc (.cells #[.string (strOf b.name), .int .i64 b.op, .int .i64 b.v.k, .int .i64 b.v.n, .string (strOf b.v.s), .bool b.v.b, .slice sb b.set.length cb] 52) = w0 at *
        go_wp2_with (go_at_call 102; (with_reducible refine (HWH.out _).mono ?_); rintro e w1 ⟨rfl, hx⟩; have HX1 := Lib.hid hx.1; clear hx)
        go_ret
        exact ⟨rfl, HX0.out.trans HX1.out⟩
    · rw [g1, if_neg (by decide)]
      have g4 : (a.op != b.op) = true := by rw [bne, g3]; rfl
      go_enter Tryz.func63, Tryz.ntmps63
      go_upto_region 1 with fail
      generalize (w.alloc (.cells #[.string (strOf a.name), .int .i64 a.op, .int .i64 a.v.k, .int .i64 a.v.n, .string (strOf a.v.s), .bool a.v.b, .slice sa a.set.length ca] 52)).alloc (.cells #[.string (strOf b.name), .int .i64 b.op, .int .i64 b.v.k, .int .i64 b.v.n, .string (strOf b.v.s), .bool b.v.b, .slice sb b.set.length cb] 52) = w0 at *
      go_wp2_with fail
      go_ret
      exact ⟨rfl, HX0.out⟩
  · rw [e1, if_neg (by decide)]
    have e4 : (a.name != b.name) = true := by rw [bne, e3]; rfl
    go_enter Tryz.func63, Tryz.ntmps63
    go_upto_region 1 with fail
    generalize (w.alloc (.cells #[.string (strOf a.name), .int .i64 a.op, .int .i64 a.v.k, .int .i64 a.v.n, .string (strOf a.v.s), .bool a.v.b, .slice sa a.set.length ca] 52)).alloc (.cells #[.string (strOf b.name), .int .i64 b.op, .int .i64 b.v.k, .int .i64 b.v.n, .string (strOf b.v.s), .bool b.v.b, .slice sb b.set.length cb] 52) = w0 at *
    go_wp2_with fail
    go_ret
    exact ⟨rfl, HX0.out⟩
end Go.Proofs.YtckigoeomkphhaaGreat

namespace Go.Proofs.YtckigoeomkphhaaGreat

theorem prefix_ge : ∀ (p s : List UInt8), p.isPrefixOf s = true → 0 ≤ Lib.compareBytes s p
  | [], s, _ => by cases s <;> simp [Lib.compareBytes]
  | a :: p, [], h => by simp at h
  | a :: p, b :: s, h => by
    simp only [List.isPrefixOf, Bool.and_eq_true, beq_iff_eq] at h
    obtain ⟨rfl, h⟩ := h
    have := prefix_ge p s h
    simp only [Lib.compareBytes]
    rw [if_neg (UInt8.lt_irrefl a), if_neg (UInt8.lt_irrefl a)]; exact this

theorem has_fold (l : List V) (r : Rg) (v : V) : (l.foldl (fun r x => r.minus (oneV x)) r).has v = (r.has v && l.all fun x => !(oneV x).has v) := by
  induction l generalizing r with
  | nil => simp
  | cons x l ih => rw [List.foldl_cons, ih, has_minus, List.all_cons, Bool.and_assoc]
theorem has_in {c : C} (hm : mayC c = true) (h9 : c.op = 9) (v : V) : (ofR c).has v = c.set.any fun x => (oneV x).has v := by
  unfold ofR
  rw [hm, if_neg (by decide), if_neg (by omega), if_pos h9, has_minus, has_fold, all_has, Bool.true_and, Bool.true_and]
  induction c.set with
  | nil => rfl
  | cons x l ih => rw [List.all_cons, List.any_cons, Bool.not_and, Bool.not_not, ih]
theorem has_norm {c : C} (hm : mayC c = true) (v : V) : (ofR (normC c)).has v = (ofR c).has v := by
  by_cases h9 : c.op = 9
  · rw [has_in hm h9, has_in (norm_may hm) h9]
    have hi := set_inj hm
    rw [Bool.eq_iff_iff, List.any_eq_true, List.any_eq_true]
    constructor
    · rintro ⟨x, hx, e⟩; exact ⟨x, (sortU_mem _ hi x).1 hx, e⟩
    · rintro ⟨x, hx, e⟩; exact ⟨x, (sortU_mem _ hi x).2 hx, e⟩
  · have e1 : mayC (normC c) = true := norm_may hm
    have hl : ofL (normC c) = ofL c := rfl
    unfold ofR
    rw [hm, e1]
    show (if _ then _ else if c.op = 1 then _ else if c.op = 9 then _ else setR c.v.k (ofL (normC c))).has v = _
    rw [hl, if_neg h9, if_neg (show ¬ (!true) = true by decide), if_neg (show ¬ (!true) = true by decide), if_neg h9]
theorem norm_names {p : List C} (n : List UInt8) : n ∈ namesF (normP p) ↔ n ∈ namesF p := by
  rw [names_mem, names_mem]
  constructor
  · rintro ⟨c, hc, e⟩
    obtain ⟨d, hd, rfl⟩ := (normP_mem p c).1 hc
    exact ⟨d, hd, e⟩
  · rintro ⟨d, hd, e⟩
    exact ⟨normC d, (normP_mem p _).2 ⟨d, hd, rfl⟩, e⟩
theorem may_all {p : List C} (h : mayP p = true) : ∀ c ∈ p, mayC c = true := by
  unfold mayP at h
  simp only [Bool.and_eq_true] at h
  exact List.all_eq_true.1 h.2
theorem may_len {p : List C} (h : mayP p = true) : p.length ≤ 6 := by
  unfold mayP at h
  simp only [Bool.and_eq_true, decide_eq_true_eq] at h
  exact h.1
theorem may_mk {p : List C} (h1 : p.length ≤ 6) (h2 : ∀ c ∈ p, mayC c = true) : mayP p = true := by
  unfold mayP
  simp only [Bool.and_eq_true, decide_eq_true_eq]
  exact ⟨h1, List.all_eq_true.2 h2⟩
theorem norm_asked {p : List C} (h : mayP p = true) (n : List UInt8) (v : V) : (askedF (normP p) n).has v = (askedF p n).has v := by
  rw [asked_has (normP_may h), asked_has h, Bool.eq_iff_iff, List.all_eq_true, List.all_eq_true]
  constructor
  · intro a c hc
    have := a (normC c) ((normP_mem p _).2 ⟨c, hc, rfl⟩)
    rw [has_norm (may_all h c hc)] at this
    exact this
  · intro a z hz
    obtain ⟨c, hc, rfl⟩ := (normP_mem p z).1 hz
    rw [has_norm (may_all h c hc)]
    exact a c hc
theorem covers_norm {p : List C} (h : mayP p = true) : coversF (normP p) p = true ∧ coversF p (normP p) = true :=
  ⟨(covers_iff _ _).2 ⟨normP_may h, h, .inr fun n hn => ⟨(norm_names n).1 hn, fun v hv => by rw [norm_asked h]; exact hv⟩⟩,
   (covers_iff _ _).2 ⟨h, normP_may h, .inr fun n hn => ⟨(norm_names n).2 hn, fun v hv => by rw [norm_asked h] at hv; exact hv⟩⟩⟩
theorem may_nil : mayP [] = true := rfl
theorem covers_nil {p : List C} (h : mayP p = true) : coversF [] p = true := covers_sub may_nil h fun _ hc => by cases hc
theorem covers_less {p : List C} (h : mayP p = true) (k : Nat) : coversF (p.take k ++ p.drop (k + 1)) p = true := by
  have hsub : ∀ c ∈ p.take k ++ p.drop (k + 1), c ∈ p := fun c hc => by
    rcases List.mem_append.1 hc with hc | hc
    · exact List.mem_of_mem_take hc
    · exact List.mem_of_mem_drop hc
  refine covers_sub (may_mk ?_ fun c hc => may_all h c (hsub c hc)) h hsub
  have := may_len h
  rw [List.length_append, List.length_take, List.length_drop]; omega
theorem may_app {p q : List C} (hp : mayP p = true) (hq : mayP q = true) (hl : p.length + q.length ≤ 6) : mayP (p ++ q) = true :=
  may_mk (by rw [List.length_append]; exact hl) fun c hc => by
    rcases List.mem_append.1 hc with hc | hc
    · exact may_all hp c hc
    · exact may_all hq c hc
theorem covers_both {p q r : List C} (hp : mayP p = true) (hq : mayP q = true) (hl : p.length + q.length ≤ 6) : coversF (p ++ q) r = (coversF p r && coversF q r) := by
  have hb := may_app hp hq hl
  rw [Bool.eq_iff_iff, Bool.and_eq_true]
  constructor
  · intro h
    exact ⟨covers_trans (covers_sub hp hb fun c hc => List.mem_append_left _ hc) h, covers_trans (covers_sub hq hb fun c hc => List.mem_append_right _ hc) h⟩
  · rintro ⟨h1, h2⟩
    obtain ⟨_, a2, a3⟩ := (covers_iff _ _).1 h1
    obtain ⟨_, _, b3⟩ := (covers_iff _ _).1 h2
    refine (covers_iff _ _).2 ⟨hb, a2, ?_⟩
    rcases a3 with a3 | a3
    · exact .inl a3
    · rcases b3 with b3 | b3
      · exact .inl b3
      · right
        intro n hn
        have key : ∀ {x : List C}, mayP x = true → (∀ n ∈ namesF x, n ∈ namesF r ∧ ∀ v, (askedF r n).has v = true → (askedF x n).has v = true) → ∀ v, (askedF r n).has v = true → (askedF x n).has v = true := fun {x} hx h v hv => by
          by_cases hnx : n ∈ namesF x
          · exact (h n hnx).2 v hv
          · exact asked_free hx hnx v
        refine ⟨?_, fun v hv => ?_⟩
        · obtain ⟨c, hc, e⟩ := (names_mem _ _).1 hn
          rcases List.mem_append.1 hc with hc | hc
          · exact (a3 n ((names_mem _ _).2 ⟨c, hc, e⟩)).1
          · exact (b3 n ((names_mem _ _).2 ⟨c, hc, e⟩)).1
        · have k1 := key hp a3 v hv
          have k2 := key hq b3 v hv
          rw [asked_has hp] at k1
          rw [asked_has hq] at k2
          rw [asked_has hb, List.all_append, k1, k2]; rfl

/-! Overlapping -/
def bothF (p q : List C) : List (List UInt8) := sortU Lib.compareBytes (namesF p ++ namesF q)
def apartF (p q : List C) : Option (List UInt8) := if mayP p && mayP q then (bothF p q).find? fun n => ((askedF p n).and (askedF q n)).empty else none
def overlapsF (p q : List C) : Bool := mayP p && mayP q && (apartF p q).isNone
theorem both_mem (p q : List C) (n : List UInt8) : n ∈ bothF p q ↔ n ∈ namesF p ∨ n ∈ namesF q := by
  unfold bothF
  rw [sortU_mem _ (fun _ _ _ _ => bytes_zero), List.mem_append]
theorem apart_good (p q : List C) (n : List UInt8) : Good4 ((askedF p n).and (askedF q n)) := (good_asked p n).and (good_asked q n)
theorem overlaps_iff (p q : List C) : overlapsF p q = true ↔ mayP p = true ∧ mayP q = true ∧ ∀ n, n ∈ namesF p ∨ n ∈ namesF q → ∃ v, (askedF p n).has v = true ∧ (askedF q n).has v = true := by
  unfold overlapsF apartF
  simp only [Bool.and_eq_true, and_assoc]
  refine and_congr_right fun h1 => and_congr_right fun h2 => ?_
  rw [if_pos ⟨h1, h2⟩, Option.isNone_iff_eq_none, List.find?_eq_none]
  constructor
  · intro h n hn
    have hne : ¬ ((askedF p n).and (askedF q n)).empty = true := h n ((both_mem p q n).2 hn)
    rw [empty_iff (apart_good p q n)] at hne
    obtain ⟨v, hv⟩ := Classical.not_forall.1 hne
    refine ⟨v, ?_⟩
    rw [has_and] at hv
    simpa using hv
  · intro h n hn
    obtain ⟨v, h3, h4⟩ := h n ((both_mem p q n).1 hn)
    intro he
    have := (empty_iff (apart_good p q n)).1 he v
    rw [has_and, h3, h4] at this; cases this
theorem overlaps_symm (p q : List C) : overlapsF p q = overlapsF q p := by
  rw [Bool.eq_iff_iff, overlaps_iff, overlaps_iff]
  constructor
  · rintro ⟨h1, h2, h3⟩
    exact ⟨h2, h1, fun n hn => let ⟨v, a, b⟩ := h3 n hn.symm; ⟨v, b, a⟩⟩
  · rintro ⟨h1, h2, h3⟩
    exact ⟨h2, h1, fun n hn => let ⟨v, a, b⟩ := h3 n hn.symm; ⟨v, b, a⟩⟩
theorem names_nil : namesF [] = [] := rfl
theorem any_iff (p : List C) : overlapsF p [] = true ↔ mayP p = true ∧ noneF p = false := by
  rw [overlaps_iff]
  constructor
  · rintro ⟨h1, _, h3⟩
    refine ⟨h1, ?_⟩
    cases hn : noneF p with
    | false => rfl
    | true =>
      obtain ⟨n, hm, hv⟩ := none_iff.1 hn
      obtain ⟨v, a, _⟩ := h3 n (.inl hm)
      rw [hv] at a; cases a
  · rintro ⟨h1, h2⟩
    refine ⟨h1, may_nil, fun n hn => ?_⟩
    have hm : n ∈ namesF p := hn.elim id fun h => by rw [names_nil] at h; cases h
    have hne : ¬ ∀ v, (askedF p n).has v = false := fun h => by
      have := none_iff.2 ⟨n, hm, h⟩
      rw [h2] at this; cases this
    obtain ⟨v, hv⟩ := Classical.not_forall.1 hne
    exact ⟨v, by simpa using hv, asked_free may_nil (by rw [names_nil]; intro h; cases h) v⟩
/-- Who overlaps one that a third one covers overlaps that third one. -/
theorem overlap_law1 {p q r : List C} (h1 : overlapsF p q = true) (h2 : coversF r q = true) : overlapsF p r = true := by
  obtain ⟨a1, a2, a3⟩ := (overlaps_iff p q).1 h1
  obtain ⟨b1, _, b3⟩ := (covers_iff r q).1 h2
  refine (overlaps_iff p r).2 ⟨a1, b1, fun n hn => ?_⟩
  rcases b3 with b3 | b3
  · exfalso
    obtain ⟨m, hm, hv⟩ := none_iff.1 b3
    obtain ⟨v, _, h⟩ := a3 m (.inr hm)
    rw [hv] at h; cases h
  · have hnq : n ∈ namesF p ∨ n ∈ namesF q := hn.imp id fun h => (b3 n h).1
    obtain ⟨v, c1, c2⟩ := a3 n hnq
    refine ⟨v, c1, ?_⟩
    by_cases hr : n ∈ namesF r
    · exact (b3 n hr).2 v c2
    · exact asked_free b1 hr v
/-- One that covers another one, which matches anything, overlaps it. -/
theorem overlap_law2 {p q : List C} (h1 : coversF p q = true) (h2 : overlapsF q [] = true) : overlapsF p q = true := by
  obtain ⟨a1, a2, a3⟩ := (covers_iff p q).1 h1
  obtain ⟨_, hn⟩ := (any_iff q).1 h2
  obtain ⟨_, _, b3⟩ := (overlaps_iff q []).1 h2
  refine (overlaps_iff p q).2 ⟨a1, a2, fun n hm => ?_⟩
  rcases a3 with a3 | a3
  · rw [hn] at a3; cases a3
  · have hq : n ∈ namesF q := hm.elim (fun h => (a3 n h).1) id
    obtain ⟨v, c1, _⟩ := b3 n (.inl hq)
    refine ⟨v, ?_, c1⟩
    by_cases hp : n ∈ namesF p
    · exact (a3 n hp).2 v c1
    · exact asked_free a1 hp v
/-- What matches nothing is covered by all, and overlaps nobody. -/
theorem overlap_law3 {p q : List C} (hp : mayP p = true) (h : overlapsF p [] = false) : overlapsF p q = false ∧ (mayP q = true → coversF q p = true) := by
  have hn : noneF p = true := by
    cases hn : noneF p with
    | true => rfl
    | false => have := (any_iff p).2 ⟨hp, hn⟩; rw [h] at this; cases this
  refine ⟨?_, fun hq => (covers_iff q p).2 ⟨hq, hp, .inl hn⟩⟩
  cases ho : overlapsF p q with
  | false => rfl
  | true =>
    obtain ⟨_, _, a3⟩ := (overlaps_iff p q).1 ho
    obtain ⟨n, hm, hv⟩ := none_iff.1 hn
    obtain ⟨v, c1, _⟩ := a3 n (.inl hm)
    rw [hv] at c1; cases c1
theorem apart_some {p q : List C} {n : List UInt8} (h : apartF p q = some n) : mayP p = true ∧ mayP q = true ∧ ((askedF p n).and (askedF q n)).empty = true ∧ (n ∈ namesF p ∨ n ∈ namesF q) := by
  unfold apartF at h
  split at h
  · rename_i hm
    simp only [Bool.and_eq_true] at hm
    exact ⟨hm.1, hm.2, List.find?_some (p := fun n => ((askedF p n).and (askedF q n)).empty) h, (both_mem p q n).1 (List.mem_of_find?_eq_some h)⟩
  · cases h
/-- Without their constraints of all other names they do not overlap either. -/
theorem apart_only {p q : List C} {n : List UInt8} (h : apartF p q = some n) : overlapsF (p.filter fun c => decide (c.name = n)) (q.filter fun c => decide (c.name = n)) = false := by
  obtain ⟨hp, hq, he, hn⟩ := apart_some h
  have hm : ∀ {x : List C}, mayP x = true → mayP (x.filter fun c => decide (c.name = n)) = true := fun {x} hx =>
    may_mk (Nat.le_trans (List.length_filter_le _ _) (may_len hx)) fun c hc => may_all hx c (List.mem_filter.1 hc).1
  have ha : ∀ {x : List C}, mayP x = true → ∀ v, (askedF (x.filter fun c => decide (c.name = n)) n).has v = (askedF x n).has v := fun {x} hx v => by
    rw [asked_has (hm hx), asked_has hx, List.all_filter]
    congr 1
    funext c
    by_cases hc : c.name = n
    · simp [hc]
    · simp [hc]
  cases ho : overlapsF (p.filter fun c => decide (c.name = n)) (q.filter fun c => decide (c.name = n)) with
  | false => rfl
  | true =>
    exfalso
    obtain ⟨_, _, a3⟩ := (overlaps_iff _ _).1 ho
    have hn' : n ∈ namesF (p.filter fun c => decide (c.name = n)) ∨ n ∈ namesF (q.filter fun c => decide (c.name = n)) := hn.imp (fun h => by
        obtain ⟨c, hc, e⟩ := (names_mem _ _).1 h
        exact (names_mem _ _).2 ⟨c, List.mem_filter.2 ⟨hc, decide_eq_true e⟩, e⟩) (fun h => by
        obtain ⟨c, hc, e⟩ := (names_mem _ _).1 h
        exact (names_mem _ _).2 ⟨c, List.mem_filter.2 ⟨hc, decide_eq_true e⟩, e⟩)
    obtain ⟨v, c1, c2⟩ := a3 n hn'
    rw [ha hp] at c1
    rw [ha hq] at c2
    have := (empty_iff (apart_good p q n)).1 he v
    rw [has_and, c1, c2] at this; cases this

end Go.Proofs.YtckigoeomkphhaaGreat

namespace Go.Proofs.YtckigoeomkphhaaGreat

def Full (l : List Sp) : Prop := ∀ x ∈ l, Cut.lt x.lo x.hi = true
def Rise (l : List Sp) : Prop := Full l ∧ l.Pairwise fun x y => Cut.lt y.lo x.hi = false
theorem cut_asym {x y : Cut} (h : Cut.lt x y = true) : Cut.lt y x = false := by
  cases k : Cut.lt y x with
  | false => rfl
  | true => have := cut_trans h k; rw [cut_irr] at this; cases this
theorem minus1_split {s out : Sp} : minus1 s out = [s] ∨ (Cut.lt out.lo s.hi = true ∧ Cut.lt s.lo out.hi = true ∧ minus1 s out = fullS [⟨s.lo, out.lo⟩, ⟨out.hi, s.hi⟩]) := by
  unfold minus1
  by_cases hd : (!Cut.lt out.lo s.hi || !Cut.lt s.lo out.hi) = true
  · rw [if_pos hd]; exact .inl rfl
  · rw [if_neg hd]
    simp only [Bool.not_eq_true, Bool.or_eq_false_iff, Bool.not_eq_false'] at hd
    rw [if_pos hd.1, if_pos hd.2]
    exact .inr ⟨hd.1, hd.2, rfl⟩
theorem minus1_sub {s out x : Sp} (hs : Cut.lt s.lo s.hi = true) (h : x ∈ minus1 s out) : Cut.lt x.lo s.lo = false ∧ Cut.lt s.hi x.hi = false ∧ Cut.lt x.lo x.hi = true := by
  rcases minus1_split (s := s) (out := out) with e | ⟨h1, h2, e⟩
  · rw [e] at h
    rw [List.mem_singleton.1 h]
    exact ⟨cut_irr _, cut_irr _, hs⟩
  · rw [e] at h
    have h' := List.mem_filter.1 h
    rcases List.mem_cons.1 h'.1 with e | h3
    · subst e; exact ⟨cut_irr _, cut_asym h1, h'.2⟩
    · have e := List.mem_singleton.1 h3
      subst e; exact ⟨cut_asym h2, cut_irr _, h'.2⟩
theorem minus1_rise {s out : Sp} (ho : Cut.lt out.lo out.hi = true) : (minus1 s out).Pairwise fun x y => Cut.lt y.lo x.hi = false := by
  rcases minus1_split (s := s) (out := out) with e | ⟨_, _, e⟩
  · rw [e]; exact List.pairwise_singleton _ _
  · rw [e]
    refine List.Pairwise.filter _ (List.pairwise_cons.2 ⟨fun y hy => ?_, List.pairwise_singleton _ _⟩)
    rw [List.mem_singleton.1 hy]
    exact cut_asym ho
theorem minus1_two {s out : Sp} : (minus1 s out).length ≤ 1 ∨ ((minus1 s out).length = 2 ∧ Cut.lt s.lo out.lo = true ∧ Cut.lt out.hi s.hi = true) := by
  rcases minus1_split (s := s) (out := out) with e | ⟨_, _, e⟩
  · rw [e]; exact .inl (Nat.le_refl _)
  · rw [e]
    unfold fullS
    cases h1 : Cut.lt s.lo out.lo <;> cases h2 : Cut.lt out.hi s.hi <;> simp [h1, h2]
theorem flat_rise {out : Sp} (ho : Cut.lt out.lo out.hi = true) : ∀ {l : List Sp}, Rise l → Rise (l.flatMap fun s => minus1 s out) ∧ (l.flatMap fun s => minus1 s out).length ≤ l.length + 1
  | [], _ => ⟨⟨fun _ h => (by cases h), List.Pairwise.nil⟩, by simp⟩
  | s :: l, h => by
    have hp := List.pairwise_cons.1 h.2
    have hf : Full l := fun x hx => h.1 x (List.mem_cons_of_mem _ hx)
    have hs := h.1 s List.mem_cons_self
    obtain ⟨ih1, ih2⟩ := flat_rise ho ⟨hf, hp.2⟩
    rw [List.flatMap_cons]
    refine ⟨⟨fun x hx => ?_, List.pairwise_append.2 ⟨minus1_rise ho, ih1.2, fun x hx y hy => ?_⟩⟩, ?_⟩
    · rcases List.mem_append.1 hx with hx | hx
      · exact (minus1_sub hs hx).2.2
      · exact ih1.1 x hx
    · obtain ⟨t, ht, hy⟩ := List.mem_flatMap.1 hy
      have a := (minus1_sub (hf t ht) hy).1
      have b := hp.1 t ht
      have c := (minus1_sub hs hx).2.1
      exact cut_ntrans (cut_ntrans a b) c
    · rw [List.length_append, List.length_cons]
      rcases minus1_two (s := s) (out := out) with h1 | ⟨h1, h2, h3⟩
      · omega
      · have hl : ∀ m : List Sp, (∀ t ∈ m, (minus1 t out).length ≤ 1) → (m.flatMap fun s => minus1 s out).length ≤ m.length := fun m => by
          induction m with
          | nil => intro _; simp
          | cons t m ih =>
            intro hm
            have a := hm t List.mem_cons_self
            have b := ih fun u hu => hm u (List.mem_cons_of_mem _ hu)
            rw [List.flatMap_cons, List.length_append, List.length_cons]; omega
        have := hl l fun t ht => by
          rcases minus1_two (s := t) (out := out) with k | ⟨_, k2, k3⟩
          · exact k
          · exfalso
            have b := hp.1 t ht
            have e1 := cut_trans (cut_trans k2 ho) h3
            rw [b] at e1; cases e1
        omega
theorem minusL_rise : ∀ {m l : List Sp}, Full m → Rise l → Rise (minusL l m) ∧ (minusL l m).length ≤ l.length + m.length
  | [], l, _, h => ⟨h, Nat.le_refl _⟩
  | o :: m, l, hm, h => by
    obtain ⟨a, b⟩ := flat_rise (hm o List.mem_cons_self) h
    obtain ⟨c, d⟩ := minusL_rise (m := m) (fun x hx => hm x (List.mem_cons_of_mem _ hx)) a
    refine ⟨c, ?_⟩
    have : (minusL l (o :: m)).length ≤ (l.flatMap fun s => minus1 s o).length + m.length := d
    rw [List.length_cons]; omega

/-- Of no Kind more than n spans. -/
structure Few (n : Nat) (r : Rg) : Prop where
  i : r.i.length ≤ n
  s : r.s.length ≤ n
  b : r.b.length ≤ n
structure Rises (r : Rg) : Prop where
  i : Rise r.i
  s : Rise r.s
  b : Rise r.b
structure Fulls (r : Rg) : Prop where
  i : Full r.i
  s : Full r.s
  b : Full r.b
theorem Rises.full {r : Rg} (h : Rises r) : Fulls r := ⟨h.i.1, h.s.1, h.b.1⟩
theorem Good4.full {r : Rg} (h : Good4 r) : Fulls r := ⟨fun x hx => (h.i x hx).2.2, fun x hx => (h.s x hx).2.2, fun x hx => (h.b x hx).2.2⟩
theorem Few.mono {m n : Nat} {r : Rg} (h : Few m r) (k : m ≤ n) : Few n r := ⟨Nat.le_trans h.i k, Nat.le_trans h.s k, Nat.le_trans h.b k⟩
theorem Rises.minus {r q : Rg} (h : Rises r) (k : Fulls q) : Rises (r.minus q) := ⟨(minusL_rise k.i h.i).1, (minusL_rise k.s h.s).1, (minusL_rise k.b h.b).1⟩
theorem Few.minus {m n : Nat} {r q : Rg} (hr : Rises r) (hq : Fulls q) (h : Few m r) (k : Few n q) : Few (m + n) (r.minus q) := by
  have a := (minusL_rise hq.i hr.i).2
  have b := (minusL_rise hq.s hr.s).2
  have c := (minusL_rise hq.b hr.b).2
  have := h.i; have := h.s; have := h.b; have := k.i; have := k.s; have := k.b
  exact ⟨by show (minusL r.i q.i).length ≤ _; omega, by show (minusL r.s q.s).length ≤ _; omega, by show (minusL r.b q.b).length ≤ _; omega⟩
theorem Rises.and {r q : Rg} (h : Rises r) (k : Fulls q) : Rises (r.and q) := h.minus (h.minus k).full
theorem Few.and {m n : Nat} {r q : Rg} (hr : Rises r) (hq : Fulls q) (h : Few m r) (k : Few n q) : Few (m + (m + n)) (r.and q) := Few.minus hr (hr.minus hq).full h (Few.minus hr hq h k)
theorem rises_all : Rises allR := by
  have hg := good_all.full
  exact ⟨⟨hg.i, List.pairwise_singleton _ _⟩, ⟨hg.s, List.pairwise_singleton _ _⟩, ⟨hg.b, List.pairwise_singleton _ _⟩⟩
theorem few_all : Few 1 allR := ⟨Nat.le_refl _, Nat.le_refl _, Nat.le_refl _⟩
theorem rises_none : Rises noneR := ⟨⟨fun _ h => (by cases h), List.Pairwise.nil⟩, ⟨fun _ h => (by cases h), List.Pairwise.nil⟩, ⟨fun _ h => (by cases h), List.Pairwise.nil⟩⟩
theorem few_none : Few 0 noneR := ⟨Nat.le_refl _, Nat.le_refl _, Nat.le_refl _⟩
theorem few_set {n : Nat} (k : Int) {l : List Sp} (h : l.length ≤ n) : Few n (setR k l) := by
  unfold setR
  (repeat' split) <;> exact ⟨by simp <;> exact h, by simp <;> exact h, by simp <;> exact h⟩
theorem ofL_len (c : C) : (ofL c).length ≤ 2 := by
  unfold ofL fullS
  refine Nat.le_trans (List.length_filter_le _ _) ?_
  (repeat' split) <;> simp
theorem one_len (v : V) : (ofL ⟨[], 2, v, []⟩).length ≤ 1 := by
  unfold ofL fullS
  refine Nat.le_trans (List.length_filter_le _ _) ?_
  rw [if_pos rfl]; simp
theorem fold_few (l : List V) : ∀ (m : Nat) (r : Rg), Rises r → Few m r → Rises (l.foldl (fun r v => r.minus (oneV v)) r) ∧ Few (m + l.length) (l.foldl (fun r v => r.minus (oneV v)) r) := by
  induction l with
  | nil => intro m r h k; exact ⟨h, k⟩
  | cons v l ih =>
    intro m r h k
    have := ih (m + 1) (r.minus (oneV v)) (h.minus (good_one v).full) (Few.minus h (good_one v).full k (few_set _ (one_len v)))
    refine ⟨this.1, this.2.mono ?_⟩
    simp; omega
theorem may_set {c : C} (h : mayC c = true) : c.set.length ≤ 6 := by
  unfold mayC at h
  split at h
  · cases h
  · split at h
    · simp at h; rw [h.2]; simp
    · split at h
      · simp at h; rw [h.2]; simp
      · split at h
        · simp at h; rw [h.2]; simp
        · split at h
          · simp at h; omega
          · cases h
theorem few_of (c : C) : Few 8 (ofR c) := by
  unfold ofR
  by_cases hm : mayC c = true
  · rw [if_neg (by simp [hm])]
    have hs := may_set hm
    split
    · exact few_all.mono (by decide)
    · split
      · have := fold_few c.set 1 allR rises_all few_all
        exact (Few.minus rises_all this.1.full few_all this.2).mono (by omega)
      · exact (few_set _ (ofL_len c)).mono (by decide)
  · rw [if_pos (by simpa using hm)]
    exact few_none.mono (by decide)
theorem few_fold (name : List UInt8) (p : List C) : ∀ (m : Nat) (r : Rg), Rises r → Few m r → Rises (p.foldl (fun r c => if c.name = name then r.and (ofR c) else r) r) ∧ Few ((m + 8) * 2 ^ p.length) (p.foldl (fun r c => if c.name = name then r.and (ofR c) else r) r) := by
  induction p with
  | nil => intro m r h k; exact ⟨h, k.mono (by simp)⟩
  | cons c p ih =>
    intro m r h k
    have hp : (m + m + 8 + 8) * 2 ^ p.length ≤ (m + 8) * 2 ^ (c :: p).length := by
      rw [List.length_cons, Nat.pow_succ, Nat.mul_comm (2 ^ p.length) 2, ← Nat.mul_assoc]
      exact Nat.mul_le_mul_right _ (by omega)
    rw [List.foldl_cons]
    split
    · have := ih (m + m + 8) (r.and (ofR c)) (h.and (good_of c).full) ((Few.and h (good_of c).full k (few_of c)).mono (by omega))
      exact ⟨this.1, this.2.mono hp⟩
    · have := ih (m + m + 8) r h (k.mono (by omega))
      exact ⟨this.1, this.2.mono hp⟩
theorem few_asked (p : List C) (name : List UInt8) : Rises (askedF p name) ∧ Few 576 (askedF p name) := by
  unfold askedF
  by_cases hm : mayP p = true
  · rw [if_neg (by simp [hm])]
    have hl := may_len hm
    have := few_fold name p 1 allR rises_all few_all
    refine ⟨this.1, this.2.mono ?_⟩
    have : 2 ^ p.length ≤ 2 ^ 6 := Nat.pow_le_pow_right (by decide) hl
    omega
  · rw [if_pos (by simpa using hm)]
    exact ⟨rises_none, few_none.mono (by decide)⟩
end Go.Proofs.YtckigoeomkphhaaGreat
