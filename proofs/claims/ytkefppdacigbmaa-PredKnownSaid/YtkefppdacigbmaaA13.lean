/- cmp.Or, the whole order of values. -/
import Derived.Test.YtkefppdacigbmaaA12
import Derived.Test.YtkefppdacigbmaaK3
namespace Go.Proofs.Ytkefppdacigbmaa
open Go.RowKit

def orL : List Int → Int
  | [] => 0
  | x :: r => if x = 0 then orL r else x
theorem orL4 (a b c d : Int) : orL [a, b, c, d] = or2 a (or2 b (or2 c d)) := by
  simp only [orL, or2]
  (repeat' split) <;> simp_all
theorem orL_zero {l : List Int} {k : Nat} (hk : k < l.length) (h : l[k] = 0) : orL (l.drop k) = orL (l.drop (k + 1)) := by
  rw [List.drop_eq_getElem_cons hk, orL, if_pos h]
theorem orL_hit {l : List Int} {k : Nat} (hk : k < l.length) (h : l[k] ≠ 0) : orL (l.drop k) = l[k] := by
  rw [List.drop_eq_getElem_cons hk, orL, if_neg h]

set_option maxRecDepth 100000 in
set_option maxHeartbeats 2000000 in
theorem or_any (w : World) (v : Value) (l : List Int) (h : Row w 1 v l.length (l.map (Value.int .i64))) : Calls Try.prog 120 #[v] w fun e w' => e = .returned (.int .i64 (orL l)) ∧ w' = w := by
  obtain ⟨a, cap, rfl, hc, hm⟩ := Row.shape h
  unfold maxLen at hm
  generalize hn : l.length = n at *
  have HN := Lib.hid hn
  clear hn
  go_enter Try.func120, Try.ntmps120
  go_wp2_with fail
  go_loopw [5, 8] (fun _ i wr => ∃ k : Nat, k ≤ n ∧ i = .int .i64 k ∧ Hid (orL (l.drop k) = orL l) ∧ wr = w) (fun _ i _ => n - (intOf i).toNat)
  case atStart => exact ⟨0, Nat.zero_le _, rfl, rfl, rfl⟩
  case round =>
    obtain ⟨k, hk, rfl, hor, rfl⟩ := hrel
    by_cases hlt : k < n
    · have k1 : k < l.length := by rw [HN.out]; exact hlt
      have hI : decide ((k : Int) < (n : Int)) = true := decide_eq_true (by omega)
      obtain ⟨B, o, rfl, f0⟩ := Row.cell h (j := k) (u := .int .i64 l[k]) (by rw [List.getElem?_map, List.getElem?_eq_getElem k1]; rfl) (by omega)
      by_cases hz : l[k] = 0
      · have hnx : Hid (orL (l.drop (k + 1)) = orL l) := by show _ = _; rw [← orL_zero k1 hz, hor.out]
        rw [hz] at f0
        clear hz
        go_wp2_with fail
        go_roundw
        case rel => exact ⟨k + 1, hlt, by go_num, hnx, by first | rfl | trivial⟩
        case measure => simp [intOf]; omega
      · have hhit : Hid (orL l = l[k]) := by show _ = _; rw [← hor.out, orL_hit k1 hz]
        have hd : (l[k] != 0) = true := by simp [hz]
        have hd1 : (l[k] == 0) = false := beq_int_ne hz
        generalize l[k] = x at *
        replace hz := Lib.hid hz
        go_wp2_with fail
        go_ret
        exact ⟨by rw [hhit.out]; rfl, rfl⟩
    · obtain rfl : k = n := by omega
      have hI : decide ((k : Int) < (k : Int)) = false := decide_eq_false (by omega)
      have hz : Hid (orL l = 0) := by show _ = _; rw [← hor.out, ← HN.out, List.drop_length]; rfl
      go_wp2_with fail
      go_ret
      exact ⟨by rw [hz.out]; rfl, rfl⟩

/-- Worlds that grew and drew: a way in which memory may turn. -/
def GrewS : Rg.Step := ⟨Grew, Grew.refl, fun h k => Grew.trans h k, fun w => (Grew.refl w).drew⟩
def Rg.Fact.ints (l : List Int) : Rg.Fact GrewS := ⟨fun v w => Row w 1 v l.length (l.map (Value.int .i64)), fun _ _ _ hx h => Row.ext h hx.1⟩
theorem row_four (w : World) (a b c d : Int) : Row (w.alloc (.cells #[.int .i64 a, .int .i64 b, .int .i64 c, .int .i64 d] 3)) 1 (.slice (some ⟨w.heap.size, 0, none⟩) 4 4) [a, b, c, d].length ([a, b, c, d].map (Value.int .i64)) := by
  have := World.ownsRow_lit (base := w.heap.size) (e := 3) (size := 1) w #[.int .i64 a, .int .i64 b, .int .i64 c, .int .i64 d] 4 (Nat.le_refl _) (by decide) rfl
  exact Row.of_own this

set_option maxRecDepth 100000 in
set_option maxHeartbeats 4000000 in
theorem whole_any (w : World) (a b : V) :
    Calls Try.prog 121 #[.agg #[.int .i64 a.k, .int .i64 a.n, .string (strOf a.s), .bool a.b], .agg #[.int .i64 b.k, .int .i64 b.n, .string (strOf b.s), .bool b.b]] w
      fun e w' => e = .returned (.int .i64 (wholeV a b)) ∧ Grew w w' := by
  have hx0 : Grew w ((w.alloc (.cells #[.int .i64 a.k, .int .i64 a.n, .string (strOf a.s), .bool a.b] 28)).alloc (.cells #[.int .i64 b.k, .int .i64 b.n, .string (strOf b.s), .bool b.b] 28)) := ((Grew.refl w).alloc _).alloc _
  have hA : ((w.alloc (.cells #[.int .i64 a.k, .int .i64 a.n, .string (strOf a.s), .bool a.b] 28)).alloc (.cells #[.int .i64 b.k, .int .i64 b.n, .string (strOf b.s), .bool b.b] 28)).heap[w.heap.size]? = some (.cells #[.int .i64 a.k, .int .i64 a.n, .string (strOf a.s), .bool a.b] 28 (0, 0)) := by
    have h := heap_alloc_new w (.cells #[.int .i64 a.k, .int .i64 a.n, .string (strOf a.s), .bool a.b] 28)
    rw [((Ext.refl _).alloc _).block _ (Array.getElem?_eq_some_iff.1 h).1]; exact h
  have hN : ((w.alloc (.cells #[.int .i64 a.k, .int .i64 a.n, .string (strOf a.s), .bool a.b] 28)).alloc (.cells #[.int .i64 b.k, .int .i64 b.n, .string (strOf b.s), .bool b.b] 28)).heap[w.heap.size + 1]? = some (.cells #[.int .i64 b.k, .int .i64 b.n, .string (strOf b.s), .bool b.b] 28 (0, 0)) := by
    have h := heap_alloc_new (w.alloc (.cells #[.int .i64 a.k, .int .i64 a.n, .string (strOf a.s), .bool a.b] 28)) (.cells #[.int .i64 b.k, .int .i64 b.n, .string (strOf b.s), .bool b.b] 28)
    rw [World.size_alloc] at h; exact h
  have a0 := cell_of_row _ _ 0 _ _ _ hA
  have a1 := cell_of_row _ _ 1 _ _ _ hA
  have a2 := cell_of_row _ _ 2 _ _ _ hA
  have a3 := cell_of_row _ _ 3 _ _ _ hA
  have b0 := cell_of_row _ _ 0 _ _ _ hN
  have b1 := cell_of_row _ _ 1 _ _ _ hN
  have b2 := cell_of_row _ _ 2 _ _ _ hN
  have b3 := cell_of_row _ _ 3 _ _ _ hN
  have hres : wholeV a b = orL [cmpV a b, Lib.compareInt a.n b.n, Lib.compareBytes a.s b.s, cmpB a.b b.b] := by rw [orL4]; rfl
  have hcB : ∀ W, Calls Try.prog 23 #[.agg #[.int .i64 3, .int .i64 0, .string (strOf []), .bool a.b], .agg #[.int .i64 3, .int .i64 0, .string (strOf []), .bool b.b]] W fun e w' => e = .returned (.int .i64 (cmpB a.b b.b)) ∧ Grew W w' := fun W => compare_any W 3 0 3 0 [] [] a.b b.b
  rw [hres]
  clear hA hN hres
  go_enter Try.func121, Try.ntmps121
  go_upto_region 1 with fail
  generalize (w.alloc (.cells #[.int .i64 a.k, .int .i64 a.n, .string (strOf a.s), .bool a.b] 28)).alloc (.cells #[.int .i64 b.k, .int .i64 b.n, .string (strOf b.s), .bool b.b] 28) = wa at *
  refine Rg.wp_region_facts GrewS [Rg.Fact.eq _ (.agg #[.int .i64 a.k, .int .i64 a.n, .string (strOf a.s), .bool a.b]),
      Rg.Fact.eq _ (.agg #[.int .i64 b.k, .int .i64 b.n, .string (strOf b.s), .bool b.b]),
      Rg.Fact.eq _ (.int .i64 (cmpV a b)),
      Rg.Fact.eq _ (.pointer (some ⟨w.heap.size, 1, none⟩)),
      Rg.Fact.eq _ (.int .i64 a.n),
      Rg.Fact.eq _ (.pointer (some ⟨w.heap.size + 1, 1, none⟩)),
      Rg.Fact.eq _ (.int .i64 b.n),
      Rg.Fact.eq _ (.int .i64 (Lib.compareInt a.n b.n)),
      Rg.Fact.eq _ (.pointer (some ⟨w.heap.size, 2, none⟩)),
      Rg.Fact.eq _ (.string (strOf a.s)),
      Rg.Fact.eq _ (.pointer (some ⟨w.heap.size + 1, 2, none⟩)),
      Rg.Fact.eq _ (.string (strOf b.s)),
      Rg.Fact.eq _ (.int .i64 (Lib.compareBytes a.s b.s)),
      Rg.Fact.eq _ (.pointer (some ⟨w.heap.size, 3, none⟩)),
      Rg.Fact.eq _ (.bool a.b),
      Rg.Fact.eq _ (.agg #[.int .i64 3, .int .i64 0, .string (strOf []), .bool a.b]),
      Rg.Fact.eq _ (.pointer (some ⟨w.heap.size + 1, 3, none⟩)),
      Rg.Fact.eq _ (.bool b.b),
      Rg.Fact.eq _ (.agg #[.int .i64 3, .int .i64 0, .string (strOf []), .bool b.b]),
      Rg.Fact.eq _ (.int .i64 (cmpB a.b b.b)),
      Rg.Fact.ints [cmpV a b, Lib.compareInt a.n b.n, Lib.compareBytes a.s b.s, cmpB a.b b.b],
      Rg.Fact.eq _ (.int .i64 (orL [cmpV a b, Lib.compareInt a.n b.n, Lib.compareBytes a.s b.s, cmpB a.b b.b])),
      Rg.Fact.eq _ (.int .i64 (orL [cmpV a b, Lib.compareInt a.n b.n, Lib.compareBytes a.s b.s, cmpB a.b b.b]))]
    [[], [], [(0, 5), (1, 6)], [], [(3, 8)], [], [(5, 10)], [(4, 9), (6, 11)], [], [(8, 13)], [], [(10, 15)], [(9, 14), (11, 16)], [], [(13, 18)], [(14, 19)], [], [(16, 21)], [(17, 22)], [(15, 20), (18, 23)], [(2, 7), (7, 12), (12, 17), (19, 24)], [(20, 25)], [(21, 26)]]
    [(0, 5), (1, 6), (2, 7), (3, 8), (4, 9), (5, 10), (6, 11), (7, 12), (8, 13), (9, 14), (10, 15), (11, 16), (12, 17), (13, 18), (14, 19), (15, 20), (16, 21), (17, 22), (18, 23), (19, 24), (20, 25), (21, 26), (22, 4)] (by kernel_rfl) (by kernel_rfl) ?_ ?_
  · refine ⟨?_, ?_, ?_, ?_, ?_, ?_, ?_, ?_, ?_, ?_, ?_, ?_, ?_, ?_, ?_, ?_, ?_, ?_, ?_, ?_, ?_, ?_, ?_, trivial⟩
    · intro w1 hx1; change wpList _ _ _ _ _ _; have m0 := hx1.1.cell a0; have m1 := hx1.1.cell a1; have m2 := hx1.1.cell a2; have m3 := hx1.1.cell a3; go_wp2_with fail; exact ⟨rfl, GrewS.refl _, rfl, rfl⟩
    · intro w1 hx1; change wpList _ _ _ _ _ _; have m0 := hx1.1.cell b0; have m1 := hx1.1.cell b1; have m2 := hx1.1.cell b2; have m3 := hx1.1.cell b3; go_wp2_with fail; exact ⟨rfl, GrewS.refl _, rfl, rfl⟩
    · intro w1 hx1; rintro _ rfl; rintro _ rfl; change wpList _ _ _ _ _ _; go_wp2_with fail; refine (cmpV_any _ a b).mono ?_; rintro e w2 ⟨rfl, hx2⟩; go_wp2_with fail; exact ⟨rfl, hx2, rfl, rfl⟩
    · intro w1 hx1; change wpList _ _ _ _ _ _; go_wp2_with fail; exact ⟨rfl, GrewS.refl _, rfl, rfl⟩
    · intro w1 hx1; rintro _ rfl; change wpList _ _ _ _ _ _; have m := hx1.1.cell a1; go_wp2_with fail; exact ⟨rfl, GrewS.refl _, rfl, rfl⟩
    · intro w1 hx1; change wpList _ _ _ _ _ _; go_wp2_with fail; exact ⟨rfl, GrewS.refl _, rfl, rfl⟩
    · intro w1 hx1; rintro _ rfl; change wpList _ _ _ _ _ _; have m := hx1.1.cell b1; go_wp2_with fail; exact ⟨rfl, GrewS.refl _, rfl, rfl⟩
    · intro w1 hx1; rintro _ rfl; rintro _ rfl; change wpList _ _ _ _ _ _; go_wp2_with fail; refine (cmpint64_any _ _ _).mono ?_; rintro e w2 ⟨rfl, rfl⟩; go_wp2_with fail; exact ⟨rfl, GrewS.refl _, rfl, rfl⟩
    · intro w1 hx1; change wpList _ _ _ _ _ _; go_wp2_with fail; exact ⟨rfl, GrewS.refl _, rfl, rfl⟩
    · intro w1 hx1; rintro _ rfl; change wpList _ _ _ _ _ _; have m := hx1.1.cell a2; go_wp2_with fail; exact ⟨rfl, GrewS.refl _, rfl, rfl⟩
    · intro w1 hx1; change wpList _ _ _ _ _ _; go_wp2_with fail; exact ⟨rfl, GrewS.refl _, rfl, rfl⟩
    · intro w1 hx1; rintro _ rfl; change wpList _ _ _ _ _ _; have m := hx1.1.cell b2; go_wp2_with fail; exact ⟨rfl, GrewS.refl _, rfl, rfl⟩
    · intro w1 hx1; rintro _ rfl; rintro _ rfl; change wpList _ _ _ _ _ _; go_wp2_with fail; refine (cmpstr_any _ _ _).mono ?_; rintro e w2 ⟨rfl, rfl⟩; go_wp2_with fail; exact ⟨rfl, GrewS.refl _, rfl, rfl⟩
    · intro w1 hx1; change wpList _ _ _ _ _ _; go_wp2_with fail; exact ⟨rfl, GrewS.refl _, rfl, rfl⟩
    · intro w1 hx1; rintro _ rfl; change wpList _ _ _ _ _ _; have m := hx1.1.cell a3; go_wp2_with fail; exact ⟨rfl, GrewS.refl _, rfl, rfl⟩
    · intro w1 hx1; rintro _ rfl; change wpList _ _ _ _ _ _; go_wp2_with fail; refine (truth_any _ _).mono ?_; rintro e w2 ⟨rfl, hx2⟩; go_wp2_with fail; exact ⟨rfl, hx2, rfl, rfl⟩
    · intro w1 hx1; change wpList _ _ _ _ _ _; go_wp2_with fail; exact ⟨rfl, GrewS.refl _, rfl, rfl⟩
    · intro w1 hx1; rintro _ rfl; change wpList _ _ _ _ _ _; have m := hx1.1.cell b3; go_wp2_with fail; exact ⟨rfl, GrewS.refl _, rfl, rfl⟩
    · intro w1 hx1; rintro _ rfl; change wpList _ _ _ _ _ _; go_wp2_with fail; refine (truth_any _ _).mono ?_; rintro e w2 ⟨rfl, hx2⟩; go_wp2_with fail; exact ⟨rfl, hx2, rfl, rfl⟩
    · intro w1 hx1; rintro _ rfl; rintro _ rfl; change wpList _ _ _ _ _ _; go_wp2_with fail; refine (hcB _).mono ?_; rintro e w2 ⟨rfl, hx2⟩; go_wp2_with fail; exact ⟨rfl, hx2, rfl, rfl⟩
    · intro w1 hx1; rintro _ rfl; rintro _ rfl; rintro _ rfl; rintro _ rfl; change wpList _ _ _ _ _ _; have hr := row_four w1 (cmpV a b) (Lib.compareInt a.n b.n) (Lib.compareBytes a.s b.s) (cmpB a.b b.b); go_wp2_with fail; exact ⟨rfl, (Grew.refl w1).alloc _, rfl, hr⟩
    · intro w1 hx1; intro v25 h25; change wpList _ _ _ _ _ _; go_wp2_with fail; refine (or_any _ _ _ h25).mono ?_; rintro e w2 ⟨rfl, rfl⟩; go_wp2_with fail; exact ⟨rfl, GrewS.refl _, rfl, rfl⟩
    · intro w1 hx1; rintro _ rfl; change wpList _ _ _ _ _ _; exact Rg.ob_assign _ rfl rfl rfl rfl rfl
  · intro w1 hx1; rintro _ rfl; rintro _ rfl; rintro _ rfl; rintro _ rfl; rintro _ rfl; rintro _ rfl; rintro _ rfl; rintro _ rfl; rintro _ rfl; rintro _ rfl; rintro _ rfl; rintro _ rfl; rintro _ rfl; rintro _ rfl; rintro _ rfl; rintro _ rfl; rintro _ rfl; rintro _ rfl; rintro _ rfl; rintro _ rfl; intro v25 h25; rintro _ rfl; rintro _ rfl; refine depsThen_nil ?_; dsimp only; simp only [Act.put, List.setIfInBounds_toArray, List.set_cons_zero, List.set_cons_succ]
    replace h25 : (Rg.Fact.ints [cmpV a b, Lib.compareInt a.n b.n, Lib.compareBytes a.s b.s, cmpB a.b b.b]).p v25 w1 := h25
    go_wp2_with fail
    go_ret
    exact ⟨rfl, hx0.trans hx1⟩
end Go.Proofs.Ytkefppdacigbmaa
