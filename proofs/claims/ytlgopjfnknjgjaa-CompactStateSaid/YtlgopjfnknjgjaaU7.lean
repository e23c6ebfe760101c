/- choosePivotOrdered at uint64 (56) and what it calls (80, 76, 75): the pivot lies in the range. -/
import Derived.Test.YtlgopjfnknjgjaaU5
import Derived.Test.YtlgopjfnknjgjaaU6
import Derived.Test.YtlgopjfnknjgjaaY2
namespace Go.Proofs.Ytlgopjfnknjgjaa
open Go.RowKit

/-- The box of 'swaps'. -/
def SwB (s : Nat) (w : World) (n : Nat) : Prop := w.heap[s]? = some (.cells #[.int .i64 n] 3 (0, 0))
theorem swb_set {s : Nat} {w : World} {n : Nat} (h : SwB s w n) (m : Nat) : SwB s (w.setCell ⟨s, 0, none⟩ (.int .i64 m)) m ∧ w.grownBy (w.setCell ⟨s, 0, none⟩ (.int .i64 m)) (some s) := by
  have hl : s < w.heap.size := (Array.getElem?_eq_some_iff.1 h).1
  refine ⟨?_, ⟨rfl, rfl, rfl, by simp, fun k hk hne => setCell_block_far w ⟨s, 0, none⟩ _ k (fun e => hne (by rw [e]))⟩⟩
  unfold SwB
  show (w.heap.modify s _)[s]? = _
  rw [Array.getElem?_modify, if_pos rfl]
  unfold SwB at h
  rw [h]
  rfl
theorem SwB.ext {s : Nat} {w w' : World} {n : Nat} (h : SwB s w n) (hx : Ext w w') : SwB s w' n := (hx.block s (Array.getElem?_eq_some_iff.1 h).1).trans h
theorem SwB.cell {s : Nat} {w : World} {n : Nat} (h : SwB s w n) : w.cell? ⟨s, 0, none⟩ = some (.int .i64 n) := cell_of_row _ _ 0 _ _ _ h
theorem SwB.free {s : Nat} {w : World} {n : Nat} (h : SwB s w n) : w.frozen? ⟨s, 0, none⟩ = false := frozen_of_row _ _ _ _ _ h
theorem UO.kept {base g cap s : Nat} {w w' : World} {d : Array Nat} {n : Nat} (h : UO base g cap w d) (hs : SwB s w n) (hg : w.grownBy w' (some s)) : UO base g cap w' d :=
  own_keep h hg (fun k hk e => by cases hk; cases e; exact own_ne h hs (by decide) rfl)
/-- What such a piece leaves: nothing but 'swaps' has turned. -/
def Swq (s n m : Nat) (w w' : World) : Prop := (∃ n', n ≤ n' ∧ n' ≤ n + m ∧ SwB s w' n') ∧ w.grownBy w' (some s)

set_option maxRecDepth 100000 in
set_option maxHeartbeats 8000000 in
theorem order2_any (base g cap s n : Nat) (d : Array Nat) (a b : Nat) (w : World) (ho : UO base g cap w d) (hs : SwB s w n) (ha : a < d.size) (hb : b < d.size) (_hsz : d.size ≤ 1000000) (hn : n ≤ 1000) :
    Calls Try.prog 80 #[.slice (some ⟨g, 0, none⟩) d.size cap, .int .i64 a, .int .i64 b, .pointer (some ⟨s, 0, none⟩)] w fun e w' => ∃ x y : Nat, e = .returned (.tuple #[.int .i64 x, .int .i64 y]) ∧ ((x = a ∧ y = b) ∨ (x = b ∧ y = a)) ∧ Swq s n 1 w w' := by
  have ka := ho.cell ha
  have kb := ho.cell hb
  have HS := Lib.hid hs
  clear ho hs
  generalize hN : d.size = N at *
  clear hN
  have ha2 : (a : Int) < (N : Int) := by omega
  have hb2 : (b : Int) < (N : Int) := by omega
  obtain ⟨n1, hn1⟩ : ∃ m, m = n + 1 := ⟨_, rfl⟩
  have q1 : (n : Int) + 1 = (n1 : Int) := by omega
  have HN1 := Lib.hid hn1
  clear hn1
  cases hl : ltN d[b]! d[a]! with
  | true =>
    have HL := Lib.hid hl
    clear hl
    generalize d[a]! = xa at *
    generalize d[b]! = xb at *
    go_enter Try.func80, Try.ntmps80
    go_upto_region 1 with fail
    refine wp_region_facts [Fact.eq (.slice (some ⟨g, 0, none⟩) N cap),
        Fact.eq (.int .i64 b),
        Fact.eq (.pointer (some ⟨g, b, none⟩)),
        Fact.eq (.int .u64 xb),
        Fact.eq (.slice (some ⟨g, 0, none⟩) N cap),
        Fact.eq (.int .i64 a),
        Fact.eq (.pointer (some ⟨g, a, none⟩)),
        Fact.eq (.int .u64 xa),
        Fact.eq (.bool true)]
      [[], [], [(0, 10), (1, 11)], [(2, 12)], [], [], [(4, 14), (5, 15)], [(6, 16)], [(3, 13), (7, 17)]]
      [(0, 10), (1, 11), (2, 12), (3, 13), (4, 14), (5, 15), (6, 16), (7, 17), (8, 18)] (by kernel_rfl) (by kernel_rfl) ?_ ?_
    · refine ⟨?_, ?_, ?_, ?_, ?_, ?_, ?_, ?_, ?_, trivial⟩
      · intro w1 hx1; change wpList _ _ _ _ _ _; exact ob_move rfl rfl rfl rfl rfl
      · intro w1 hx1; change wpList _ _ _ _ _ _; exact ob_move rfl rfl rfl rfl rfl
      · intro w1 hx1; rintro _ rfl; rintro _ rfl; change wpList _ _ _ _ _ _; go_wp2_with fail; exact ⟨rfl, Ext.refl _, rfl, rfl⟩
      · intro w1 hx1; rintro _ rfl; change wpList _ _ _ _ _ _; have m0 := hx1.cell kb; go_wp2_with fail; exact ⟨rfl, Ext.refl _, rfl, rfl⟩
      · intro w1 hx1; change wpList _ _ _ _ _ _; exact ob_move rfl rfl rfl rfl rfl
      · intro w1 hx1; change wpList _ _ _ _ _ _; exact ob_move rfl rfl rfl rfl rfl
      · intro w1 hx1; rintro _ rfl; rintro _ rfl; change wpList _ _ _ _ _ _; go_wp2_with fail; exact ⟨rfl, Ext.refl _, rfl, rfl⟩
      · intro w1 hx1; rintro _ rfl; change wpList _ _ _ _ _ _; have m0 := hx1.cell ka; go_wp2_with fail; exact ⟨rfl, Ext.refl _, rfl, rfl⟩
      · intro w1 hx1; rintro _ rfl; rintro _ rfl; change wpList _ _ _ _ _ _; go_wp2_with fail; refine (less_yes HL.out _).mono ?_; rintro e w2 ⟨rfl, hx2⟩; go_wp2_with fail; exact ⟨rfl, hx2, rfl, rfl⟩
    · intro w1 hx1; rintro _ rfl; rintro _ rfl; rintro _ rfl; rintro _ rfl; rintro _ rfl; rintro _ rfl; rintro _ rfl; rintro _ rfl; rintro _ rfl; refine depsThen_nil ?_; dsimp only; simp only [Act.put, List.setIfInBounds_toArray, List.set_cons_zero, List.set_cons_succ]
      have hs1 := HS.out.ext hx1
      have c0 := hs1.cell
      have f0 := hs1.free
      have hw := swb_set hs1 n1
      have HW := Lib.hid hw
      have HX := Lib.hid hx1
      clear hs1 hw hx1 ka kb
      go_upto_region 3 with fail
      clear c0 f0
      generalize w1.setCell ⟨s, 0, none⟩ (.int .i64 n1) = wn at *
      go_wp2_with fail
      go_ret2
      exact ⟨b, a, rfl, .inr ⟨rfl, rfl⟩, ⟨n1, by have := HN1.out; omega, by have := HN1.out; omega, HW.out.1⟩, grown_trans (grown_of_ext HX.out) HW.out.2⟩
  | false =>
    have HL := Lib.hid hl
    clear hl
    generalize d[a]! = xa at *
    generalize d[b]! = xb at *
    go_enter Try.func80, Try.ntmps80
    go_upto_region 1 with fail
    refine wp_region_facts [Fact.eq (.slice (some ⟨g, 0, none⟩) N cap),
        Fact.eq (.int .i64 b),
        Fact.eq (.pointer (some ⟨g, b, none⟩)),
        Fact.eq (.int .u64 xb),
        Fact.eq (.slice (some ⟨g, 0, none⟩) N cap),
        Fact.eq (.int .i64 a),
        Fact.eq (.pointer (some ⟨g, a, none⟩)),
        Fact.eq (.int .u64 xa),
        Fact.eq (.bool false)]
      [[], [], [(0, 10), (1, 11)], [(2, 12)], [], [], [(4, 14), (5, 15)], [(6, 16)], [(3, 13), (7, 17)]]
      [(0, 10), (1, 11), (2, 12), (3, 13), (4, 14), (5, 15), (6, 16), (7, 17), (8, 18)] (by kernel_rfl) (by kernel_rfl) ?_ ?_
    · refine ⟨?_, ?_, ?_, ?_, ?_, ?_, ?_, ?_, ?_, trivial⟩
      · intro w1 hx1; change wpList _ _ _ _ _ _; exact ob_move rfl rfl rfl rfl rfl
      · intro w1 hx1; change wpList _ _ _ _ _ _; exact ob_move rfl rfl rfl rfl rfl
      · intro w1 hx1; rintro _ rfl; rintro _ rfl; change wpList _ _ _ _ _ _; go_wp2_with fail; exact ⟨rfl, Ext.refl _, rfl, rfl⟩
      · intro w1 hx1; rintro _ rfl; change wpList _ _ _ _ _ _; have m0 := hx1.cell kb; go_wp2_with fail; exact ⟨rfl, Ext.refl _, rfl, rfl⟩
      · intro w1 hx1; change wpList _ _ _ _ _ _; exact ob_move rfl rfl rfl rfl rfl
      · intro w1 hx1; change wpList _ _ _ _ _ _; exact ob_move rfl rfl rfl rfl rfl
      · intro w1 hx1; rintro _ rfl; rintro _ rfl; change wpList _ _ _ _ _ _; go_wp2_with fail; exact ⟨rfl, Ext.refl _, rfl, rfl⟩
      · intro w1 hx1; rintro _ rfl; change wpList _ _ _ _ _ _; have m0 := hx1.cell ka; go_wp2_with fail; exact ⟨rfl, Ext.refl _, rfl, rfl⟩
      · intro w1 hx1; rintro _ rfl; rintro _ rfl; change wpList _ _ _ _ _ _; go_wp2_with fail; refine (less_no HL.out _).mono ?_; rintro e w2 ⟨rfl, hx2⟩; go_wp2_with fail; exact ⟨rfl, hx2, rfl, rfl⟩
    · intro w1 hx1; rintro _ rfl; rintro _ rfl; rintro _ rfl; rintro _ rfl; rintro _ rfl; rintro _ rfl; rintro _ rfl; rintro _ rfl; rintro _ rfl; refine depsThen_nil ?_; dsimp only; simp only [Act.put, List.setIfInBounds_toArray, List.set_cons_zero, List.set_cons_succ]
      have HX := Lib.hid hx1
      clear hx1 ka kb
      go_wp2_with fail
      go_ret2
      exact ⟨a, b, rfl, .inl ⟨rfl, rfl⟩, ⟨n, Nat.le_refl _, by omega, HS.out.ext HX.out⟩, grown_of_ext HX.out⟩

set_option maxRecDepth 100000 in
set_option maxHeartbeats 8000000 in
theorem median_any (base g cap s n : Nat) (d : Array Nat) (a b c : Nat) (w : World) (ho : UO base g cap w d) (hs : SwB s w n) (ha : a < d.size) (hb : b < d.size) (hc : c < d.size) (hsz : d.size ≤ 1000000) (hn : n ≤ 900) :
    Calls Try.prog 76 #[.slice (some ⟨g, 0, none⟩) d.size cap, .int .i64 a, .int .i64 b, .int .i64 c, .pointer (some ⟨s, 0, none⟩)] w fun e w' => ∃ x : Nat, e = .returned (.int .i64 x) ∧ (x = a ∨ x = b ∨ x = c) ∧ Swq s n 3 w w' := by
  have h1 := order2_any base g cap s n d a b w ho hs ha hb hsz (by omega)
  have H1 := Lib.hid h1
  have HO := Lib.hid ho
  have HS := Lib.hid hs
  clear h1 ho hs
  go_enter Try.func76, Try.ntmps76
  go_upto_region 2 with ((with_reducible refine H1.out.mono ?_); rintro e w1 ⟨x1, y1, rfl, hxy, ⟨n1, k1, k2, s1⟩, g1⟩; have HXY := Lib.hid hxy; have S1 := Lib.hid s1; have G1 := Lib.hid g1; clear hxy s1 g1)
  have hx1 : x1 < d.size ∧ y1 < d.size := by rcases HXY.out with ⟨rfl, rfl⟩ | ⟨rfl, rfl⟩ <;> exact ⟨by assumption, by assumption⟩
  have o1 := HO.out.kept HS.out G1.out
  have H2 := Lib.hid (order2_any base g cap s n1 d y1 c w1 o1 S1.out hx1.2 hc hsz (by omega))
  have O1 := Lib.hid o1
  have HX1 := Lib.hid hx1
  clear o1 hx1
  go_upto_region 3 with ((with_reducible refine H2.out.mono ?_); rintro e w2 ⟨x2, y2, rfl, hxy, ⟨n2, k3, k4, s1⟩, g1⟩; have HXY2 := Lib.hid hxy; have S2 := Lib.hid s1; have G2 := Lib.hid g1; clear hxy s1 g1)
  have hx2 : x2 < d.size ∧ y2 < d.size := by rcases HXY2.out with ⟨rfl, rfl⟩ | ⟨rfl, rfl⟩ <;> exact ⟨by first | assumption | exact HX1.out.2, by first | assumption | exact HX1.out.2⟩
  have o2 := O1.out.kept S1.out G2.out
  have H3 := Lib.hid (order2_any base g cap s n2 d x1 x2 w2 o2 S2.out HX1.out.1 hx2.1 hsz (by omega))
  clear o2 hx2
  go_wp2_with ((with_reducible refine H3.out.mono ?_); rintro e w3 ⟨x3, y3, rfl, hxy, ⟨n3, k5, k6, s1⟩, g1⟩; have HXY3 := Lib.hid hxy; have S3 := Lib.hid s1; have G3 := Lib.hid g1; clear hxy s1 g1)
  go_ret
  refine ⟨y3, rfl, ?_, ⟨n3, by omega, by omega, S3.out⟩, grown_trans (grown_trans G1.out G2.out) G3.out⟩
  have e1 := HXY.out
  have e2 := HXY2.out
  have e3 := HXY3.out
  omega

set_option maxRecDepth 100000 in
set_option maxHeartbeats 8000000 in
theorem adj_any (base g cap s n : Nat) (d : Array Nat) (a : Nat) (w : World) (ho : UO base g cap w d) (hs : SwB s w n) (ha : 0 < a) (hb : a + 1 < d.size) (hsz : d.size ≤ 1000000) (hn : n ≤ 900) :
    Calls Try.prog 75 #[.slice (some ⟨g, 0, none⟩) d.size cap, .int .i64 a, .pointer (some ⟨s, 0, none⟩)] w fun e w' => ∃ x : Nat, e = .returned (.int .i64 x) ∧ (a ≤ x + 1 ∧ x ≤ a + 1) ∧ Swq s n 3 w w' := by
  obtain ⟨a0, h0⟩ : ∃ m, m = a - 1 := ⟨_, rfl⟩
  obtain ⟨a1, h1⟩ : ∃ m, m = a + 1 := ⟨_, rfl⟩
  have q0 : (a : Int) - 1 = (a0 : Int) := by omega
  have q1 : (a : Int) + 1 = (a1 : Int) := by omega
  have hm := median_any base g cap s n d a0 a a1 w ho hs (by omega) (by omega) (by omega) hsz hn
  have H := Lib.hid hm
  have A0 := Lib.hid h0
  have A1 := Lib.hid h1
  clear hm h0 h1 ho hs
  go_enter Try.func75, Try.ntmps75
  go_wp2_with ((with_reducible refine H.out.mono ?_); rintro e w1 ⟨x, rfl, hx, hq⟩; have HX := Lib.hid hx; have HQ := Lib.hid hq; clear hx hq)
  go_ret
  exact ⟨x, rfl, by have h1 := A0.out; have h2 := A1.out; have h3 := HX.out; omega, HQ.out⟩
end Go.Proofs.Ytlgopjfnknjgjaa
