/- Holds, Get, Matches: the program's. -/
import Derived.Test.YtkefppdacigbmaaA4
namespace Go.Proofs.Ytkefppdacigbmaa
open Go.RowKit

set_option maxRecDepth 100000 in
set_option maxHeartbeats 4000000 in
theorem pholds_any (w : World) (c : C) (sa : Option Addr) (sc : Nat) (hs : SetR w (.slice sa c.set.length sc) c.set) (v : V) :
    Calls Try.prog 13 #[.agg #[.string (strOf c.name), .int .i64 c.op, .int .i64 c.v.k, .int .i64 c.v.n, .string (strOf c.v.s), .bool c.v.b, .slice sa c.set.length sc], .agg #[.int .i64 v.k, .int .i64 v.n, .string (strOf v.s), .bool v.b]] w
      fun e w' => e = .returned (.bool (holdsC c v)) ∧ Ext w w' := by
  have hx0 : Ext w ((w.alloc (.cells #[.string (strOf c.name), .int .i64 c.op, .int .i64 c.v.k, .int .i64 c.v.n, .string (strOf c.v.s), .bool c.v.b, .slice sa c.set.length sc] 31)).alloc (.cells #[.int .i64 v.k, .int .i64 v.n, .string (strOf v.s), .bool v.b] 28)) := ((Ext.refl w).alloc _).alloc _
  have hN : ((w.alloc (.cells #[.string (strOf c.name), .int .i64 c.op, .int .i64 c.v.k, .int .i64 c.v.n, .string (strOf c.v.s), .bool c.v.b, .slice sa c.set.length sc] 31)).alloc (.cells #[.int .i64 v.k, .int .i64 v.n, .string (strOf v.s), .bool v.b] 28)).heap[w.heap.size + 1]? = some (.cells #[.int .i64 v.k, .int .i64 v.n, .string (strOf v.s), .bool v.b] 28 (0, 0)) := by
    have h := heap_alloc_new (w.alloc (.cells #[.string (strOf c.name), .int .i64 c.op, .int .i64 c.v.k, .int .i64 c.v.n, .string (strOf c.v.s), .bool c.v.b, .slice sa c.set.length sc] 31)) (.cells #[.int .i64 v.k, .int .i64 v.n, .string (strOf v.s), .bool v.b] 28)
    rw [World.size_alloc] at h; exact h
  have hB : CBox ((w.alloc (.cells #[.string (strOf c.name), .int .i64 c.op, .int .i64 c.v.k, .int .i64 c.v.n, .string (strOf c.v.s), .bool c.v.b, .slice sa c.set.length sc] 31)).alloc (.cells #[.int .i64 v.k, .int .i64 v.n, .string (strOf v.s), .bool v.b] 28)) w.heap.size c sa sc :=
    (CBox.mk (heap_alloc_new _ _) (hs.ext ((Ext.refl w).alloc _))).ext ((Ext.refl _).alloc _)
  go_enter Try.func13, Try.ntmps13
  go_upto_region 1 with fail
  generalize (w.alloc (.cells #[.string (strOf c.name), .int .i64 c.op, .int .i64 c.v.k, .int .i64 c.v.n, .string (strOf c.v.s), .bool c.v.b, .slice sa c.set.length sc] 31)).alloc (.cells #[.int .i64 v.k, .int .i64 v.n, .string (strOf v.s), .bool v.b] 28) = wa at *
  have hxd : Ext wa wa.drew := (Ext.refl wa).drew
  obtain ⟨c0, c1, c2, c3, c4, c5, c6⟩ := (hB.ext hxd).cell
  have hsd := hB.s.ext hxd
  have n0 := hxd.cell (cell_of_row _ _ 0 _ _ _ hN)
  have n1 := hxd.cell (cell_of_row _ _ 1 _ _ _ hN)
  have n2 := hxd.cell (cell_of_row _ _ 2 _ _ _ hN)
  have n3 := hxd.cell (cell_of_row _ _ 3 _ _ _ hN)
  clear hN hB
  go_region_law (first | (go_simp; go_at_call 53; refine (asks_any _ c sa sc hsd).mono ?_; rintro e w2 ⟨g, cb, rfl, eg, hx2, hcl⟩; have m0 := hx2.cell n0; have m1 := hx2.cell n1; have m2 := hx2.cell n2; have m3 := hx2.cell n3) | (go_simp; go_at_fn g; refine (hcl _ v (Ext.refl _)).mono ?_; rintro e w3 ⟨rfl, hx3⟩))
  all_goals
    go_wp2_with fail
    go_ret
    exact ⟨rfl, hx0.trans (hxd.trans (hx2.trans hx3))⟩

theorem ent113 : ∀ args w, (callFunc 113 args).run Try.prog w = .ok (.enter 113 args) w := enters_of Try.func113 (by kernel_rfl) rfl
theorem ent56 : ∀ args w, (callFunc 56 args).run Try.prog w = .ok (.enter 56 args) w := enters_of Try.func56 (by kernel_rfl) rfl

/-- What event.Get answers. -/
def getV (l : List (List UInt8 × V)) (name : List UInt8) : V × Bool := match getE l name with | some v => (v, true) | none => (⟨0, 0, [], false⟩, false)

set_option maxRecDepth 100000 in
set_option maxHeartbeats 2000000 in
theorem get113_any (w : World) (B : Nat) (name : List UInt8) (h0 : w.cell? ⟨B, 0, none⟩ = some (.string (strOf name))) (x : List UInt8 × V) :
    Calls Try.prog 113 #[.agg #[.string (strOf x.1), .int .i64 x.2.k, .int .i64 x.2.n, .string (strOf x.2.s), .bool x.2.b], .pointer (some ⟨B, 0, none⟩)] w
      fun e w' => e = .returned (.bool (decide (x.1 = name))) ∧ Ext w w' := by
  have hx0 : Ext w (w.alloc (.cells #[.string (strOf x.1), .int .i64 x.2.k, .int .i64 x.2.n, .string (strOf x.2.s), .bool x.2.b] 52)) := (Ext.refl w).alloc _
  have c0 := hx0.cell h0
  by_cases h : x.1 = name
  · have hd : (x.1 == name) = true := beq_iff_eq.2 h
    rw [decide_eq_true h]
    clear h h0
    go_enter Try.func113, Try.ntmps113
    go_wp2
    go_ret
    exact ⟨rfl, hx0⟩
  · have hd : (x.1 == name) = false := beq_eq_false_iff_ne.2 h
    have hne : ¬ strOf x.1 = strOf name := fun e => h (strOf_inj.1 e)
    rw [decide_eq_false h]
    clear h h0
    go_enter Try.func113, Try.ntmps113
    go_wp2
    go_ret
    exact ⟨rfl, hx0⟩

end Go.Proofs.Ytkefppdacigbmaa
