/- What a constraint asks of a value: pred.asks, pred.Holds. -/
import Derived.Test.YtkefppdacigbmaaA2
namespace Go.Proofs.Ytkefppdacigbmaa
open Go.RowKit

/-- A constraint's box: its seven cells. -/
structure CBox (W : World) (B : Nat) (c : C) (sa : Option Addr) (sc : Nat) : Prop where
  b : W.heap[B]? = some (.cells #[.string (strOf c.name), .int .i64 c.op, .int .i64 c.v.k, .int .i64 c.v.n, .string (strOf c.v.s), .bool c.v.b, .slice sa c.set.length sc] 31 (0, 0))
  s : SetR W (.slice sa c.set.length sc) c.set
theorem CBox.ext {W W' : World} {B : Nat} {c : C} {sa : Option Addr} {sc : Nat} (h : CBox W B c sa sc) (hx : Ext W W') : CBox W' B c sa sc :=
  ⟨by rw [hx.block B (Array.getElem?_eq_some_iff.1 h.b).1]; exact h.b, h.s.ext hx⟩
theorem CBox.cell {W : World} {B : Nat} {c : C} {sa : Option Addr} {sc : Nat} (h : CBox W B c sa sc) :
    W.cell? ⟨B, 0, none⟩ = some (.string (strOf c.name)) ∧ W.cell? ⟨B, 1, none⟩ = some (.int .i64 c.op) ∧ W.cell? ⟨B, 2, none⟩ = some (.int .i64 c.v.k) ∧ W.cell? ⟨B, 3, none⟩ = some (.int .i64 c.v.n) ∧ W.cell? ⟨B, 4, none⟩ = some (.string (strOf c.v.s)) ∧ W.cell? ⟨B, 5, none⟩ = some (.bool c.v.b) ∧ W.cell? ⟨B, 6, none⟩ = some (.slice sa c.set.length sc) :=
  ⟨cell_of_row W B 0 _ _ _ h.b, cell_of_row W B 1 _ _ _ h.b, cell_of_row W B 2 _ _ _ h.b, cell_of_row W B 3 _ _ _ h.b, cell_of_row W B 4 _ _ _ h.b, cell_of_row W B 5 _ _ _ h.b, cell_of_row W B 6 _ _ _ h.b⟩

theorem hasp_any (a b : List UInt8) (w : World) : Calls Try.prog 107 #[.string (strOf a), .string (strOf b)] w fun e w' => e = .returned (.bool (Lib.hasPrefix a b)) ∧ w = w' :=
  (Try.strings_HasPrefix (strOf a) (strOf b) w).mono fun _ _ ⟨he, hw⟩ => ⟨he, hw.symm⟩

theorem ent98 : ∀ args w, (callFunc 98 args).run Try.prog w = .ok (.enter 98 args) w := enters_of Try.func98 (by kernel_rfl) rfl
theorem ent99 : ∀ args w, (callFunc 99 args).run Try.prog w = .ok (.enter 99 args) w := enters_of Try.func99 (by kernel_rfl) rfl
theorem ent106 : ∀ args w, (callFunc 106 args).run Try.prog w = .ok (.enter 106 args) w := enters_of Try.func106 (by kernel_rfl) rfl
theorem ent108 : ∀ args w, (callFunc 108 args).run Try.prog w = .ok (.enter 108 args) w := enters_of Try.func108 (by kernel_rfl) rfl
theorem ent109 : ∀ args w, (callFunc 109 args).run Try.prog w = .ok (.enter 109 args) w := enters_of Try.func109 (by kernel_rfl) rfl
theorem ent110 : ∀ args w, (callFunc 110 args).run Try.prog w = .ok (.enter 110 args) w := enters_of Try.func110 (by kernel_rfl) rfl

/-- A test of a comparison. -/
def tst (q : Nat) (n : Int) : Bool := if q = 100 then decide (n = 0) else if q = 101 then !decide (n = 0) else if q = 102 then decide (n < 0) else if q = 103 then decide (n ≤ 0) else if q = 104 then decide (0 < n) else decide (0 ≤ n)
theorem beq_dec (n : Int) : (n == 0) = decide (n = 0) := by by_cases h : n = 0 <;> simp [h]
theorem tst_any (q : Nat) (hq : q = 100 ∨ q = 101 ∨ q = 102 ∨ q = 103 ∨ q = 104 ∨ q = 105) (n : Int) (w : World) : Calls Try.prog q #[.int .i64 n] w fun e w' => e = .returned (.bool (tst q n)) ∧ w = w' := by
  rcases hq with rfl | rfl | rfl | rfl | rfl | rfl
  · go_enter Try.func100, Try.ntmps100
    go_wp2
    go_ret
    exact ⟨by show _ = Ending.returned (.bool (decide (n = 0))); rw [← beq_dec]; rfl, rfl⟩
  · go_enter Try.func101, Try.ntmps101
    go_wp2
    go_ret
    exact ⟨by show _ = Ending.returned (.bool (!decide (n = 0))); rw [← beq_dec]; rfl, rfl⟩
  · go_enter Try.func102, Try.ntmps102
    go_wp2
    go_ret
    exact ⟨rfl, rfl⟩
  · go_enter Try.func103, Try.ntmps103
    go_wp2
    go_ret
    exact ⟨rfl, rfl⟩
  · go_enter Try.func104, Try.ntmps104
    go_wp2
    go_ret
    exact ⟨rfl, rfl⟩
  · go_enter Try.func105, Try.ntmps105
    go_wp2
    go_ret
    exact ⟨rfl, rfl⟩
theorem ent_tst (q : Nat) (hq : q = 100 ∨ q = 101 ∨ q = 102 ∨ q = 103 ∨ q = 104 ∨ q = 105) : ∀ args w, (callFunc q args).run Try.prog w = .ok (.enter q args) w := by
  rcases hq with rfl | rfl | rfl | rfl | rfl | rfl
  · exact enters_of Try.func100 (by kernel_rfl) rfl
  · exact enters_of Try.func101 (by kernel_rfl) rfl
  · exact enters_of Try.func102 (by kernel_rfl) rfl
  · exact enters_of Try.func103 (by kernel_rfl) rfl
  · exact enters_of Try.func104 (by kernel_rfl) rfl
  · exact enters_of Try.func105 (by kernel_rfl) rfl

set_option maxRecDepth 100000 in
set_option maxHeartbeats 2000000 in
/-- The comparing closure. -/
theorem asks98_any (w : World) (B F q : Nat) (c : C) (sa : Option Addr) (sc : Nat) (hb : CBox w B c sa sc) (hf : w.cell? ⟨F, 0, none⟩ = some (.func (.func q) #[] #[])) (hq : q = 100 ∨ q = 101 ∨ q = 102 ∨ q = 103 ∨ q = 104 ∨ q = 105) (k n : Int) (s : List UInt8) (b : Bool) :
    Calls Try.prog 98 #[.agg #[.int .i64 k, .int .i64 n, .string (strOf s), .bool b], .pointer (some ⟨B, 0, none⟩), .pointer (some ⟨F, 0, none⟩)] w
      fun e w' => e = .returned (.bool (decide (k = c.v.k) && tst q (cmpV ⟨k, n, s, b⟩ c.v))) ∧ Ext w w' := by
  have hx0 : Ext w (w.alloc (.cells #[.int .i64 k, .int .i64 n, .string (strOf s), .bool b] 28)) := (Ext.refl w).alloc _
  have hN : (w.alloc (.cells #[.int .i64 k, .int .i64 n, .string (strOf s), .bool b] 28)).heap[w.heap.size]? = some (.cells #[.int .i64 k, .int .i64 n, .string (strOf s), .bool b] 28 (0, 0)) := heap_alloc_new _ _
  have n0 := cell_of_row _ _ 0 _ _ _ hN
  have n1 := cell_of_row _ _ 1 _ _ _ hN
  have n2 := cell_of_row _ _ 2 _ _ _ hN
  have n3 := cell_of_row _ _ 3 _ _ _ hN
  obtain ⟨c0, c1, c2, c3, c4, c5, c6⟩ := (hb.ext hx0).cell
  have hf0 := hx0.cell hf
  have eq_ := ent_tst q hq
  by_cases hk : k = c.v.k
  · have e : (decide (k = c.v.k) && tst q (cmpV ⟨k, n, s, b⟩ c.v)) = tst q (cmpV ⟨k, n, s, b⟩ ⟨c.v.k, c.v.n, c.v.s, c.v.b⟩) := by rw [decide_eq_true hk]; rfl
    rw [e]
    clear e
    have hd : (k == c.v.k) = true := beq_iff_eq.2 hk
    clear hk hN c0 c1 c6
    go_enter Try.func98, Try.ntmps98
    go_upto_region 1 with fail
    generalize w.alloc (.cells #[.int .i64 k, .int .i64 n, .string (strOf s), .bool b] 28) = wa at *
    have hxd : Ext wa wa.drew := (Ext.refl wa).drew
    have m0 := hxd.cell n0
    have m1 := hxd.cell n1
    have m2 := hxd.cell n2
    have m3 := hxd.cell n3
    have d2 := hxd.cell c2
    have d3 := hxd.cell c3
    have d4 := hxd.cell c4
    have d5 := hxd.cell c5
    have df := hxd.cell hf0
    go_region_law (first | (go_simp; go_at_call 23; refine (compare_any _ _ _ _ _ _ _ _ _).mono ?_; rintro e w2 ⟨rfl, hx2⟩; have df2 := hx2.1.cell df) | (go_simp; go_at_fn q; refine (tst_any q hq _ _).mono ?_; rintro e w3 ⟨rfl, rfl⟩))
    all_goals
      go_wp2_with fail
      go_ret
      exact ⟨rfl, hx0.trans (hxd.trans hx2.1)⟩
  · have e : (decide (k = c.v.k) && tst q (cmpV ⟨k, n, s, b⟩ c.v)) = false := by rw [decide_eq_false hk]; rfl
    rw [e]
    clear e
    have hd : (k == c.v.k) = false := beq_eq_false_iff_ne.2 hk
    clear hk hN c0 c1 c6
    go_enter Try.func98, Try.ntmps98
    go_upto_region 1 with fail
    generalize w.alloc (.cells #[.int .i64 k, .int .i64 n, .string (strOf s), .bool b] 28) = wa at *
    go_quiet (fail)
    go_wp2_with fail
    go_ret
    exact ⟨rfl, hx0.drewN _⟩

set_option maxRecDepth 100000 in
set_option maxHeartbeats 2000000 in
/-- The prefix's closure. -/
theorem asks106_any (w : World) (B : Nat) (c : C) (sa : Option Addr) (sc : Nat) (hb : CBox w B c sa sc) (k n : Int) (s : List UInt8) (b : Bool) :
    Calls Try.prog 106 #[.agg #[.int .i64 k, .int .i64 n, .string (strOf s), .bool b], .pointer (some ⟨B, 0, none⟩)] w
      fun e w' => e = .returned (.bool (decide (k = 2) && (decide (c.v.k = 2) && Lib.hasPrefix s c.v.s))) ∧ Ext w w' := by
  have hx0 : Ext w (w.alloc (.cells #[.int .i64 k, .int .i64 n, .string (strOf s), .bool b] 28)) := (Ext.refl w).alloc _
  obtain ⟨c0, c1, c2, c3, c4, c5, c6⟩ := (hb.ext hx0).cell
  by_cases hk : k = 2
  · subst hk
    by_cases hk2 : c.v.k = 2
    · rw [hk2] at c2
      have e : (decide ((2 : Int) = 2) && (decide (c.v.k = 2) && Lib.hasPrefix s c.v.s)) = Lib.hasPrefix s c.v.s := by rw [decide_eq_true rfl, decide_eq_true hk2]; rfl
      rw [e]
      clear e hk2
      generalize c.v.s = t at *
      go_enter Try.func106, Try.ntmps106
      go_wp2_with (go_at_call 107; refine (hasp_any _ _ _).mono ?_; rintro e w' ⟨rfl, rfl⟩)
      go_ret
      exact ⟨rfl, hx0⟩
    · have e : (decide ((2 : Int) = 2) && (decide (c.v.k = 2) && Lib.hasPrefix s c.v.s)) = false := by rw [decide_eq_false hk2]; rfl
      rw [e]
      have hd : (c.v.k == 2) = false := beq_eq_false_iff_ne.2 hk2
      clear e hk2
      go_enter Try.func106, Try.ntmps106
      go_wp2_with fail
      go_ret
      exact ⟨rfl, hx0⟩
  · have e : (decide (k = 2) && (decide (c.v.k = 2) && Lib.hasPrefix s c.v.s)) = false := by rw [decide_eq_false hk]; rfl
    rw [e]
    have hd : (k == 2) = false := beq_eq_false_iff_ne.2 hk
    clear e hk
    go_enter Try.func106, Try.ntmps106
    go_wp2_with fail
    go_ret
    exact ⟨rfl, hx0⟩

set_option maxRecDepth 100000 in
set_option maxHeartbeats 2000000 in
/-- One of a set: the inner closure. -/
theorem asks109_any (w : World) (B : Nat) (v : V) (h0 : w.heap[B]? = some (.cells #[.int .i64 v.k, .int .i64 v.n, .string (strOf v.s), .bool v.b] 28 (0, 0))) (x : V) :
    Calls Try.prog 109 #[.agg #[.int .i64 x.k, .int .i64 x.n, .string (strOf x.s), .bool x.b], .pointer (some ⟨B, 0, none⟩)] w
      fun e w' => e = .returned (.bool (decide (cmpV v x = 0))) ∧ Ext w w' := by
  have hx0 : Ext w (w.alloc (.cells #[.int .i64 x.k, .int .i64 x.n, .string (strOf x.s), .bool x.b] 28)) := (Ext.refl w).alloc _
  have c0 := hx0.cell (cell_of_row w B 0 _ _ _ h0)
  have c1 := hx0.cell (cell_of_row w B 1 _ _ _ h0)
  have c2 := hx0.cell (cell_of_row w B 2 _ _ _ h0)
  have c3 := hx0.cell (cell_of_row w B 3 _ _ _ h0)
  have hres := Lib.hid (beq_dec (cmpV v x))
  have hcmp := fun W => compare_any W v.k v.n x.k x.n v.s x.s v.b x.b
  clear h0
  change ∀ W, Calls Try.prog 23 _ W fun e w' => e = .returned (.int .i64 (cmpV v x)) ∧ Grew W w' at hcmp
  generalize cmpV v x = r at *
  go_enter Try.func109, Try.ntmps109
  go_wp2_with (go_at_call 23; refine (hcmp _).mono ?_; rintro e w' ⟨rfl, hx⟩)
  go_ret
  exact ⟨by rw [← hres.out]; rfl, hx0.trans hx.1⟩

set_option maxRecDepth 100000 in
set_option maxHeartbeats 2000000 in
/-- One of a set. -/
theorem asks108_any (w : World) (B : Nat) (c : C) (sa : Option Addr) (sc : Nat) (hb : CBox w B c sa sc) (v : V) :
    Calls Try.prog 108 #[.agg #[.int .i64 v.k, .int .i64 v.n, .string (strOf v.s), .bool v.b], .pointer (some ⟨B, 0, none⟩)] w
      fun e w' => e = .returned (.bool (c.set.any fun x => decide (cmpV v x = 0))) ∧ Ext w w' := by
  have hx0 : Ext w (w.alloc (.cells #[.int .i64 v.k, .int .i64 v.n, .string (strOf v.s), .bool v.b] 28)) := (Ext.refl w).alloc _
  have hN : (w.alloc (.cells #[.int .i64 v.k, .int .i64 v.n, .string (strOf v.s), .bool v.b] 28)).heap[w.heap.size]? = some (.cells #[.int .i64 v.k, .int .i64 v.n, .string (strOf v.s), .bool v.b] 28 (0, 0)) := heap_alloc_new _ _
  obtain ⟨c0, c1, c2, c3, c4, c5, c6⟩ := (hb.ext hx0).cell
  have hs := hb.s.ext hx0
  have hcon := hasV_any _ _ _ hs 109 #[.pointer (some ⟨w.heap.size, 0, none⟩)] (fun x => decide (cmpV v x = 0)) ent109 (fun W x hx _ => asks109_any W w.heap.size v (by rw [hx.block _ (Array.getElem?_eq_some_iff.1 hN).1]; exact hN) x)
  clear hN hb hs c0 c1 c2 c3 c4 c5
  generalize (c.set.any fun x => decide (cmpV v x = 0)) = r at *
  go_enter Try.func108, Try.ntmps108
  go_wp2_with (go_at_call 71; refine hcon.mono ?_; rintro e w' ⟨rfl, hx⟩)
  go_ret
  exact ⟨rfl, hx0.trans hx⟩

/-- What pred.asks gives: a function that tells whether the constraint holds. -/
def AskEnd (w : World) (c : C) (e : Ending) (W : World) : Prop :=
  ∃ (g : Nat) (cb : Array Value), e = .returned (.func (.func g) #[] cb) ∧ (∀ args w, (callFunc g args).run Try.prog w = .ok (.enter g args) w) ∧ Ext w W ∧
    ∀ (W' : World) (v : V), Ext W W' → Calls Try.prog g (#[.agg #[.int .i64 v.k, .int .i64 v.n, .string (strOf v.s), .bool v.b]] ++ cb) W' fun e W2 => e = .returned (.bool (holdsC c v)) ∧ Ext W' W2

theorem holds_tst {c : C} {v : V} {q : Nat} (h : c.op = 2 ∧ q = 100 ∨ c.op = 3 ∧ q = 101 ∨ c.op = 4 ∧ q = 102 ∨ c.op = 5 ∧ q = 103 ∨ c.op = 6 ∧ q = 104 ∨ c.op = 7 ∧ q = 105) : holdsC c v = (decide (v.k = c.v.k) && tst q (cmpV v c.v)) := by
  unfold holdsC tst
  rcases h with ⟨h, rfl⟩ | ⟨h, rfl⟩ | ⟨h, rfl⟩ | ⟨h, rfl⟩ | ⟨h, rfl⟩ | ⟨h, rfl⟩ <;> rw [h] <;> by_cases hk : v.k = c.v.k <;> simp [hk]
theorem holds_pre {c : C} {v : V} (h : c.op = 8) : holdsC c v = (decide (v.k = 2) && (decide (c.v.k = 2) && Lib.hasPrefix v.s c.v.s)) := by
  unfold holdsC Lib.hasPrefix
  rw [h]
  by_cases h1 : v.k = 2
  · by_cases h2 : c.v.k = 2
    · simp [h1, h2]
    · have : ¬ v.k = c.v.k := by omega
      simp [h2]
      intro e; omega
  · by_cases h2 : v.k = c.v.k
    · simp only [if_pos h2]; rw [← h2]; simp [h1]
    · simp [h1, h2]

end Go.Proofs.Ytkefppdacigbmaa
