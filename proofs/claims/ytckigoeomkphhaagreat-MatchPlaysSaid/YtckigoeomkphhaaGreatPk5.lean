/- What a constraint asks of a value: pred.asks, pred.Holds.
What pred.asks gives.
Holds, Get, Matches: the program's.
event.Get.
pred.Matches.
The reference's Holds.
The reference's Matches.
What a value may be; Number, Word, Truth.
MayCons, May: which constraints, which predicates may be.
The rule for a region that draws its order, over any way in which memory may turn (K1's rule, turned). -/
import Derived.Lib.Bytes2
import Derived.Lib.Strings
import Derived.Deep.CutBlock
import Derived.Test.YtckigoeomkphhaaGreatPk4
import Derived.Test.YtckigoeomkphhaaGreatPk3
import Derived.Test.YtckigoeomkphhaaGreatPk1
namespace Go.Proofs.YtckigoeomkphhaaGreat
open Go.RowKit

/-- A constraint's box: its seven cells. -/
structure CBox (W : World) (B : Nat) (c : C) (sa : Option Addr) (sc : Nat) : Prop where
  b : W.heap[B]? = some (.cells #[.string (strOf c.name), .int .i64 c.op, .int .i64 c.v.k, .int .i64 c.v.n, .string (strOf c.v.s), .bool c.v.b, .slice sa c.set.length sc] 52 (0, 0))
  s : SetR W (.slice sa c.set.length sc) c.set
theorem CBox.ext {W W' : World} {B : Nat} {c : C} {sa : Option Addr} {sc : Nat} (h : CBox W B c sa sc) (hx : Ext W W') : CBox W' B c sa sc :=
  ⟨by rw [hx.block B (Array.getElem?_eq_some_iff.1 h.b).1]; exact h.b, h.s.ext hx⟩
theorem CBox.cell {W : World} {B : Nat} {c : C} {sa : Option Addr} {sc : Nat} (h : CBox W B c sa sc) :
    W.cell? ⟨B, 0, none⟩ = some (.string (strOf c.name)) ∧ W.cell? ⟨B, 1, none⟩ = some (.int .i64 c.op) ∧ W.cell? ⟨B, 2, none⟩ = some (.int .i64 c.v.k) ∧ W.cell? ⟨B, 3, none⟩ = some (.int .i64 c.v.n) ∧ W.cell? ⟨B, 4, none⟩ = some (.string (strOf c.v.s)) ∧ W.cell? ⟨B, 5, none⟩ = some (.bool c.v.b) ∧ W.cell? ⟨B, 6, none⟩ = some (.slice sa c.set.length sc) :=
  ⟨cell_of_row W B 0 _ _ _ h.b, cell_of_row W B 1 _ _ _ h.b, cell_of_row W B 2 _ _ _ h.b, cell_of_row W B 3 _ _ _ h.b, cell_of_row W B 4 _ _ _ h.b, cell_of_row W B 5 _ _ _ h.b, cell_of_row W B 6 _ _ _ h.b⟩

theorem hasp_any (a b : List UInt8) (w : World) : Calls Tryz.prog 94 #[.string (strOf a), .string (strOf b)] w fun e w' => e = .returned (.bool (Lib.hasPrefix a b)) ∧ w = w' :=
  (Tryz.strings_HasPrefix (strOf a) (strOf b) w).mono fun _ _ ⟨he, hw⟩ => ⟨he, hw.symm⟩

theorem ent98 : ∀ args w, (callFunc 85 args).run Tryz.prog w = .ok (.enter 85 args) w := enters_of Tryz.func85 (by kernel_rfl) rfl
theorem ent99 : ∀ args w, (callFunc 86 args).run Tryz.prog w = .ok (.enter 86 args) w := enters_of Tryz.func86 (by kernel_rfl) rfl
theorem ent106 : ∀ args w, (callFunc 93 args).run Tryz.prog w = .ok (.enter 93 args) w := enters_of Tryz.func93 (by kernel_rfl) rfl
theorem ent108 : ∀ args w, (callFunc 95 args).run Tryz.prog w = .ok (.enter 95 args) w := enters_of Tryz.func95 (by kernel_rfl) rfl
theorem ent109 : ∀ args w, (callFunc 96 args).run Tryz.prog w = .ok (.enter 96 args) w := enters_of Tryz.func96 (by kernel_rfl) rfl
theorem ent110 : ∀ args w, (callFunc 97 args).run Tryz.prog w = .ok (.enter 97 args) w := enters_of Tryz.func97 (by kernel_rfl) rfl

/-- A test of a comparison. -/
def tst (q : Nat) (n : Int) : Bool := if q = 87 then decide (n = 0) else if q = 88 then !decide (n = 0) else if q = 89 then decide (n < 0) else if q = 90 then decide (n ≤ 0) else if q = 91 then decide (0 < n) else decide (0 ≤ n)
theorem beq_dec (n : Int) : (n == 0) = decide (n = 0) := by by_cases h : n = 0 <;> simp [h]
theorem tst_any (q : Nat) (hq : q = 87 ∨ q = 88 ∨ q = 89 ∨ q = 90 ∨ q = 91 ∨ q = 92) (n : Int) (w : World) : Calls Tryz.prog q #[.int .i64 n] w fun e w' => e = .returned (.bool (tst q n)) ∧ w = w' := by
  rcases hq with rfl | rfl | rfl | rfl | rfl | rfl
  · go_enter Tryz.func87, Tryz.ntmps87
    go_wp2
    go_ret
    exact ⟨by show _ = Ending.returned (.bool (decide (n = 0))); rw [← beq_dec]; rfl, rfl⟩
  · go_enter Tryz.func88, Tryz.ntmps88
    go_wp2
    go_ret
    exact ⟨by show _ = Ending.returned (.bool (!decide (n = 0))); rw [← beq_dec]; rfl, rfl⟩
  · go_enter Tryz.func89, Tryz.ntmps89
    go_wp2
    go_ret
    exact ⟨rfl, rfl⟩
  · go_enter Tryz.func90, Tryz.ntmps90
    go_wp2
    go_ret
    exact ⟨rfl, rfl⟩
  · go_enter Tryz.func91, Tryz.ntmps91
    go_wp2
    go_ret
    exact ⟨rfl, rfl⟩
  · go_enter Tryz.func92, Tryz.ntmps92
    go_wp2
    go_ret
    exact ⟨rfl, rfl⟩
theorem ent_tst (q : Nat) (hq : q = 87 ∨ q = 88 ∨ q = 89 ∨ q = 90 ∨ q = 91 ∨ q = 92) : ∀ args w, (callFunc q args).run Tryz.prog w = .ok (.enter q args) w := by
  rcases hq with rfl | rfl | rfl | rfl | rfl | rfl
  · exact enters_of Tryz.func87 (by kernel_rfl) rfl
  · exact enters_of Tryz.func88 (by kernel_rfl) rfl
  · exact enters_of Tryz.func89 (by kernel_rfl) rfl
  · exact enters_of Tryz.func90 (by kernel_rfl) rfl
  · exact enters_of Tryz.func91 (by kernel_rfl) rfl
  · exact enters_of Tryz.func92 (by kernel_rfl) rfl

set_option maxRecDepth 100000 in
set_option maxHeartbeats 2000000 in
/-- The comparing closure. -/
theorem asks98_any (w : World) (B F q : Nat) (c : C) (sa : Option Addr) (sc : Nat) (hb : CBox w B c sa sc) (hf : w.cell? ⟨F, 0, none⟩ = some (.func (.func q) #[] #[])) (hq : q = 87 ∨ q = 88 ∨ q = 89 ∨ q = 90 ∨ q = 91 ∨ q = 92) (k n : Int) (s : List UInt8) (b : Bool) :
    Calls Tryz.prog 85 #[.agg #[.int .i64 k, .int .i64 n, .string (strOf s), .bool b], .pointer (some ⟨B, 0, none⟩), .pointer (some ⟨F, 0, none⟩)] w
      fun e w' => e = .returned (.bool (decide (k = c.v.k) && tst q (cmpV ⟨k, n, s, b⟩ c.v))) ∧ Ext w w' := by
  have hx0 : Ext w (w.alloc (.cells #[.int .i64 k, .int .i64 n, .string (strOf s), .bool b] 49)) := (Ext.refl w).alloc _
  have hN : (w.alloc (.cells #[.int .i64 k, .int .i64 n, .string (strOf s), .bool b] 49)).heap[w.heap.size]? = some (.cells #[.int .i64 k, .int .i64 n, .string (strOf s), .bool b] 49 (0, 0)) := heap_alloc_new _ _
  have n0 := cell_of_row _ _ 0 _ _ _ hN
  have n1 := cell_of_row _ _ 1 _ _ _ hN
  have n2 := cell_of_row _ _ 2 _ _ _ hN
  have n3 := cell_of_row _ _ 3 _ _ _ hN
  obtain ⟨c0, c1, c2, c3, c4, c5, c6⟩ := (hb.ext hx0).cell
  have hf0 := hx0.cell hf
  have eq_ := ent_tst q hq
  by_cases hk : k = c.v.k
  · have e : (decide (k = c.v.k) && tst q (cmpV ⟨k, n, s, b⟩ c.v)) = tst q (cmpV ⟨k, n, s, b⟩ ⟨c.v.k, c.v.n, c.v.s, c.v.b⟩) := by rw [decide_eq_true hk]; rfl
    rw [e]
    clear e
    have hd : (k == c.v.k) = true := beq_iff_eq.2 hk
    clear hk hN c0 c1 c6
    go_enter Tryz.func85, Tryz.ntmps85
    go_upto_region 1 with fail
    generalize w.alloc (.cells #[.int .i64 k, .int .i64 n, .string (strOf s), .bool b] 49) = wa at *
    have hxd : Ext wa wa.drew := (Ext.refl wa).drew
    have m0 := hxd.cell n0
    have m1 := hxd.cell n1
    have m2 := hxd.cell n2
    have m3 := hxd.cell n3
    have d2 := hxd.cell c2
    have d3 := hxd.cell c3
    have d4 := hxd.cell c4
    have d5 := hxd.cell c5
    have df := hxd.cell hf0
    go_region_law (first | (go_simp; go_at_call 51; refine (compare_any _ _ _ _ _ _ _ _ _).mono ?_; rintro e w2 ⟨rfl, hx2⟩; have df2 := hx2.1.cell df) | (go_simp; go_at_fn q; refine (tst_any q hq _ _).mono ?_; rintro e w3 ⟨rfl, rfl⟩))
    all_goals
      go_wp2_with fail
      go_ret
      exact ⟨rfl, hx0.trans (hxd.trans hx2.1)⟩
  · have e : (decide (k = c.v.k) && tst q (cmpV ⟨k, n, s, b⟩ c.v)) = false := by rw [decide_eq_false hk]; rfl
    rw [e]
    clear e
    have hd : (k == c.v.k) = false := beq_eq_false_iff_ne.2 hk
    clear hk hN c0 c1 c6
    go_enter Tryz.func85, Tryz.ntmps85
    go_upto_region 1 with fail
    generalize w.alloc (.cells #[.int .i64 k, .int .i64 n, .string (strOf s), .bool b] 49) = wa at *
    go_quiet (fail)
    go_wp2_with fail
    go_ret
    exact ⟨rfl, hx0.drewN _⟩

set_option maxRecDepth 100000 in
set_option maxHeartbeats 2000000 in
/-- The prefix's closure. -/
theorem asks106_any (w : World) (B : Nat) (c : C) (sa : Option Addr) (sc : Nat) (hb : CBox w B c sa sc) (k n : Int) (s : List UInt8) (b : Bool) :
    Calls Tryz.prog 93 #[.agg #[.int .i64 k, .int .i64 n, .string (strOf s), .bool b], .pointer (some ⟨B, 0, none⟩)] w
      fun e w' => e = .returned (.bool (decide (k = 2) && (decide (c.v.k = 2) && Lib.hasPrefix s c.v.s))) ∧ Ext w w' := by
  have hx0 : Ext w (w.alloc (.cells #[.int .i64 k, .int .i64 n, .string (strOf s), .bool b] 49)) := (Ext.refl w).alloc _
  obtain ⟨c0, c1, c2, c3, c4, c5, c6⟩ := (hb.ext hx0).cell
  by_cases hk : k = 2
  · subst hk
    by_cases hk2 : c.v.k = 2
    · rw [hk2] at c2
      have e : (decide ((2 : Int) = 2) && (decide (c.v.k = 2) && Lib.hasPrefix s c.v.s)) = Lib.hasPrefix s c.v.s := by rw [decide_eq_true rfl, decide_eq_true hk2]; rfl
      rw [e]
      clear e hk2
      generalize c.v.s = t at *
      go_enter Tryz.func93, Tryz.ntmps93
      go_wp2_with (go_at_call 94; refine (hasp_any _ _ _).mono ?_; rintro e w' ⟨rfl, rfl⟩)
      go_ret
      exact ⟨rfl, hx0⟩
    · have e : (decide ((2 : Int) = 2) && (decide (c.v.k = 2) && Lib.hasPrefix s c.v.s)) = false := by rw [decide_eq_false hk2]; rfl
      rw [e]
      have hd : (c.v.k == 2) = false := beq_eq_false_iff_ne.2 hk2
      clear e hk2
      go_enter Tryz.func93, Tryz.ntmps93
      go_wp2_with fail
      go_ret
      exact ⟨rfl, hx0⟩
  · have e : (decide (k = 2) && (decide (c.v.k = 2) && Lib.hasPrefix s c.v.s)) = false := by rw [decide_eq_false hk]; rfl
    rw [e]
    have hd : (k == 2) = false := beq_eq_false_iff_ne.2 hk
    clear e hk
    go_enter Tryz.func93, Tryz.ntmps93
    go_wp2_with fail
    go_ret
    exact ⟨rfl, hx0⟩

set_option maxRecDepth 100000 in
set_option maxHeartbeats 2000000 in
/-- One of a set: the inner closure. -/
theorem asks109_any (w : World) (B : Nat) (v : V) (h0 : w.heap[B]? = some (.cells #[.int .i64 v.k, .int .i64 v.n, .string (strOf v.s), .bool v.b] 49 (0, 0))) (x : V) :
    Calls Tryz.prog 96 #[.agg #[.int .i64 x.k, .int .i64 x.n, .string (strOf x.s), .bool x.b], .pointer (some ⟨B, 0, none⟩)] w
      fun e w' => e = .returned (.bool (decide (cmpV v x = 0))) ∧ Ext w w' := by
  have hx0 : Ext w (w.alloc (.cells #[.int .i64 x.k, .int .i64 x.n, .string (strOf x.s), .bool x.b] 49)) := (Ext.refl w).alloc _
  have c0 := hx0.cell (cell_of_row w B 0 _ _ _ h0)
  have c1 := hx0.cell (cell_of_row w B 1 _ _ _ h0)
  have c2 := hx0.cell (cell_of_row w B 2 _ _ _ h0)
  have c3 := hx0.cell (cell_of_row w B 3 _ _ _ h0)
  have hres := Lib.hid (beq_dec (cmpV v x))
  have hcmp := fun W => compare_any W v.k v.n x.k x.n v.s x.s v.b x.b
  clear h0
  change ∀ W, Calls Tryz.prog 51 _ W fun e w' => e = .returned (.int .i64 (cmpV v x)) ∧ Grew W w' at hcmp
  generalize cmpV v x = r at *
  go_enter Tryz.func96, Tryz.ntmps96
  go_wp2_with (go_at_call 51; refine (hcmp _).mono ?_; rintro e w' ⟨rfl, hx⟩)
  go_ret
  exact ⟨by rw [← hres.out]; rfl, hx0.trans hx.1⟩

set_option maxRecDepth 100000 in
set_option maxHeartbeats 2000000 in
/-- One of a set. -/
theorem asks108_any (w : World) (B : Nat) (c : C) (sa : Option Addr) (sc : Nat) (hb : CBox w B c sa sc) (v : V) :
    Calls Tryz.prog 95 #[.agg #[.int .i64 v.k, .int .i64 v.n, .string (strOf v.s), .bool v.b], .pointer (some ⟨B, 0, none⟩)] w
      fun e w' => e = .returned (.bool (c.set.any fun x => decide (cmpV v x = 0))) ∧ Ext w w' := by
  have hx0 : Ext w (w.alloc (.cells #[.int .i64 v.k, .int .i64 v.n, .string (strOf v.s), .bool v.b] 49)) := (Ext.refl w).alloc _
  have hN : (w.alloc (.cells #[.int .i64 v.k, .int .i64 v.n, .string (strOf v.s), .bool v.b] 49)).heap[w.heap.size]? = some (.cells #[.int .i64 v.k, .int .i64 v.n, .string (strOf v.s), .bool v.b] 49 (0, 0)) := heap_alloc_new _ _
  obtain ⟨c0, c1, c2, c3, c4, c5, c6⟩ := (hb.ext hx0).cell
  have hs := hb.s.ext hx0
  have hcon := hasV_any _ _ _ hs 96 #[.pointer (some ⟨w.heap.size, 0, none⟩)] (fun x => decide (cmpV v x = 0)) ent109 (fun W x hx _ => asks109_any W w.heap.size v (by rw [hx.block _ (Array.getElem?_eq_some_iff.1 hN).1]; exact hN) x)
  clear hN hb hs c0 c1 c2 c3 c4 c5
  generalize (c.set.any fun x => decide (cmpV v x = 0)) = r at *
  go_enter Tryz.func95, Tryz.ntmps95
  go_wp2_with (go_at_call 68; refine hcon.mono ?_; rintro e w' ⟨rfl, hx⟩)
  go_ret
  exact ⟨rfl, hx0.trans hx⟩

/-- What pred.asks gives: a function that tells whether the constraint holds. -/
def AskEnd (w : World) (c : C) (e : Ending) (W : World) : Prop :=
  ∃ (g : Nat) (cb : Array Value), e = .returned (.func (.func g) #[] cb) ∧ (∀ args w, (callFunc g args).run Tryz.prog w = .ok (.enter g args) w) ∧ Ext w W ∧
    ∀ (W' : World) (v : V), Ext W W' → Calls Tryz.prog g (#[.agg #[.int .i64 v.k, .int .i64 v.n, .string (strOf v.s), .bool v.b]] ++ cb) W' fun e W2 => e = .returned (.bool (holdsC c v)) ∧ Ext W' W2

theorem holds_tst {c : C} {v : V} {q : Nat} (h : c.op = 2 ∧ q = 87 ∨ c.op = 3 ∧ q = 88 ∨ c.op = 4 ∧ q = 89 ∨ c.op = 5 ∧ q = 90 ∨ c.op = 6 ∧ q = 91 ∨ c.op = 7 ∧ q = 92) : holdsC c v = (decide (v.k = c.v.k) && tst q (cmpV v c.v)) := by
  unfold holdsC tst
  rcases h with ⟨h, rfl⟩ | ⟨h, rfl⟩ | ⟨h, rfl⟩ | ⟨h, rfl⟩ | ⟨h, rfl⟩ | ⟨h, rfl⟩ <;> rw [h] <;> by_cases hk : v.k = c.v.k <;> simp [hk]
theorem holds_pre {c : C} {v : V} (h : c.op = 8) : holdsC c v = (decide (v.k = 2) && (decide (c.v.k = 2) && Lib.hasPrefix v.s c.v.s)) := by
  unfold holdsC Lib.hasPrefix
  rw [h]
  by_cases h1 : v.k = 2
  · by_cases h2 : c.v.k = 2
    · simp [h1, h2]
    · have : ¬ v.k = c.v.k := by omega
      simp [h2]
      intro e; omega
  · by_cases h2 : v.k = c.v.k
    · simp only [if_pos h2]; rw [← h2]; simp [h1]
    · simp [h1, h2]

end Go.Proofs.YtckigoeomkphhaaGreat

namespace Go.Proofs.YtckigoeomkphhaaGreat
open Go.RowKit

set_option maxRecDepth 100000 in
set_option maxHeartbeats 4000000 in
theorem asks_any (w : World) (c : C) (sa : Option Addr) (sc : Nat) (hs : SetR w (.slice sa c.set.length sc) c.set) :
    Calls Tryz.prog 56 #[.agg #[.string (strOf c.name), .int .i64 c.op, .int .i64 c.v.k, .int .i64 c.v.n, .string (strOf c.v.s), .bool c.v.b, .slice sa c.set.length sc]] w (AskEnd w c) := by
  have hx0 : Ext w (w.alloc (.cells #[.string (strOf c.name), .int .i64 c.op, .int .i64 c.v.k, .int .i64 c.v.n, .string (strOf c.v.s), .bool c.v.b, .slice sa c.set.length sc] 52)) := (Ext.refl w).alloc _
  have hB : CBox (w.alloc (.cells #[.string (strOf c.name), .int .i64 c.op, .int .i64 c.v.k, .int .i64 c.v.n, .string (strOf c.v.s), .bool c.v.b, .slice sa c.set.length sc] 52)) w.heap.size c sa sc := ⟨heap_alloc_new _ _, hs.ext hx0⟩
  obtain ⟨c0, c1, c2, c3, c4, c5, c6⟩ := hB.cell
  clear c0 c2 c3 c4 c5 c6
  -- the comparing ones
  have hcmp : ∀ q, (q = 87 ∨ q = 88 ∨ q = 89 ∨ q = 90 ∨ q = 91 ∨ q = 92) → (∀ v, holdsC c v = (decide (v.k = c.v.k) && tst q (cmpV v c.v))) → ∀ (W : World) (F : Nat), Ext w W → CBox W w.heap.size c sa sc → W.cell? ⟨F, 0, none⟩ = some (.func (.func q) #[] #[]) → AskEnd w c (.returned (.func (.func 85) #[] #[.pointer (some ⟨w.heap.size, 0, none⟩), .pointer (some ⟨F, 0, none⟩)])) W := fun q hq hh W F hx hb hf =>
    ⟨85, _, rfl, ent98, hx, fun W' v hx' => by rw [hh v]; exact asks98_any W' w.heap.size F q c sa sc (hb.ext hx') (hx'.cell hf) hq v.k v.n v.s v.b⟩
  have HCMP := Lib.hid hcmp
  clear hcmp
  have hB0 := hB
  have hnew : ∀ q, Ext w ((w.alloc (.cells #[.string (strOf c.name), .int .i64 c.op, .int .i64 c.v.k, .int .i64 c.v.n, .string (strOf c.v.s), .bool c.v.b, .slice sa c.set.length sc] 52)).alloc (.cells #[.func (.func q) #[] #[]] 85)) ∧ CBox ((w.alloc (.cells #[.string (strOf c.name), .int .i64 c.op, .int .i64 c.v.k, .int .i64 c.v.n, .string (strOf c.v.s), .bool c.v.b, .slice sa c.set.length sc] 52)).alloc (.cells #[.func (.func q) #[] #[]] 85)) w.heap.size c sa sc ∧ ((w.alloc (.cells #[.string (strOf c.name), .int .i64 c.op, .int .i64 c.v.k, .int .i64 c.v.n, .string (strOf c.v.s), .bool c.v.b, .slice sa c.set.length sc] 52)).alloc (.cells #[.func (.func q) #[] #[]] 85)).cell? ⟨w.heap.size + 1, 0, none⟩ = some (.func (.func q) #[] #[]) := fun q =>
    ⟨hx0.alloc _, hB.ext ((Ext.refl _).alloc _), by have h := cell_of_row (_ : World) (_ : Nat) 0 _ _ _ (heap_alloc_new (w.alloc (.cells #[.string (strOf c.name), .int .i64 c.op, .int .i64 c.v.k, .int .i64 c.v.n, .string (strOf c.v.s), .bool c.v.b, .slice sa c.set.length sc] 52)) (.cells #[.func (.func q) #[] #[]] 85)); rw [World.size_alloc] at h; exact h⟩
  have HNEW := Lib.hid hnew
  clear hnew
  by_cases h1 : c.op = 1
  · have hh : ∀ v, holdsC c v = true := fun v => by unfold holdsC; rw [if_pos h1]
    have d1 : (c.op == 1) = true := beq_iff_eq.2 h1
    have HH := Lib.hid hh
    clear h1 hh
    go_enter Tryz.func56, Tryz.ntmps56
    go_wp2_with go_in
    go_ret
    refine ⟨86, #[], rfl, ent99, hx0, fun W' v _ => ?_⟩
    rw [HH.out v]
    clear HH HNEW HCMP hB hB0 c1 hs hx0
    go_enter Tryz.func86, Tryz.ntmps86
    go_wp2
    go_ret
    exact ⟨rfl, (Ext.refl _).alloc _⟩
  have d1 := beq_int_ne h1
  by_cases h2 : c.op = 2
  · have d2 : (c.op == 2) = true := beq_iff_eq.2 h2
    have HF := Lib.hid (HCMP.out 87 (by decide) (fun v => holds_tst (by simp [h2])) _ _ (HNEW.out 87).1 (HNEW.out 87).2.1 (HNEW.out 87).2.2)
    clear h2 
    go_enter Tryz.func56, Tryz.ntmps56
    go_wp2_with go_in
    go_ret
    exact HF.out
  have d2 := beq_int_ne h2
  by_cases h3 : c.op = 3
  · have d3 : (c.op == 3) = true := beq_iff_eq.2 h3
    have HF := Lib.hid (HCMP.out 88 (by decide) (fun v => holds_tst (by simp [h3])) _ _ (HNEW.out 88).1 (HNEW.out 88).2.1 (HNEW.out 88).2.2)
    clear h3 
    go_enter Tryz.func56, Tryz.ntmps56
    go_wp2_with go_in
    go_ret
    exact HF.out
  have d3 := beq_int_ne h3
  by_cases h4 : c.op = 4
  · have d4 : (c.op == 4) = true := beq_iff_eq.2 h4
    have HF := Lib.hid (HCMP.out 89 (by decide) (fun v => holds_tst (by simp [h4])) _ _ (HNEW.out 89).1 (HNEW.out 89).2.1 (HNEW.out 89).2.2)
    clear h4 
    go_enter Tryz.func56, Tryz.ntmps56
    go_wp2_with go_in
    go_ret
    exact HF.out
  have d4 := beq_int_ne h4
  by_cases h5 : c.op = 5
  · have d5 : (c.op == 5) = true := beq_iff_eq.2 h5
    have HF := Lib.hid (HCMP.out 90 (by decide) (fun v => holds_tst (by simp [h5])) _ _ (HNEW.out 90).1 (HNEW.out 90).2.1 (HNEW.out 90).2.2)
    clear h5 
    go_enter Tryz.func56, Tryz.ntmps56
    go_wp2_with go_in
    go_ret
    exact HF.out
  have d5 := beq_int_ne h5
  by_cases h6 : c.op = 6
  · have d6 : (c.op == 6) = true := beq_iff_eq.2 h6
    have HF := Lib.hid (HCMP.out 91 (by decide) (fun v => holds_tst (by simp [h6])) _ _ (HNEW.out 91).1 (HNEW.out 91).2.1 (HNEW.out 91).2.2)
    clear h6 
    go_enter Tryz.func56, Tryz.ntmps56
    go_wp2_with go_in
    go_ret
    exact HF.out
  have d6 := beq_int_ne h6
  by_cases h7 : c.op = 7
  · have d7 : (c.op == 7) = true := beq_iff_eq.2 h7
    have HF := Lib.hid (HCMP.out 92 (by decide) (fun v => holds_tst (by simp [h7])) _ _ (HNEW.out 92).1 (HNEW.out 92).2.1 (HNEW.out 92).2.2)
    clear h7 
    go_enter Tryz.func56, Tryz.ntmps56
    go_wp2_with go_in
    go_ret
    exact HF.out
  have d7 := beq_int_ne h7
  by_cases h8 : c.op = 8
  · have hh : ∀ v, holdsC c v = _ := fun v => holds_pre h8
    have d8 : (c.op == 8) = true := beq_iff_eq.2 h8
    have HH := Lib.hid hh
    clear h8 hh
    go_enter Tryz.func56, Tryz.ntmps56
    go_wp2_with go_in
    go_ret
    exact ⟨93, _, rfl, ent106, hx0, fun W' v hx' => by rw [HH.out v]; exact asks106_any W' w.heap.size c sa sc (hB0.ext hx') v.k v.n v.s v.b⟩
  have d8 := beq_int_ne h8
  by_cases h9 : c.op = 9
  · have hh : ∀ v, holdsC c v = c.set.any fun x => decide (cmpV v x = 0) := fun v => by unfold holdsC; rw [if_neg h1, if_pos h9]
    have d9 : (c.op == 9) = true := beq_iff_eq.2 h9
    have HH := Lib.hid hh
    clear h9 hh
    go_enter Tryz.func56, Tryz.ntmps56
    go_wp2_with go_in
    go_ret
    exact ⟨95, _, rfl, ent108, hx0, fun W' v hx' => by rw [HH.out v]; exact asks108_any W' w.heap.size c sa sc (hB0.ext hx') v⟩
  have d9 := beq_int_ne h9
  have hh : ∀ v, holdsC c v = false := fun v => by
    unfold holdsC
    rw [if_neg h1, if_neg h9]
    by_cases hk : v.k = c.v.k
    · rw [if_pos hk, if_neg h2, if_neg h3, if_neg h4, if_neg h5, if_neg h6, if_neg h7, if_neg h8]
    · rw [if_neg hk]
  have HH := Lib.hid hh
  clear h1 h2 h3 h4 h5 h6 h7 h8 h9 hh
  go_enter Tryz.func56, Tryz.ntmps56
  go_wp2_with go_in
  go_ret
  refine ⟨97, #[], rfl, ent110, hx0, fun W' v _ => ?_⟩
  rw [HH.out v]
  clear HH HNEW HCMP hB hB0 c1 hs hx0 d1 d2 d3 d4 d5 d6 d7 d8 d9
  go_enter Tryz.func97, Tryz.ntmps97
  go_wp2
  go_ret
  exact ⟨rfl, (Ext.refl _).alloc _⟩

end Go.Proofs.YtckigoeomkphhaaGreat

namespace Go.Proofs.YtckigoeomkphhaaGreat
open Go.RowKit

set_option maxRecDepth 100000 in
set_option maxHeartbeats 4000000 in
theorem pholds_any (w : World) (c : C) (sa : Option Addr) (sc : Nat) (hs : SetR w (.slice sa c.set.length sc) c.set) (v : V) :
    Calls Tryz.prog 33 #[.agg #[.string (strOf c.name), .int .i64 c.op, .int .i64 c.v.k, .int .i64 c.v.n, .string (strOf c.v.s), .bool c.v.b, .slice sa c.set.length sc], .agg #[.int .i64 v.k, .int .i64 v.n, .string (strOf v.s), .bool v.b]] w
      fun e w' => e = .returned (.bool (holdsC c v)) ∧ Ext w w' := by
  have hx0 : Ext w ((w.alloc (.cells #[.string (strOf c.name), .int .i64 c.op, .int .i64 c.v.k, .int .i64 c.v.n, .string (strOf c.v.s), .bool c.v.b, .slice sa c.set.length sc] 52)).alloc (.cells #[.int .i64 v.k, .int .i64 v.n, .string (strOf v.s), .bool v.b] 49)) := ((Ext.refl w).alloc _).alloc _
  have hN : ((w.alloc (.cells #[.string (strOf c.name), .int .i64 c.op, .int .i64 c.v.k, .int .i64 c.v.n, .string (strOf c.v.s), .bool c.v.b, .slice sa c.set.length sc] 52)).alloc (.cells #[.int .i64 v.k, .int .i64 v.n, .string (strOf v.s), .bool v.b] 49)).heap[w.heap.size + 1]? = some (.cells #[.int .i64 v.k, .int .i64 v.n, .string (strOf v.s), .bool v.b] 49 (0, 0)) := by
    have h := heap_alloc_new (w.alloc (.cells #[.string (strOf c.name), .int .i64 c.op, .int .i64 c.v.k, .int .i64 c.v.n, .string (strOf c.v.s), .bool c.v.b, .slice sa c.set.length sc] 52)) (.cells #[.int .i64 v.k, .int .i64 v.n, .string (strOf v.s), .bool v.b] 49)
    rw [World.size_alloc] at h; exact h
  have hB : CBox ((w.alloc (.cells #[.string (strOf c.name), .int .i64 c.op, .int .i64 c.v.k, .int .i64 c.v.n, .string (strOf c.v.s), .bool c.v.b, .slice sa c.set.length sc] 52)).alloc (.cells #[.int .i64 v.k, .int .i64 v.n, .string (strOf v.s), .bool v.b] 49)) w.heap.size c sa sc :=
    (CBox.mk (heap_alloc_new _ _) (hs.ext ((Ext.refl w).alloc _))).ext ((Ext.refl _).alloc _)
  go_enter Tryz.func33, Tryz.ntmps33
  go_upto_region 1 with fail
  generalize (w.alloc (.cells #[.string (strOf c.name), .int .i64 c.op, .int .i64 c.v.k, .int .i64 c.v.n, .string (strOf c.v.s), .bool c.v.b, .slice sa c.set.length sc] 52)).alloc (.cells #[.int .i64 v.k, .int .i64 v.n, .string (strOf v.s), .bool v.b] 49) = wa at *
  have hxd : Ext wa wa.drew := (Ext.refl wa).drew
  obtain ⟨c0, c1, c2, c3, c4, c5, c6⟩ := (hB.ext hxd).cell
  have hsd := hB.s.ext hxd
  have n0 := hxd.cell (cell_of_row _ _ 0 _ _ _ hN)
  have n1 := hxd.cell (cell_of_row _ _ 1 _ _ _ hN)
  have n2 := hxd.cell (cell_of_row _ _ 2 _ _ _ hN)
  have n3 := hxd.cell (cell_of_row _ _ 3 _ _ _ hN)
  clear hN hB
  go_region_law (first | (go_simp; go_at_call 56; refine (asks_any _ c sa sc hsd).mono ?_; rintro e w2 ⟨g, cb, rfl, eg, hx2, hcl⟩; have m0 := hx2.cell n0; have m1 := hx2.cell n1; have m2 := hx2.cell n2; have m3 := hx2.cell n3) | (go_simp; go_at_fn g; refine (hcl _ v (Ext.refl _)).mono ?_; rintro e w3 ⟨rfl, hx3⟩))
  all_goals
    go_wp2_with fail
    go_ret
    exact ⟨rfl, hx0.trans (hxd.trans (hx2.trans hx3))⟩

theorem ent113 : ∀ args w, (callFunc 72 args).run Tryz.prog w = .ok (.enter 72 args) w := enters_of Tryz.func72 (by kernel_rfl) rfl
theorem ent56 : ∀ args w, (callFunc 47 args).run Tryz.prog w = .ok (.enter 47 args) w := enters_of Tryz.func47 (by kernel_rfl) rfl

/-- What event.Get answers. -/
def getV (l : List (List UInt8 × V)) (name : List UInt8) : V × Bool := match getE l name with | some v => (v, true) | none => (⟨0, 0, [], false⟩, false)

set_option maxRecDepth 100000 in
set_option maxHeartbeats 2000000 in
theorem get113_any (w : World) (B : Nat) (name : List UInt8) (h0 : w.cell? ⟨B, 0, none⟩ = some (.string (strOf name))) (x : List UInt8 × V) :
    Calls Tryz.prog 72 #[.agg #[.string (strOf x.1), .int .i64 x.2.k, .int .i64 x.2.n, .string (strOf x.2.s), .bool x.2.b], .pointer (some ⟨B, 0, none⟩)] w
      fun e w' => e = .returned (.bool (decide (x.1 = name))) ∧ Ext w w' := by
  have hx0 : Ext w (w.alloc (.cells #[.string (strOf x.1), .int .i64 x.2.k, .int .i64 x.2.n, .string (strOf x.2.s), .bool x.2.b] 66)) := (Ext.refl w).alloc _
  have c0 := hx0.cell h0
  by_cases h : x.1 = name
  · have hd : (x.1 == name) = true := beq_iff_eq.2 h
    rw [decide_eq_true h]
    clear h h0
    go_enter Tryz.func72, Tryz.ntmps72
    go_wp2
    go_ret
    exact ⟨rfl, hx0⟩
  · have hd : (x.1 == name) = false := beq_eq_false_iff_ne.2 h
    have hne : ¬ strOf x.1 = strOf name := fun e => h (strOf_inj.1 e)
    rw [decide_eq_false h]
    clear h h0
    go_enter Tryz.func72, Tryz.ntmps72
    go_wp2
    go_ret
    exact ⟨rfl, hx0⟩

end Go.Proofs.YtckigoeomkphhaaGreat

namespace Go.Proofs.YtckigoeomkphhaaGreat
open Go.RowKit

theorem info49s : (Tryz.prog.info? 49).map (·.size) = some 4 := by kernel_rfl

set_option maxRecDepth 100000 in
set_option maxHeartbeats 4000000 in
theorem get_any (w : World) (key name : List UInt8) (va : Value) (l : List (List UInt8 × V)) (h : AttrR w va l) :
    Calls Tryz.prog 48 #[.agg #[.string (strOf key), va], .string (strOf name)] w
      fun e w' => e = .returned (.tuple #[.agg #[.int .i64 (getV l name).1.k, .int .i64 (getV l name).1.n, .string (strOf (getV l name).1.s), .bool (getV l name).1.b], .bool (getV l name).2]) ∧ Ext w w' := by
  obtain ⟨aa, ca, rfl, hca, hma⟩ := Row.shape h
  unfold maxLen at hma
  have hx0 : Ext w (((w.alloc (.cells #[.string (strOf key), .slice aa l.length ca] 34)).alloc (.cells #[.string (strOf name)] 9)).alloc (.cells #[.int .i64 0, .int .i64 0, .string ⟨#[]⟩, .bool false] 49)) := (((Ext.refl w).alloc _).alloc _).alloc _
  have h1 : (((w.alloc (.cells #[.string (strOf key), .slice aa l.length ca] 34)).alloc (.cells #[.string (strOf name)] 9)).alloc (.cells #[.int .i64 0, .int .i64 0, .string ⟨#[]⟩, .bool false] 49)).cell? ⟨w.heap.size + 1, 0, none⟩ = some (.string (strOf name)) := by
    refine ((Ext.refl _).alloc _).cell ?_
    have h := cell_of_row _ _ 0 _ _ _ (heap_alloc_new (w.alloc (.cells #[.string (strOf key), .slice aa l.length ca] 34)) (.cells #[.string (strOf name)] 9))
    rw [World.size_alloc] at h
    exact h
  have h2 : (((w.alloc (.cells #[.string (strOf key), .slice aa l.length ca] 34)).alloc (.cells #[.string (strOf name)] 9)).alloc (.cells #[.int .i64 0, .int .i64 0, .string ⟨#[]⟩, .bool false] 49)).heap[w.heap.size + 1 + 1]? = some (.cells #[.int .i64 0, .int .i64 0, .string ⟨#[]⟩, .bool false] 49 (0, 0)) := by
    have := heap_alloc_new ((w.alloc (.cells #[.string (strOf key), .slice aa l.length ca] 34)).alloc (.cells #[.string (strOf name)] 9)) (.cells #[.int .i64 0, .int .i64 0, .string ⟨#[]⟩, .bool false] 49)
    rw [World.size_alloc, World.size_alloc] at this
    exact this
  have h3 : (((w.alloc (.cells #[.string (strOf key), .slice aa l.length ca] 34)).alloc (.cells #[.string (strOf name)] 9)).alloc (.cells #[.int .i64 0, .int .i64 0, .string ⟨#[]⟩, .bool false] 49)).cell? ⟨w.heap.size, 1, none⟩ = some (.slice aa l.length ca) := by
    exact (((Ext.refl _).alloc _).alloc _).cell (cell_of_row _ _ 1 _ _ _ (heap_alloc_new w (.cells #[.string (strOf key), .slice aa l.length ca] 34)))
  generalize hG : getV l name = G at *
  have HG := Lib.hid hG
  clear hG
  go_enter Tryz.func48, Tryz.ntmps48
  go_wp2_with fail
  have hla := h.ext hx0
  have hcl : ∀ (W : World) (x : List UInt8 × V), Ext (((w.alloc (.cells #[.string (strOf key), .slice aa l.length ca] 34)).alloc (.cells #[.string (strOf name)] 9)).alloc (.cells #[.int .i64 0, .int .i64 0, .string ⟨#[]⟩, .bool false] 49)) W → x ∈ l → Calls Tryz.prog 72 (#[.agg #[.string (strOf x.1), .int .i64 x.2.k, .int .i64 x.2.n, .string (strOf x.2.s), .bool x.2.b]] ++ #[.pointer (some ⟨w.heap.size + 1, 0, none⟩)]) W fun e W' => e = .returned (.bool (decide (x.1 = name))) ∧ Ext W W' :=
    fun W x hx _ => get113_any W (w.heap.size + 1) name (hx.cell h1) x
  refine (idxA_any _ _ l hla 72 #[.pointer (some ⟨w.heap.size + 1, 0, none⟩)] (fun x => decide (x.1 = name)) ent113 hcl).mono ?_
  rintro e w2 ⟨rfl, hx2⟩
  have hg := idxP_get (fun x : List UInt8 × V => decide (x.1 = name)) l
  have hB4 : w2.heap[w.heap.size + 1 + 1]? = some (.cells #[.int .i64 0, .int .i64 0, .string ⟨#[]⟩, .bool false] 49 (0, 0)) := by rw [hx2.block _ (Array.getElem?_eq_some_iff.1 h2).1]; exact h2
  have h32 := hx2.cell h3
  have hl2 := hla.ext hx2
  have hxw := hx0.trans hx2
  have HB4 := Lib.hid hB4
  clear hcl hla h1 h2 h3 hx2 hx0 hB4 h
  generalize idxP (fun x : List UInt8 × V => decide (x.1 = name)) l = ix at *
  rcases hg with ⟨rfl, hf⟩ | ⟨i, hi, rfl, hf⟩
  · have hgv : G = (⟨0, 0, [], false⟩, false) := by rw [← HG.out]; unfold getV getE; rw [hf]; rfl
    subst hgv
    clear hf
    go_wp2_with (refine wpList_store_whole 49 (.tmp 4) (.tmp 13) rfl rfl (w.heap.size + 1 + 1) rfl #[.int .i64 0, .int .i64 0, .string ⟨#[]⟩, .bool false] rfl _ 49 HB4.out rfl info49s (by simp [Value.oneCell']) ?_)
    have hR := setRow_heap _ _ _ #[.int .i64 0, .int .i64 0, .string ⟨#[]⟩, .bool false] _ _ HB4.out
    have r0 := cell_of_row _ _ 0 _ _ _ hR
    have r1 := cell_of_row _ _ 1 _ _ _ hR
    have r2 := cell_of_row _ _ 2 _ _ _ hR
    have r3 := cell_of_row _ _ 3 _ _ _ hR
    refine bodyPost_ret (v := .tuple #[.agg #[.int .i64 0, .int .i64 0, .string (strOf []), .bool false], .bool false]) (by simp [results, Tryz.results48, go_sem, r0, r1, r2, r3]; rfl) rfl ⟨rfl, hxw.setRow (by omega) _⟩
  · have hgv : G = (l[i].2, true) := by rw [← HG.out]; unfold getV getE; rw [hf]; rfl
    obtain ⟨B1, o1, rfl, f0, f1, f2, f3, f4⟩ := AttrR.at hl2 hi
    generalize l[i] = x at *
    subst hgv
    have hI : decide ((i : Int) < 0) = false := decide_eq_false (by omega)
    clear hf
    go_wp2_with (refine wpList_store_whole 49 (.tmp 4) (.tmp 19) rfl rfl (w.heap.size + 1 + 1) rfl #[.int .i64 x.2.k, .int .i64 x.2.n, .string (strOf x.2.s), .bool x.2.b] rfl _ 49 HB4.out rfl info49s (by simp [Value.oneCell']) ?_)
    have hR := setRow_heap _ _ _ #[.int .i64 x.2.k, .int .i64 x.2.n, .string (strOf x.2.s), .bool x.2.b] _ _ HB4.out
    have r0 := cell_of_row _ _ 0 _ _ _ hR
    have r1 := cell_of_row _ _ 1 _ _ _ hR
    have r2 := cell_of_row _ _ 2 _ _ _ hR
    have r3 := cell_of_row _ _ 3 _ _ _ hR
    refine bodyPost_ret (v := .tuple #[.agg #[.int .i64 x.2.k, .int .i64 x.2.n, .string (strOf x.2.s), .bool x.2.b], .bool true]) (by simp [results, Tryz.results48, go_sem, r0, r1, r2, r3]) rfl ⟨rfl, hxw.setRow (by omega) _⟩
end Go.Proofs.YtckigoeomkphhaaGreat

namespace Go.Proofs.YtckigoeomkphhaaGreat
open Go.RowKit

theorem asks_get {l : List (List UInt8 × V)} {c : C} : asksE l c = (match getV l c.name with | (v, ok) => ok && holdsC c v) := by
  unfold asksE getV
  cases getE l c.name <;> rfl

set_option maxRecDepth 100000 in
set_option maxHeartbeats 4000000 in
theorem match56_any (w : World) (B : Nat) (key : List UInt8) (aa : Option Addr) (ca : Nat) (l : List (List UInt8 × V)) (hb : w.heap[B]? = some (.cells #[.string (strOf key), .slice aa l.length ca] 34 (0, 0))) (hl : AttrR w (.slice aa l.length ca) l)
    (c : C) (sa : Option Addr) (sc : Nat) (hs : SetR w (.slice sa c.set.length sc) c.set) :
    Calls Tryz.prog 47 #[.agg #[.string (strOf c.name), .int .i64 c.op, .int .i64 c.v.k, .int .i64 c.v.n, .string (strOf c.v.s), .bool c.v.b, .slice sa c.set.length sc], .pointer (some ⟨B, 0, none⟩)] w
      fun e w' => e = .returned (.bool (!asksE l c)) ∧ Ext w w' := by
  have hx0 : Ext w (w.alloc (.cells #[.string (strOf c.name), .int .i64 c.op, .int .i64 c.v.k, .int .i64 c.v.n, .string (strOf c.v.s), .bool c.v.b, .slice sa c.set.length sc] 52)) := (Ext.refl w).alloc _
  have hB : CBox (w.alloc (.cells #[.string (strOf c.name), .int .i64 c.op, .int .i64 c.v.k, .int .i64 c.v.n, .string (strOf c.v.s), .bool c.v.b, .slice sa c.set.length sc] 52)) w.heap.size c sa sc := ⟨heap_alloc_new _ _, hs.ext hx0⟩
  have b0 := hx0.cell (cell_of_row _ _ 0 _ _ _ hb)
  have b1 := hx0.cell (cell_of_row _ _ 1 _ _ _ hb)
  have hl0 := hl.ext hx0
  rw [asks_get]
  generalize hG : getV l c.name = G at *
  have HG := Lib.hid hG
  clear hG hb hs hl
  go_enter Tryz.func47, Tryz.ntmps47
  go_wp2_with fail
  generalize w.alloc (.cells #[.string (strOf c.name), .int .i64 c.op, .int .i64 c.v.k, .int .i64 c.v.n, .string (strOf c.v.s), .bool c.v.b, .slice sa c.set.length sc] 52) = wa at *
  refine (get_any wa key c.name _ l hl0).mono ?_
  rw [HG.out]
  obtain ⟨⟨k, n, s, b⟩, ok⟩ := G
  rintro e w2 ⟨rfl, hx2⟩
  have hx2a := hx2.alloc (.cells #[.int .i64 k, .int .i64 n, .string (strOf s), .bool b] 49)
  obtain ⟨c0, c1, c2, c3, c4, c5, c6⟩ := (hB.ext hx2a).cell
  have hs2 := (hB.ext hx2a).s
  have hxw := hx0.trans hx2a
  cases ok
  · go_wp2_with fail
    go_ret
    exact ⟨rfl, hxw⟩
  · go_wp2_with (go_at_call 33; refine (pholds_any _ c sa sc hs2 ⟨k, n, s, b⟩).mono ?_; rintro e w3 ⟨rfl, hx3⟩)
    go_ret
    exact ⟨rfl, hxw.trans hx3⟩

set_option maxRecDepth 100000 in
set_option maxHeartbeats 2000000 in
theorem matches_any (w : World) (v : Value) (p : List C) (key : List UInt8) (va : Value) (l : List (List UInt8 × V)) (hp : PredR w v p) (hl : AttrR w va l) :
    Calls Tryz.prog 23 #[v, .agg #[.string (strOf key), va]] w fun e w' => e = .returned (.bool (matchP p l)) ∧ Ext w w' := by
  obtain ⟨aa, ca, rfl, hca, hma⟩ := Row.shape hl
  obtain ⟨ap, cp, rfl, hcp, hmp⟩ := hp.shape
  have hx0 : Ext w (w.alloc (.cells #[.string (strOf key), .slice aa l.length ca] 34)) := (Ext.refl w).alloc _
  have hE : (w.alloc (.cells #[.string (strOf key), .slice aa l.length ca] 34)).heap[w.heap.size]? = some (.cells #[.string (strOf key), .slice aa l.length ca] 34 (0, 0)) := heap_alloc_new _ _
  have hl0 := hl.ext hx0
  have hp0 := hp.ext hx0
  have hcon := hasC_any _ _ p hp0 47 #[.pointer (some ⟨w.heap.size, 0, none⟩)] (fun c => !asksE l c) ent56 (fun W x sa sc hx _ hs => match56_any W w.heap.size key aa ca l (by rw [hx.block _ (Array.getElem?_eq_some_iff.1 hE).1]; exact hE) (hl0.ext hx) x sa sc hs)
  have hres : matchP p l = !p.any fun c => !asksE l c := by
    have h : ∀ q : List C, q.all (asksE l) = !q.any fun c => !asksE l c := fun q => by
      induction q with
      | nil => rfl
      | cons c q ih => rw [List.all_cons, List.any_cons, ih]; cases asksE l c <;> simp
    exact h p
  rw [hres]
  clear hres hE hl0 hp0 hl hp
  generalize (p.any fun c => !asksE l c) = r at *
  go_enter Tryz.func23, Tryz.ntmps23
  go_wp2_with (go_at_call 44; refine hcon.mono ?_; rintro e w' ⟨rfl, hx⟩)
  go_ret
  exact ⟨rfl, hx0.trans hx⟩
end Go.Proofs.YtckigoeomkphhaaGreat

namespace Go.Proofs.YtckigoeomkphhaaGreat
open Go.RowKit

theorem strOf_size (l : List UInt8) : (strOf l).size = l.length := by show l.toArray.size = _; simp
theorem pre_str (s p : List UInt8) (h : p.length ≤ s.length) : (((strOf s).extract 0 (strOf p).size).toList == p) = p.isPrefixOf s := by
  have := Lib.hasPrefix_raw (strOf s) (strOf p)
  rw [strOf_toList, strOf_size, strOf_size, decide_eq_true h, Bool.true_and] at this
  rw [strOf_size, this]; rfl

theorem rcmpV_any (w : World) (a b : V) : Calls Tryz.prog 101 #[.agg #[.int .i64 a.k, .int .i64 a.n, .string (strOf a.s), .bool a.b], .agg #[.int .i64 b.k, .int .i64 b.n, .string (strOf b.s), .bool b.b]] w fun e w' => e = .returned (.int .i64 (cmpV a b)) ∧ Grew w w' := rcompare_any w _ _ _ _ _ _ _ _
theorem cmpV_any (w : World) (a b : V) : Calls Tryz.prog 51 #[.agg #[.int .i64 a.k, .int .i64 a.n, .string (strOf a.s), .bool a.b], .agg #[.int .i64 b.k, .int .i64 b.n, .string (strOf b.s), .bool b.b]] w fun e w' => e = .returned (.int .i64 (cmpV a b)) ∧ Grew w w' := compare_any w _ _ _ _ _ _ _ _

end Go.Proofs.YtckigoeomkphhaaGreat

namespace Go.Proofs.YtckigoeomkphhaaGreat
open Go.RowKit

theorem find_take {l : List (List UInt8 × V)} {name : List UInt8} {j : Nat} (h : ∀ x ∈ l.take j, x.1 ≠ name) : getE l name = getE (l.drop j) name := by
  unfold getE
  conv => lhs; rw [← List.take_append_drop j l]
  rw [List.find?_append, List.find?_eq_none.2 (fun x hx => by simpa using h x hx)]
  rfl
theorem asks_none {l : List (List UInt8 × V)} {c : C} (h : ∀ x ∈ l.take l.length, x.1 ≠ c.name) : asksE l c = false := by
  unfold asksE
  rw [find_take h, List.drop_length]; rfl
theorem asks_some {l : List (List UInt8 × V)} {c : C} {j : Nat} (hj : j < l.length) (h : ∀ x ∈ l.take j, x.1 ≠ c.name) (he : l[j].1 = c.name) : asksE l c = holdsC c l[j].2 := by
  unfold asksE
  rw [find_take h, List.drop_eq_getElem_cons hj]
  unfold getE
  rw [List.find?_cons_of_pos (by simpa using he)]; rfl

end Go.Proofs.YtckigoeomkphhaaGreat

namespace Go.Proofs.YtckigoeomkphhaaGreat
open Go.RowKit

set_option maxRecDepth 100000 in
theorem number_any (w : World) (n : Int) : Calls Tryz.prog 107 #[.int .i64 n] w fun e w' => e = .returned (.agg #[.int .i64 1, .int .i64 n, .string (strOf []), .bool false]) ∧ Grew w w' := by
  go_enter Tryz.func107, Tryz.ntmps107
  go_wp2
  have hR := heap_alloc_new w (.cells #[.int .i64 1, .int .i64 n, .string ⟨#[]⟩, .bool false] 49)
  have r0 := cell_of_row _ _ 0 _ _ _ hR
  have r1 := cell_of_row _ _ 1 _ _ _ hR
  have r2 := cell_of_row _ _ 2 _ _ _ hR
  have r3 := cell_of_row _ _ 3 _ _ _ hR
  refine bodyPost_ret (v := .agg #[.int .i64 1, .int .i64 n, .string (strOf []), .bool false]) (by simp [results, Tryz.results107, go_sem, r0, r1, r2, r3]; rfl) rfl ⟨rfl, (Grew.refl w).alloc _⟩
set_option maxRecDepth 100000 in
theorem word_any (w : World) (s : List UInt8) : Calls Tryz.prog 108 #[.string (strOf s)] w fun e w' => e = .returned (.agg #[.int .i64 2, .int .i64 0, .string (strOf s), .bool false]) ∧ Grew w w' := by
  go_enter Tryz.func108, Tryz.ntmps108
  go_wp2
  have hR := heap_alloc_new w (.cells #[.int .i64 2, .int .i64 0, .string (strOf s), .bool false] 49)
  have r0 := cell_of_row _ _ 0 _ _ _ hR
  have r1 := cell_of_row _ _ 1 _ _ _ hR
  have r2 := cell_of_row _ _ 2 _ _ _ hR
  have r3 := cell_of_row _ _ 3 _ _ _ hR
  refine bodyPost_ret (v := .agg #[.int .i64 2, .int .i64 0, .string (strOf s), .bool false]) (by simp [results, Tryz.results108, go_sem, r0, r1, r2, r3]) rfl ⟨rfl, (Grew.refl w).alloc _⟩
set_option maxRecDepth 100000 in
theorem truth_any (w : World) (b : Bool) : Calls Tryz.prog 109 #[.bool b] w fun e w' => e = .returned (.agg #[.int .i64 3, .int .i64 0, .string (strOf []), .bool b]) ∧ Grew w w' := by
  go_enter Tryz.func109, Tryz.ntmps109
  go_wp2
  have hR := heap_alloc_new w (.cells #[.int .i64 3, .int .i64 0, .string ⟨#[]⟩, .bool b] 49)
  have r0 := cell_of_row _ _ 0 _ _ _ hR
  have r1 := cell_of_row _ _ 1 _ _ _ hR
  have r2 := cell_of_row _ _ 2 _ _ _ hR
  have r3 := cell_of_row _ _ 3 _ _ _ hR
  refine bodyPost_ret (v := .agg #[.int .i64 3, .int .i64 0, .string (strOf []), .bool b]) (by simp [results, Tryz.results109, go_sem, r0, r1, r2, r3]; rfl) rfl ⟨rfl, (Grew.refl w).alloc _⟩

/-- The value's own box, behind a second one and a draw. -/
theorem box28 (w : World) (k n : Int) (s : List UInt8) (b : Bool) :
    ((w.alloc (.cells #[.int .i64 k, .int .i64 n, .string (strOf s), .bool b] 49)).alloc (.cells #[.int .i64 k, .int .i64 n, .string (strOf s), .bool b] 49)).drew.cell? ⟨w.heap.size, 0, none⟩ = some (.int .i64 k) ∧
    ((w.alloc (.cells #[.int .i64 k, .int .i64 n, .string (strOf s), .bool b] 49)).alloc (.cells #[.int .i64 k, .int .i64 n, .string (strOf s), .bool b] 49)).drew.cell? ⟨w.heap.size, 1, none⟩ = some (.int .i64 n) ∧
    ((w.alloc (.cells #[.int .i64 k, .int .i64 n, .string (strOf s), .bool b] 49)).alloc (.cells #[.int .i64 k, .int .i64 n, .string (strOf s), .bool b] 49)).drew.cell? ⟨w.heap.size, 2, none⟩ = some (.string (strOf s)) ∧
    ((w.alloc (.cells #[.int .i64 k, .int .i64 n, .string (strOf s), .bool b] 49)).alloc (.cells #[.int .i64 k, .int .i64 n, .string (strOf s), .bool b] 49)).drew.cell? ⟨w.heap.size, 3, none⟩ = some (.bool b) := by
  have hx : Ext (w.alloc (.cells #[.int .i64 k, .int .i64 n, .string (strOf s), .bool b] 49)) ((w.alloc (.cells #[.int .i64 k, .int .i64 n, .string (strOf s), .bool b] 49)).alloc (.cells #[.int .i64 k, .int .i64 n, .string (strOf s), .bool b] 49)).drew := ((Ext.refl _).alloc _).drew
  have hR := heap_alloc_new w (.cells #[.int .i64 k, .int .i64 n, .string (strOf s), .bool b] 49)
  exact ⟨hx.cell (cell_of_row _ _ 0 _ _ _ hR), hx.cell (cell_of_row _ _ 1 _ _ _ hR), hx.cell (cell_of_row _ _ 2 _ _ _ hR), hx.cell (cell_of_row _ _ 3 _ _ _ hR)⟩

set_option maxRecDepth 100000 in
set_option maxHeartbeats 4000000 in
theorem vmay1 (w : World) (n : Int) (s : List UInt8) (b : Bool) :
    Calls Tryz.prog 70 #[.agg #[.int .i64 1, .int .i64 n, .string (strOf s), .bool b]] w fun e w' => e = .returned (.bool (s.isEmpty && !b)) ∧ Grew w w' := by
  have t1 := ta22
  obtain ⟨c0, c1, c2, c3⟩ := box28 w 1 n s b
  cases s <;> cases b
  all_goals
    go_enter Tryz.func70, Tryz.ntmps70
    go_upto_region 4 with go_in
    go_region_law (go_simp; go_at_call 107; refine (number_any _ _).mono ?_; rintro e w2 ⟨rfl, hx2⟩; have m0 := hx2.1.cell c0; have m1 := hx2.1.cell c1; have m2 := hx2.1.cell c2; have m3 := hx2.1.cell c3)
    all_goals
      go_wp2_with fail
      go_ret
      exact ⟨rfl, (((Grew.refl w).alloc _).alloc _).trans ((Grew.refl _).drew.trans hx2)⟩

set_option maxRecDepth 100000 in
set_option maxHeartbeats 4000000 in
theorem vmay2 (w : World) (n : Int) (s : List UInt8) (b : Bool) :
    Calls Tryz.prog 70 #[.agg #[.int .i64 2, .int .i64 n, .string (strOf s), .bool b]] w fun e w' => e = .returned (.bool (decide (n = 0) && !b && decide (s.length ≤ 32))) ∧ Ext w w' := by
  obtain ⟨c0, c1, c2, c3⟩ := box28 w 2 n s b
  have t1 := ta92
  have t2 := ta99
  by_cases hn : n = 0
  · subst hn
    cases b
    · have hr : (decide ((0 : Int) = 0) && !false && decide (s.length ≤ 32)) = decide (((strOf s).size : Int) ≤ 32) := by
        rw [strOf_size]
        simp only [decide_true, Bool.not_false, Bool.true_and]
        rw [Bool.eq_iff_iff, decide_eq_true_iff, decide_eq_true_iff]; omega
      rw [hr]
      clear hr
      go_enter Tryz.func70, Tryz.ntmps70
      go_upto_region 7 with go_in
      refine wp_region_facts [Fact.eq (.agg #[.int .i64 2, .int .i64 0, .string (strOf s), .bool false]),
          Fact.eq (.string (strOf s)),
          Fact.eq (.agg #[.int .i64 2, .int .i64 0, .string (strOf s), .bool false]),
          Fact.eq (.bool true),
          Fact.eq (.bool true),
          Fact.eq (.string (strOf s)),
          Fact.eq (.int .i64 (strOf s).size),
          Fact.eq (.bool (decide (((strOf s).size : Int) ≤ 32))),
          Fact.eq (.bool (decide (((strOf s).size : Int) ≤ 32))),
          Fact.eq (.bool (decide (((strOf s).size : Int) ≤ 32)))]
        [[], [], [(1, 19)], [(0, 18), (2, 20)], [(3, 21)], [(4, 22)], [(5, 23), (4, 22)], [(6, 24), (4, 22)], [(4, 22), (7, 25)], [(8, 26)]]
        [(0, 18), (1, 19), (2, 20), (3, 21), (4, 22), (5, 23), (6, 24), (7, 25), (8, 26), (9, 2)] (by kernel_rfl) (by kernel_rfl) ?_ ?_
      · refine ⟨?_, ?_, ?_, ?_, ?_, ?_, ?_, ?_, ?_, ?_, trivial⟩
        · intro w1 hx1; change wpList _ _ _ _ _ _; have m0 := hx1.cell c0; have m1 := hx1.cell c1; have m2 := hx1.cell c2; have m3 := hx1.cell c3; go_wp2_with fail; exact ⟨rfl, Ext.refl _, rfl, rfl⟩
        · intro w1 hx1; change wpList _ _ _ _ _ _; exact ob_move rfl rfl rfl rfl rfl
        · intro w1 hx1; rintro _ rfl; change wpList _ _ _ _ _ _; go_wp2_with fail; refine (word_any _ _).mono ?_; rintro e w2 ⟨rfl, hx2⟩; go_wp2_with fail; exact ⟨rfl, hx2.1, rfl, rfl⟩
        · intro w1 hx1; rintro _ rfl; rintro _ rfl; change wpList _ _ _ _ _ _; go_wp2_with fail; exact ⟨rfl, Ext.refl _, rfl, rfl⟩
        · intro w1 hx1; rintro _ rfl; change wpList _ _ _ _ _ _; exact ob_move rfl rfl rfl rfl rfl
        · intro w1 hx1; rintro _ rfl; change wpList _ _ _ _ _ _; exact ob_move rfl rfl rfl rfl rfl
        · intro w1 hx1; rintro _ rfl; rintro _ rfl; change wpList _ _ _ _ _ _; go_wp2_with fail; exact ⟨rfl, Ext.refl _, rfl, rfl⟩
        · intro w1 hx1; rintro _ rfl; rintro _ rfl; change wpList _ _ _ _ _ _; go_wp2_with fail; exact ⟨rfl, Ext.refl _, rfl, rfl⟩
        · intro w1 hx1; rintro _ rfl; rintro _ rfl; change wpList _ _ _ _ _ _; exact ob_pick rfl rfl rfl rfl rfl rfl
        · intro w1 hx1; rintro _ rfl; change wpList _ _ _ _ _ _; exact ob_assign rfl rfl rfl rfl rfl
      · intro w1 hx1; rintro _ rfl; rintro _ rfl; rintro _ rfl; rintro _ rfl; rintro _ rfl; rintro _ rfl; rintro _ rfl; rintro _ rfl; rintro _ rfl; rintro _ rfl; refine depsThen_nil ?_; dsimp only; simp only [Act.put, List.setIfInBounds_toArray, List.set_cons_zero, List.set_cons_succ]
        go_wp2_with fail
        go_ret
        exact ⟨rfl, (((Ext.refl w).alloc _).alloc _).trans hx1⟩
    · have hr : (decide ((0 : Int) = 0) && !true && decide (s.length ≤ 32)) = false := by simp
      rw [hr]
      clear hr
      go_enter Tryz.func70, Tryz.ntmps70
      go_upto_region 7 with go_in
      refine wp_region_facts [Fact.eq (.agg #[.int .i64 2, .int .i64 0, .string (strOf s), .bool true]),
          Fact.eq (.string (strOf s)),
          Fact.eq (.agg #[.int .i64 2, .int .i64 0, .string (strOf s), .bool false]),
          Fact.eq (.bool false),
          Fact.eq (.bool false),
          Fact.eq undef,
          Fact.eq undef,
          Fact.eq undef,
          Fact.eq (.bool false),
          Fact.eq (.bool false)]
        [[], [], [(1, 19)], [(0, 18), (2, 20)], [(3, 21)], [(4, 22)], [(5, 23), (4, 22)], [(6, 24), (4, 22)], [(4, 22), (7, 25)], [(8, 26)]]
        [(0, 18), (1, 19), (2, 20), (3, 21), (4, 22), (5, 23), (6, 24), (7, 25), (8, 26), (9, 2)] (by kernel_rfl) (by kernel_rfl) ?_ ?_
      · refine ⟨?_, ?_, ?_, ?_, ?_, ?_, ?_, ?_, ?_, ?_, trivial⟩
        · intro w1 hx1; change wpList _ _ _ _ _ _; have m0 := hx1.cell c0; have m1 := hx1.cell c1; have m2 := hx1.cell c2; have m3 := hx1.cell c3; go_wp2_with fail; exact ⟨rfl, Ext.refl _, rfl, rfl⟩
        · intro w1 hx1; change wpList _ _ _ _ _ _; exact ob_move rfl rfl rfl rfl rfl
        · intro w1 hx1; rintro _ rfl; change wpList _ _ _ _ _ _; go_wp2_with fail; refine (word_any _ _).mono ?_; rintro e w2 ⟨rfl, hx2⟩; go_wp2_with fail; exact ⟨rfl, hx2.1, rfl, rfl⟩
        · intro w1 hx1; rintro _ rfl; rintro _ rfl; change wpList _ _ _ _ _ _; go_wp2_with fail; exact ⟨rfl, Ext.refl _, rfl, rfl⟩
        · intro w1 hx1; rintro _ rfl; change wpList _ _ _ _ _ _; exact ob_move rfl rfl rfl rfl rfl
        · intro w1 hx1; rintro _ rfl; change wpList _ _ _ _ _ _; exact ob_skip rfl rfl rfl rfl
        · intro w1 hx1; rintro _ rfl; rintro _ rfl; change wpList _ _ _ _ _ _; exact ob_skip rfl rfl rfl rfl
        · intro w1 hx1; rintro _ rfl; rintro _ rfl; change wpList _ _ _ _ _ _; exact ob_skip rfl rfl rfl rfl
        · intro w1 hx1; rintro _ rfl; rintro _ rfl; change wpList _ _ _ _ _ _; exact ob_pick rfl rfl rfl rfl rfl rfl
        · intro w1 hx1; rintro _ rfl; change wpList _ _ _ _ _ _; exact ob_assign rfl rfl rfl rfl rfl
      · intro w1 hx1; rintro _ rfl; rintro _ rfl; rintro _ rfl; rintro _ rfl; rintro _ rfl; rintro _ rfl; rintro _ rfl; rintro _ rfl; rintro _ rfl; rintro _ rfl; refine depsThen_nil ?_; dsimp only; simp only [Act.put, List.setIfInBounds_toArray, List.set_cons_zero, List.set_cons_succ]
        go_wp2_with fail
        go_ret
        exact ⟨rfl, (((Ext.refl w).alloc _).alloc _).trans hx1⟩
  · have hr : (decide (n = 0) && !b && decide (s.length ≤ 32)) = false := by rw [decide_eq_false hn]; rfl
    rw [hr]
    have hd := beq_int_ne hn
    clear hr hn
    go_enter Tryz.func70, Tryz.ntmps70
    go_upto_region 7 with go_in
    refine wp_region_facts [Fact.eq (.agg #[.int .i64 2, .int .i64 n, .string (strOf s), .bool b]),
        Fact.eq (.string (strOf s)),
        Fact.eq (.agg #[.int .i64 2, .int .i64 0, .string (strOf s), .bool false]),
        Fact.eq (.bool false),
        Fact.eq (.bool false),
        Fact.eq undef,
        Fact.eq undef,
        Fact.eq undef,
        Fact.eq (.bool false),
        Fact.eq (.bool false)]
      [[], [], [(1, 19)], [(0, 18), (2, 20)], [(3, 21)], [(4, 22)], [(5, 23), (4, 22)], [(6, 24), (4, 22)], [(4, 22), (7, 25)], [(8, 26)]]
      [(0, 18), (1, 19), (2, 20), (3, 21), (4, 22), (5, 23), (6, 24), (7, 25), (8, 26), (9, 2)] (by kernel_rfl) (by kernel_rfl) ?_ ?_
    · refine ⟨?_, ?_, ?_, ?_, ?_, ?_, ?_, ?_, ?_, ?_, trivial⟩
      · intro w1 hx1; change wpList _ _ _ _ _ _; have m0 := hx1.cell c0; have m1 := hx1.cell c1; have m2 := hx1.cell c2; have m3 := hx1.cell c3; go_wp2_with fail; exact ⟨rfl, Ext.refl _, rfl, rfl⟩
      · intro w1 hx1; change wpList _ _ _ _ _ _; exact ob_move rfl rfl rfl rfl rfl
      · intro w1 hx1; rintro _ rfl; change wpList _ _ _ _ _ _; go_wp2_with fail; refine (word_any _ _).mono ?_; rintro e w2 ⟨rfl, hx2⟩; go_wp2_with fail; exact ⟨rfl, hx2.1, rfl, rfl⟩
      · intro w1 hx1; rintro _ rfl; rintro _ rfl; change wpList _ _ _ _ _ _; go_wp2_with fail; exact ⟨rfl, Ext.refl _, rfl, rfl⟩
      · intro w1 hx1; rintro _ rfl; change wpList _ _ _ _ _ _; exact ob_move rfl rfl rfl rfl rfl
      · intro w1 hx1; rintro _ rfl; change wpList _ _ _ _ _ _; exact ob_skip rfl rfl rfl rfl
      · intro w1 hx1; rintro _ rfl; rintro _ rfl; change wpList _ _ _ _ _ _; exact ob_skip rfl rfl rfl rfl
      · intro w1 hx1; rintro _ rfl; rintro _ rfl; change wpList _ _ _ _ _ _; exact ob_skip rfl rfl rfl rfl
      · intro w1 hx1; rintro _ rfl; rintro _ rfl; change wpList _ _ _ _ _ _; exact ob_pick rfl rfl rfl rfl rfl rfl
      · intro w1 hx1; rintro _ rfl; change wpList _ _ _ _ _ _; exact ob_assign rfl rfl rfl rfl rfl
    · intro w1 hx1; rintro _ rfl; rintro _ rfl; rintro _ rfl; rintro _ rfl; rintro _ rfl; rintro _ rfl; rintro _ rfl; rintro _ rfl; rintro _ rfl; rintro _ rfl; refine depsThen_nil ?_; dsimp only; simp only [Act.put, List.setIfInBounds_toArray, List.set_cons_zero, List.set_cons_succ]
      go_wp2_with fail
      go_ret
      exact ⟨rfl, (((Ext.refl w).alloc _).alloc _).trans hx1⟩

set_option maxRecDepth 100000 in
set_option maxHeartbeats 4000000 in
theorem vmay3 (w : World) (n : Int) (s : List UInt8) (b : Bool) :
    Calls Tryz.prog 70 #[.agg #[.int .i64 3, .int .i64 n, .string (strOf s), .bool b]] w fun e w' => e = .returned (.bool (decide (n = 0) && s.isEmpty)) ∧ Grew w w' := by
  obtain ⟨c0, c1, c2, c3⟩ := box28 w 3 n s b
  have t1 := ta42
  have t2 := ta49
  have t3 := ta44
  by_cases hn : n = 0
  · subst hn
    cases s
    all_goals
      go_enter Tryz.func70, Tryz.ntmps70
      go_upto_region 10 with go_in
      go_region_law (go_simp; go_at_call 109; refine (truth_any _ _).mono ?_; rintro e w2 ⟨rfl, hx2⟩; have m0 := hx2.1.cell c0; have m1 := hx2.1.cell c1; have m2 := hx2.1.cell c2; have m3 := hx2.1.cell c3)
      all_goals
        go_wp2_with fail
        go_ret
        exact ⟨rfl, (((Grew.refl w).alloc _).alloc _).trans ((Grew.refl _).drew.trans hx2)⟩
  · have hr : (decide (n = 0) && s.isEmpty) = false := by rw [decide_eq_false hn]; rfl
    rw [hr]
    have hd := beq_int_ne hn
    clear hr hn
    go_enter Tryz.func70, Tryz.ntmps70
    go_upto_region 10 with go_in
    go_region_law (go_simp; go_at_call 109; refine (truth_any _ _).mono ?_; rintro e w2 ⟨rfl, hx2⟩; have m0 := hx2.1.cell c0; have m1 := hx2.1.cell c1; have m2 := hx2.1.cell c2; have m3 := hx2.1.cell c3)
    all_goals
      go_wp2_with fail
      go_ret
      exact ⟨rfl, (((Grew.refl w).alloc _).alloc _).trans ((Grew.refl _).drew.trans hx2)⟩

set_option maxRecDepth 100000 in
set_option maxHeartbeats 4000000 in
theorem vmay_any (w : World) (v : V) : Calls Tryz.prog 70 #[.agg #[.int .i64 v.k, .int .i64 v.n, .string (strOf v.s), .bool v.b]] w fun e w' => e = .returned (.bool (mayV v)) ∧ Ext w w' := by
  obtain ⟨k, n, s, b⟩ := v
  unfold mayV
  by_cases h1 : k = 1
  · subst h1; exact (vmay1 w n s b).mono fun _ _ h => ⟨h.1, h.2.1⟩
  by_cases h2 : k = 2
  · subst h2; exact vmay2 w n s b
  by_cases h3 : k = 3
  · subst h3; exact (vmay3 w n s b).mono fun _ _ h => ⟨h.1, h.2.1⟩
  simp only [if_neg h1, if_neg h2, if_neg h3]
  have d1 := beq_int_ne h1
  have d2 := beq_int_ne h2
  have d3 := beq_int_ne h3
  have t1 := ta02
  have t2 := ta09
  have t3 := ta04
  clear h1 h2 h3
  go_enter Tryz.func70, Tryz.ntmps70
  go_wp2_with go_in
  go_ret
  exact ⟨rfl, ((Ext.refl w).alloc _).alloc _⟩
end Go.Proofs.YtckigoeomkphhaaGreat

namespace Go.Proofs.YtckigoeomkphhaaGreat
open Go.RowKit

theorem ent72 : ∀ args w, (callFunc 69 args).run Tryz.prog w = .ok (.enter 69 args) w := enters_of Tryz.func69 (by kernel_rfl) rfl
theorem ent63 : ∀ args w, (callFunc 45 args).run Tryz.prog w = .ok (.enter 45 args) w := enters_of Tryz.func45 (by kernel_rfl) rfl

set_option maxRecDepth 100000 in
set_option maxHeartbeats 2000000 in
theorem may72_any (w : World) (v : V) : Calls Tryz.prog 69 #[.agg #[.int .i64 v.k, .int .i64 v.n, .string (strOf v.s), .bool v.b]] w fun e w' => e = .returned (.bool (!mayV v)) ∧ Ext w w' := by
  have hx0 : Ext w (w.alloc (.cells #[.int .i64 v.k, .int .i64 v.n, .string (strOf v.s), .bool v.b] 49)) := (Ext.refl w).alloc _
  go_enter Tryz.func69, Tryz.ntmps69
  go_wp2_with (go_at_call 70; refine (vmay_any _ v).mono ?_; rintro e w2 ⟨rfl, hx2⟩)
  go_ret
  exact ⟨rfl, hx0.trans hx2⟩

theorem bareV_eq (v : V) : bareV v = ((v.k == 0) && ((v.n == 0) && ((v.s == []) && (v.b == false)))) := by
  obtain ⟨k, n, s, b⟩ := v
  unfold bareV
  rw [Bool.eq_iff_iff]
  simp

/-- MayCons's answer, by its tests. -/
def mayT (len op vk : Int) (sl : Nat) (B M S : Bool) : Bool :=
  if decide (len < 1) || decide (16 < len) then false
  else if op = 1 then B && decide (sl = 0)
  else if 2 ≤ op ∧ op ≤ 7 then M && decide (sl = 0)
  else if op = 8 then M && decide (vk = 2) && decide (sl = 0)
  else if op = 9 then B && decide (1 ≤ sl) && decide (sl ≤ 6) && S
  else false
theorem mayC_T (c : C) : mayC c = mayT (strOf c.name).size c.op c.v.k c.set.length (bareV c.v) (mayV c.v) (!(c.set.any fun x => !mayV x)) := by
  have hS : (!(c.set.any fun x => !mayV x)) = c.set.all mayV := by
    generalize c.set = l
    induction l with
    | nil => rfl
    | cons x l ih => rw [List.any_cons, List.all_cons, ← ih]; cases mayV x <;> simp
  have hE : c.set.isEmpty = decide (c.set.length = 0) := by cases c.set <;> simp
  unfold mayC mayT
  rw [hS, hE, strOf_size]
  have hI : (decide (((c.name.length : Nat) : Int) < 1) || decide ((16 : Int) < ((c.name.length : Nat) : Int))) = decide (c.name.length < 1 ∨ 16 < c.name.length) := by
    rw [Bool.eq_iff_iff]
    simp only [Bool.or_eq_true, decide_eq_true_eq]; omega
  rw [hI]
  by_cases h : c.name.length < 1 ∨ 16 < c.name.length
  · rw [if_pos h, decide_eq_true h]; rfl
  · rw [if_neg h, decide_eq_false h]; rfl

set_option maxRecDepth 100000 in
set_option maxHeartbeats 8000000 in
theorem maycons_any (w : World) (c : C) (sa : Option Addr) (sc : Nat) (hs : SetR w (.slice sa c.set.length sc) c.set) :
    Calls Tryz.prog 46 #[.agg #[.string (strOf c.name), .int .i64 c.op, .int .i64 c.v.k, .int .i64 c.v.n, .string (strOf c.v.s), .bool c.v.b, .slice sa c.set.length sc]] w
      fun e w' => e = .returned (.bool (mayC c)) ∧ Ext w w' := by
  have hx0 : Ext w (w.alloc (.cells #[.string (strOf c.name), .int .i64 c.op, .int .i64 c.v.k, .int .i64 c.v.n, .string (strOf c.v.s), .bool c.v.b, .slice sa c.set.length sc] 52)) := (Ext.refl w).alloc _
  have hB : CBox (w.alloc (.cells #[.string (strOf c.name), .int .i64 c.op, .int .i64 c.v.k, .int .i64 c.v.n, .string (strOf c.v.s), .bool c.v.b, .slice sa c.set.length sc] 52)) w.heap.size c sa sc := ⟨heap_alloc_new _ _, hs.ext hx0⟩
  rw [mayC_T]
  have hbare := Lib.hid (bareV_eq c.v)
  obtain ⟨_, _, es, hcs, hms⟩ := Row.shape hs
  simp only [Value.slice.injEq] at es
  obtain ⟨rfl, -, rfl⟩ := es
  unfold maxLen at hms
  clear hs
  by_cases hn1 : ((strOf c.name).size : Int) < 1
  · have hT : mayT (strOf c.name).size c.op c.v.k c.set.length (bareV c.v) (mayV c.v) (!(c.set.any fun x => !mayV x)) = false := by
      unfold mayT; rw [decide_eq_true hn1]; rfl
    rw [hT]
    have d1 : decide (((strOf c.name).size : Int) < 1) = true := decide_eq_true hn1
    clear hT hn1
    go_enter Tryz.func46, Tryz.ntmps46
    go_wp2_with fail
    go_ret
    exact ⟨rfl, hx0⟩
  have d1 : decide (((strOf c.name).size : Int) < 1) = false := decide_eq_false hn1
  by_cases hn2 : (16 : Int) < ((strOf c.name).size : Int)
  · have hT : mayT (strOf c.name).size c.op c.v.k c.set.length (bareV c.v) (mayV c.v) (!(c.set.any fun x => !mayV x)) = false := by
      unfold mayT; rw [decide_eq_true hn2, Bool.or_true]; rfl
    rw [hT]
    have d2 : decide ((16 : Int) < ((strOf c.name).size : Int)) = true := decide_eq_true hn2
    have d3 : ¬ ((strOf c.name).size < 1) := by omega
    have d4 : 16 < (strOf c.name).size := by omega
    clear hT hn2 hn1
    go_enter Tryz.func46, Tryz.ntmps46
    go_wp2_with fail
    go_ret
    exact ⟨rfl, hx0⟩
  have d2 : decide ((16 : Int) < ((strOf c.name).size : Int)) = false := decide_eq_false hn2
  have hT : mayT (strOf c.name).size c.op c.v.k c.set.length (bareV c.v) (mayV c.v) (!(c.set.any fun x => !mayV x)) = 
      (if c.op = 1 then bareV c.v && decide (c.set.length = 0)
       else if 2 ≤ c.op ∧ c.op ≤ 7 then mayV c.v && decide (c.set.length = 0)
       else if c.op = 8 then mayV c.v && decide (c.v.k = 2) && decide (c.set.length = 0)
       else if c.op = 9 then bareV c.v && decide (1 ≤ c.set.length) && decide (c.set.length ≤ 6) && (!(c.set.any fun x => !mayV x))
       else false) := by
    unfold mayT; rw [d1, d2]; rfl
  rw [hT]
  clear hT
  generalize hbv : bareV c.v = B at *
  clear hbv
  have HT : ∃ R : Bool, R = (if c.op = 1 then B && decide (c.set.length = 0)
       else if 2 ≤ c.op ∧ c.op ≤ 7 then mayV c.v && decide (c.set.length = 0)
       else if c.op = 8 then mayV c.v && decide (c.v.k = 2) && decide (c.set.length = 0)
       else if c.op = 9 then B && decide (1 ≤ c.set.length) && decide (c.set.length ≤ 6) && (!(c.set.any fun x => !mayV x))
       else false) := ⟨_, rfl⟩
  obtain ⟨R, hR⟩ := HT
  rw [← hR]
  have HR := Lib.hid hR
  clear hR
  have hcon := fun W h => hasV_any W (.slice sa c.set.length sc) c.set h 69 #[] (fun x => !mayV x) ent72 (fun W x hx _ => may72_any W x)
  have HM := fun W => vmay_any W c.v
  have hxa := hB.cell
  go_enter Tryz.func46, Tryz.ntmps46
  go_upto_region 3 with fail
  generalize w.alloc (.cells #[.string (strOf c.name), .int .i64 c.op, .int .i64 c.v.k, .int .i64 c.v.n, .string (strOf c.v.s), .bool c.v.b, .slice sa c.set.length sc] 52) = wa at *
  obtain ⟨c0, c1, c2, c3, c4, c5, c6⟩ := hxa
  go_cut [3] from 15 to 18 (fun v3 wx => v3 = .bool B ∧ wx = wa)
  case first =>
    clear hcon HM
    cases b1 : (c.v.k == 0)
    · go_wp2_with fail
      go_meet
      exact ⟨by rw [hbare.out, b1]; rfl, rfl⟩
    · cases b2 : (c.v.n == 0)
      · go_wp2_with fail
        go_meet
        exact ⟨by rw [hbare.out, b1, b2]; rfl, rfl⟩
      · cases b3 : (c.v.s == [])
        · go_wp2_with fail
          go_meet
          exact ⟨by rw [hbare.out, b1, b2, b3]; rfl, rfl⟩
        · cases b4 : (c.v.b == false)
          · go_wp2_with fail
            go_meet
            exact ⟨by rw [hbare.out, b1, b2, b3, b4]; rfl, rfl⟩
          · go_wp2_with fail
            go_meet
            exact ⟨by rw [hbare.out, b1, b2, b3, b4]; rfl, rfl⟩
  case rest =>
    obtain ⟨rfl, rfl⟩ := hcut
    clear hbare
    generalize (c.set.any fun x => !mayV x) = S at *
    generalize mayV c.v = M at *
    have hsl := hB.s
    have HB := Lib.hid hB
    clear hB
    go_upto_region 5 with (go_at_call 68; refine (hcon _ hsl).mono ?_; rintro e w2 ⟨rfl, hx2⟩; have m1 := hx2.cell c1; have m2 := hx2.cell c2; have m3 := hx2.cell c3; have m4 := hx2.cell c4; have m5 := hx2.cell c5; have m6 := hx2.cell c6)
    clear hcon c0 c1 c2 c3 c4 c5 c6 d1 d2 hn1 hn2
    have hxw := hx0.trans hx2
    by_cases h1 : c.op = 1
    · have d1 : (c.op == 1) = true := beq_iff_eq.2 h1
      have hr : Hid (R = (B && decide (c.set.length = 0))) := by show _ = _; rw [HR.out, if_pos h1]
      clear HR h1
      generalize c.set.length = n at *
      cases B
      · go_wp2_with fail
        go_ret
        exact ⟨by rw [hr.out]; rfl, hxw⟩
      · by_cases hz : n = 0
        · have z1 : ((n : Int) == 0) = true := beq_iff_eq.2 (by omega)
          go_wp2_with fail
          go_ret
          exact ⟨by rw [hr.out, decide_eq_true hz]; rfl, hxw⟩
        · have z1 : ((n : Int) == 0) = false := beq_eq_false_iff_ne.2 (by omega)
          go_wp2_with fail
          go_ret
          exact ⟨by rw [hr.out, decide_eq_false hz]; rfl, hxw⟩
    have e1 := beq_int_ne h1
    by_cases h27 : 2 ≤ c.op ∧ c.op ≤ 7
    · have d1 : decide (2 ≤ c.op) = true := decide_eq_true h27.1
      have d2 : decide (c.op ≤ 7) = true := decide_eq_true h27.2
      have hr : Hid (R = (M && decide (c.set.length = 0))) := by show _ = _; rw [HR.out, if_neg h1, if_pos h27]
      clear HR h1 h27
      generalize c.set.length = n at *
      cases M
      · go_wp2_with (go_at_call 70; refine (HM _).mono ?_; rintro e w3 ⟨rfl, hx3⟩; have m6 := hx3.cell m6)
        go_ret
        exact ⟨by rw [hr.out]; rfl, hxw.trans hx3⟩
      · by_cases hz : n = 0
        · have z1 : ((n : Int) == 0) = true := beq_iff_eq.2 (by omega)
          go_wp2_with (go_at_call 70; refine (HM _).mono ?_; rintro e w3 ⟨rfl, hx3⟩; have m6 := hx3.cell m6)
          go_ret
          exact ⟨by rw [hr.out, decide_eq_true hz]; rfl, hxw.trans hx3⟩
        · have z1 : ((n : Int) == 0) = false := beq_eq_false_iff_ne.2 (by omega)
          go_wp2_with (go_at_call 70; refine (HM _).mono ?_; rintro e w3 ⟨rfl, hx3⟩; have m6 := hx3.cell m6)
          go_ret
          exact ⟨by rw [hr.out, decide_eq_false hz]; rfl, hxw.trans hx3⟩
    by_cases h8 : c.op = 8
    · have d1 : (c.op == 8) = true := beq_iff_eq.2 h8
      have d2 : decide (2 ≤ c.op) = true := decide_eq_true (by omega)
      have d3 : decide (c.op ≤ 7) = false := decide_eq_false (by omega)
      have hr : Hid (R = (M && decide (c.v.k = 2) && decide (c.set.length = 0))) := by show _ = _; rw [HR.out, if_neg h1, if_neg h27, if_pos h8]
      clear HR h1 h27 h8
      generalize c.set.length = n at *
      cases M
      · go_wp2_with (go_at_call 70; refine (HM _).mono ?_; rintro e w3 ⟨rfl, hx3⟩; have m6 := hx3.cell m6; have m2 := hx3.cell m2)
        go_ret
        exact ⟨by rw [hr.out]; rfl, hxw.trans hx3⟩
      · by_cases hk : c.v.k = 2
        · have k1 : (c.v.k == 2) = true := beq_iff_eq.2 hk
          replace hk := Lib.hid hk
          by_cases hz : n = 0
          · have z1 : ((n : Int) == 0) = true := beq_iff_eq.2 (by omega)
            replace hz := Lib.hid hz
            go_wp2_with (go_at_call 70; refine (HM _).mono ?_; rintro e w3 ⟨rfl, hx3⟩; have m6 := hx3.cell m6; have m2 := hx3.cell m2)
            go_ret
            exact ⟨by rw [hr.out, decide_eq_true hk.out, decide_eq_true hz.out]; rfl, hxw.trans hx3⟩
          · have z1 : ((n : Int) == 0) = false := beq_eq_false_iff_ne.2 (by omega)
            replace hz := Lib.hid hz
            go_wp2_with (go_at_call 70; refine (HM _).mono ?_; rintro e w3 ⟨rfl, hx3⟩; have m6 := hx3.cell m6; have m2 := hx3.cell m2)
            go_ret
            exact ⟨by rw [hr.out, decide_eq_true hk.out, decide_eq_false hz.out]; rfl, hxw.trans hx3⟩
        · have k1 := beq_int_ne hk
          replace hk := Lib.hid hk
          go_wp2_with (go_at_call 70; refine (HM _).mono ?_; rintro e w3 ⟨rfl, hx3⟩; have m6 := hx3.cell m6; have m2 := hx3.cell m2)
          go_ret
          exact ⟨by rw [hr.out, decide_eq_false hk.out]; rfl, hxw.trans hx3⟩
    have e8 := beq_int_ne h8
    have e27 : (decide (2 ≤ c.op) = false) ∨ (decide (2 ≤ c.op) = true ∧ decide (c.op ≤ 7) = false) := by
      by_cases h2 : 2 ≤ c.op
      · exact Or.inr ⟨decide_eq_true h2, decide_eq_false fun h => h27 ⟨h2, h⟩⟩
      · exact Or.inl (decide_eq_false h2)
    by_cases h9 : c.op = 9
    · have d1 : (c.op == 9) = true := beq_iff_eq.2 h9
      have d2 : decide (2 ≤ c.op) = true := decide_eq_true (by omega)
      have d3 : decide (c.op ≤ 7) = false := decide_eq_false (by omega)
      have hr : Hid (R = (B && decide (1 ≤ c.set.length) && decide (c.set.length ≤ 6) && (!S))) := by show _ = _; rw [HR.out, if_neg h1, if_neg h27, if_neg h8, if_pos h9]
      clear HR h1 h27 h8 h9 e27
      generalize c.set.length = n at *
      cases B
      · go_wp2_with fail
        go_ret
        exact ⟨by rw [hr.out]; rfl, hxw⟩
      · by_cases hz : 1 ≤ n
        · have z1 : decide ((1 : Int) ≤ (n : Int)) = true := decide_eq_true (by omega)
          have z2 : 1 ≤ n := hz
          by_cases hy : n ≤ 6
          · have y1 : decide ((n : Int) ≤ 6) = true := decide_eq_true (by omega)
            have y2 : n ≤ 6 := hy
            go_wp2_with fail
            go_ret
            exact ⟨by rw [hr.out, decide_eq_true hz, decide_eq_true hy]; rfl, hxw⟩
          · have y1 : decide ((n : Int) ≤ 6) = false := decide_eq_false (by omega)
            have y2 : ¬ n ≤ 6 := hy
            go_wp2_with fail
            go_ret
            exact ⟨by rw [hr.out, decide_eq_true hz, decide_eq_false hy]; rfl, hxw⟩
        · have z1 : decide ((1 : Int) ≤ (n : Int)) = false := decide_eq_false (by omega)
          have z2 : ¬ 1 ≤ n := hz
          have z3 : n = 0 := by omega
          go_wp2_with fail
          go_ret
          exact ⟨by rw [hr.out, decide_eq_false hz]; cases S <;> rfl, hxw⟩
    have e9 := beq_int_ne h9
    have hr : Hid (R = false) := by show _ = _; rw [HR.out, if_neg h1, if_neg h27, if_neg h8, if_neg h9]
    clear HR h1 h27 h8 h9
    rcases e27 with e2 | ⟨e2, e7⟩
    · go_wp2_with fail
      go_ret
      exact ⟨by rw [hr.out]; rfl, hxw⟩
    · go_wp2_with fail
      go_ret
      exact ⟨by rw [hr.out]; rfl, hxw⟩

set_option maxRecDepth 100000 in
set_option maxHeartbeats 2000000 in
theorem may63_any (w : World) (c : C) (sa : Option Addr) (sc : Nat) (hs : SetR w (.slice sa c.set.length sc) c.set) :
    Calls Tryz.prog 45 #[.agg #[.string (strOf c.name), .int .i64 c.op, .int .i64 c.v.k, .int .i64 c.v.n, .string (strOf c.v.s), .bool c.v.b, .slice sa c.set.length sc]] w
      fun e w' => e = .returned (.bool (!mayC c)) ∧ Ext w w' := by
  have hx0 : Ext w (w.alloc (.cells #[.string (strOf c.name), .int .i64 c.op, .int .i64 c.v.k, .int .i64 c.v.n, .string (strOf c.v.s), .bool c.v.b, .slice sa c.set.length sc] 52)) := (Ext.refl w).alloc _
  have hs0 := hs.ext hx0
  go_enter Tryz.func45, Tryz.ntmps45
  go_wp2_with (go_at_call 46; refine (maycons_any _ c sa sc hs0).mono ?_; rintro e w2 ⟨rfl, hx2⟩)
  go_ret
  exact ⟨rfl, hx0.trans hx2⟩

set_option maxRecDepth 100000 in
set_option maxHeartbeats 2000000 in
theorem pmay_any (w : World) (v : Value) (p : List C) (hp : PredR w v p) :
    Calls Tryz.prog 22 #[v] w fun e w' => e = .returned (.bool (mayP p)) ∧ Ext w w' := by
  have hcon := fun W (hx : Ext w W) => hasC_any W v p (hp.ext hx) 45 #[] (fun c => !mayC c) ent63 (fun W' x sa sc _ _ hs => may63_any W' x sa sc hs)
  have hres : mayP p = (decide (p.length ≤ 6) && !(p.any fun c => !mayC c)) := by
    unfold mayP
    congr 1
    clear hp hcon
    induction p with
    | nil => rfl
    | cons c p ih => rw [List.all_cons, List.any_cons, ih]; cases mayC c <;> simp
  rw [hres]
  obtain ⟨ap, cp, rfl, hcp, hmp⟩ := hp.shape
  unfold maxLen at hmp
  clear hres hp
  generalize (p.any fun c => !mayC c) = S at *
  by_cases hl : p.length ≤ 6
  · have d1 : decide ((p.length : Int) ≤ 6) = true := decide_eq_true (by omega)
    rw [decide_eq_true hl]
    go_enter Tryz.func22, Tryz.ntmps22
    go_wp2_with (go_at_call 44; refine (hcon _ (Ext.refl _)).mono ?_; rintro e w' ⟨rfl, hx⟩)
    go_ret
    exact ⟨rfl, hx⟩
  · have d1 : decide ((p.length : Int) ≤ 6) = false := decide_eq_false (by omega)
    rw [decide_eq_false hl]
    go_enter Tryz.func22, Tryz.ntmps22
    go_wp2_with fail
    go_ret
    exact ⟨rfl, Ext.refl w⟩
end Go.Proofs.YtckigoeomkphhaaGreat

namespace Go.Proofs.YtckigoeomkphhaaGreat.Rg
open Go.RowKit

/-- A way in which memory may turn. -/
structure Step where
  rel : World → World → Prop
  refl : ∀ w : World, rel w w
  trans : ∀ {a b c : World}, rel a b → rel b c → rel a c
  drew : ∀ w : World, rel w w.drew

section
variable {P : Program} (S : Step)

/-- What an operation must come to: no panic, memory only grows, its value has its fact. -/
def endQ (F : Value → World → Prop) (o : Oper) (a : Act) (w : World) : Exit → Act → World → Prop :=
  fun e a' w' => e = .normal ∧ S.rel w w' ∧ a'.defers = a.defers ∧ F (match o.dst with | some d => a'.tmps.getD d undef | none => undef) w'

def Ob (P : Program) (ops : Array Oper) (F : Nat → Value → World → Prop) (a0 : Act) (w0 : World) (i : Nat) (o : Oper) (D : List (Nat × Tmp)) : Prop :=
  ∀ w, S.rel w0 w → depsThen F w D a0 (fun a => wpList P ops (endQ S (F i) o a w) [o] a w)

def Obs (P : Program) (ops : Array Oper) (F : Nat → Value → World → Prop) (a0 : Act) (w0 : World) : Nat → List Oper → List (List (Nat × Tmp)) → Prop
  | _, [], _ => True
  | i, o :: os, D => Ob S P ops F a0 w0 i o (D.headD []) ∧ Obs P ops F a0 w0 (i + 1) os D.tail


theorem Obs_get {ops : Array Oper} {F : Nat → Value → World → Prop} {a0 : Act} {w0 : World} : ∀ {l : List Oper} {k : Nat} {D : List (List (Nat × Tmp))}, Obs S P ops F a0 w0 k l D →
    ∀ i o, l[i]? = some o → Ob S P ops F a0 w0 (k + i) o (D.getD i [])
  | [], _, _, _, _, _, h => by simp at h
  | o :: os, k, D, hb, i, o', h => by
    simp only [Obs] at hb
    cases i with
    | zero => simp at h; subst h; cases D <;> simpa using hb.1
    | succ i =>
      have := Obs_get hb.2 i o' (by simpa using h)
      cases D <;> simpa [Nat.add_assoc, Nat.add_comm 1 i] using this

structure Inv (ops : Array Oper) (F : Nat → Value → World → Prop) (a0 : Act) (w0 : World) (listed : Array Bool) (a : Act) (w : World) : Prop where
  size : listed.size = ops.size
  ts : a.tmps.size = a0.tmps.size
  df : a.defers = a0.defers
  old : ∀ s, (∀ j, dstOf ops j = some s → listed.getD j false = false) → a.tmps.getD s undef = a0.tmps.getD s undef
  fact : ∀ j, j < ops.size → listed.getD j false = true → F j (match dstOf ops j with | some d => a.tmps.getD d undef | none => undef) w
  down : ∀ j, listed.getD j false = true → ∀ i, waits ops j i = true → listed.getD i false = true
  ext : S.rel w0 w

theorem region_any {ops : Array Oper} {F : Nat → Value → World → Prop} {a0 : Act} {w0 : World} {D : List (List (Nat × Tmp))} {E : List (Nat × Tmp)} {Q : Exit → Act → World → Prop}
    (hok : opsOk ops a0.tmps.size 0 ops.toList D = true) (hE : endOk ops E = true)
    (hst : ∀ i v w w', S.rel w w' → F i v w → F i v w')
    (hob : Obs S P ops F a0 w0 0 ops.toList D)
    (hend : ∀ w, S.rel w0 w → depsThen F w E a0 (fun a => Q .normal a w)) :
    ∀ (fuel : Nat) (listed : Array Bool) (a : Act) (w : World), listed.count false = fuel → Inv S ops F a0 w0 listed a w → wpAny P .any ops Q fuel listed a w := by
  have hall : ∀ {i o}, ops[i]? = some o → opOk ops a0.tmps.size i o (D.getD i []) = true := fun {i o} h => by
    have := opsOk_get hok i o (by simpa using h); simpa using this
  have hobs : ∀ {i o}, ops[i]? = some o → Ob S P ops F a0 w0 i o (D.getD i []) := fun {i o} h => by
    have := Obs_get S hob i o (by simpa using h); simpa using this
  -- all that are listed: the end
  have fin : ∀ (listed : Array Bool) (a : Act) (w : World), (∀ j, j < ops.size → listed.getD j false = true) → Inv S ops F a0 w0 listed a w → Q .normal a w := by
    intro listed a w hl hI
    simp only [endOk, Bool.and_eq_true] at hE
    have hdl : ∀ {j d}, dstOf ops j = some d → j < ops.size := fun {j d} hj => by
      unfold dstOf at hj
      rcases Nat.lt_or_ge j ops.size with h' | h'
      · exact h'
      · rw [Array.getElem?_eq_none h'] at hj; cases hj
    obtain ⟨c, hk, hc1, hc2, hc3⟩ := depsThen_at a _ E a0 hI.ts.symm (fun p hp => by
      have hd : dstOf ops p.1 = some p.2 := by simpa using List.all_eq_true.1 hE.1 p hp
      have := hI.fact p.1 (hdl hd) (hl p.1 (hdl hd))
      simp only [hd] at this
      exact this) (hend w hI.ext)
    have : c = a := by
      obtain ⟨ct, cd⟩ := c
      obtain ⟨at', ad⟩ := a
      have e2 : cd = ad := hc2.trans hI.df.symm
      have e1 : ct = at' := by
        apply Array.ext_getElem?
        intro s
        refine tmps_ext (a := ⟨ct, cd⟩) (b := ⟨at', ad⟩) hc1 ?_
        rw [hc3]
        split
        · rfl
        · rename_i hn
          refine (hI.old s fun j hj => ?_).symm
          exfalso
          have h2 := List.all_eq_true.1 hE.2 j (List.mem_range.2 (hdl hj))
          simp only [hj, List.any_eq_true, beq_iff_eq] at h2
          obtain ⟨p, hp, hpj⟩ := h2
          have hd : dstOf ops p.1 = some p.2 := by simpa using List.all_eq_true.1 hE.1 p hp
          rw [hpj, hj] at hd
          exact hn ⟨p, hp, (Option.some.inj hd).symm⟩
      rw [e1, e2]
    rw [← this]; exact hk
  -- nothing ready: all are listed
  have noReady : ∀ (listed : Array Bool), listed.size = ops.size → Region.ready .any ops listed = [] → ∀ j, j < ops.size → listed.getD j false = true := by
    intro listed hs hr j
    induction j using Nat.strongRecOn with
    | _ j ih =>
      intro hj
      cases hlj : listed.getD j false with
      | true => rfl
      | false =>
        exfalso
        have ho : ops[j]? = some ops[j] := by simp [hj]
        have hmem : j ∈ Region.ready .any ops listed := by
          refine mem_ready.2 ⟨?_, ops[j], ho, fun e he hb => ?_⟩
          · have : j < listed.size := hs ▸ hj
            simp [this] at hlj ⊢; exact hlj
          · have h1 := hall ho
            simp only [opOk, Bool.and_eq_true] at h1
            have h2 := (Array.all_eq_true_iff_forall_mem.1 h1.1.2) e he
            simp [hb] at h2
            exact ih e.on h2 (by omega)
        rw [hr] at hmem
        cases hmem
  intro fuel
  induction fuel with
  | zero =>
    intro listed a w hc hI
    have hl : ∀ j, j < ops.size → listed.getD j false = true := by
      intro j hj
      have hj' : j < listed.size := hI.size ▸ hj
      have := Array.count_eq_zero.1 hc
      have h2 : listed[j] ≠ false := fun e => this (e ▸ Array.getElem_mem hj')
      simp [hj']; simpa using h2
    refine ⟨?_, fin listed a w hl hI⟩
    cases hr : Region.ready .any ops listed with
    | nil => rfl
    | cons i rs =>
      have hm : i ∈ Region.ready .any ops listed := by rw [hr]; exact List.mem_cons_self
      obtain ⟨h0, o, ho, _⟩ := mem_ready.1 hm
      have hi : i < ops.size := (Array.getElem?_eq_some_iff.1 ho).1
      have h1 := hl i hi
      have hi' : i < listed.size := hI.size ▸ hi
      simp [hi'] at h0 h1
      rw [h0] at h1; cases h1
  | succ fuel ih =>
    intro listed a w hc hI
    refine ⟨fun hr => fin listed a w (noReady listed hI.size hr) hI, fun i hi => ?_⟩
    obtain ⟨h0, o, ho, hafter⟩ := mem_ready.1 hi
    have hil : i < ops.size := (Array.getElem?_eq_some_iff.1 ho).1
    have hil' : i < listed.size := hI.size ▸ hil
    have h0' : listed.getD i false = false := by simp [hil'] at h0 ⊢; exact h0
    have hopk := hall ho
    simp only [opOk, Bool.and_eq_true] at hopk
    obtain ⟨⟨⟨⟨hk1, hk2⟩, hk3⟩, hk4⟩, hk5⟩ := hopk
    have hdep2 : ∀ p ∈ D.getD i [], waits ops i p.1 = true ∧ dstOf ops p.1 = some p.2 := fun p hp => by
      have := List.all_eq_true.1 hk3 p hp
      simpa using this
    have hdeps : ∀ p ∈ D.getD i [], listed.getD p.1 false = true := fun p hp => waits_of_ready hi p.1 (hdep2 p hp).1
    have hsel : ∀ cs b, o.op ≠ .select cs b := by intro cs b e; rw [e] at hk2; cases hk2
    have hjlt : ∀ j, listed.getD j false = true → j < ops.size := fun j hj => by
      rcases Nat.lt_or_ge j listed.size with h' | h'
      · exact hI.size ▸ h'
      · simp [Array.getElem?_eq_none h'] at hj
    obtain ⟨c, hk, hc1, hc2, hc3⟩ := depsThen_at a _ (D.getD i []) a0 hI.ts.symm (fun p hp => by
      have := hI.fact p.1 (hjlt p.1 (hdeps p hp)) (hdeps p hp)
      simp only [(hdep2 p hp).2] at this
      exact this) (hobs ho w hI.ext)
    -- what the operation looks at stands in 'c' as in 'a'
    have same : ∀ s ∈ o.looksAt ops, c.tmps[s]? = a.tmps[s]? := by
      intro s hs
      refine tmps_ext hc1 ?_
      rw [hc3]
      split
      · rfl
      · rename_i hn
        refine (hI.old s fun j hj => ?_).symm
        have hjl : j < ops.size := by
          unfold dstOf at hj
          rcases Nat.lt_or_ge j ops.size with h' | h'
          · exact h'
          · rw [Array.getElem?_eq_none h'] at hj; cases hj
        have h1 := List.all_eq_true.1 (List.all_eq_true.1 hk5 s hs) j (List.mem_range.2 hjl)
        simp only [Bool.or_eq_true, bne_iff_ne, ne_eq, beq_iff_eq] at h1
        rcases h1 with ((h1 | h1) | h1) | h1
        · exact absurd hj h1
        · exfalso
          rw [List.any_eq_true] at h1
          obtain ⟨p, hp, hpj⟩ := h1
          have hd := (hdep2 p hp).2
          rw [eq_of_beq hpj, hj] at hd
          exact hn ⟨p, hp, (Option.some.inj hd).symm⟩
        · rw [h1]; exact h0'
        · cases hlj : listed.getD j false with
          | false => rfl
          | true => have := hI.down j hlj i h1; rw [h0'] at this; cases this
    have heval : execOp c.eval o = execOp a.eval o := execOp_congr o hsel fun x hx => by
      cases x with
      | tmp t =>
        have := same t (List.mem_append_left _ (List.mem_filterMap.2 ⟨.tmp t, by simpa using hx, rfl⟩))
        simp [Act.eval, this]
      | _ => rfl
    have hwant : Region.wanted o (yielded ops c.tmps) = Region.wanted o (yielded ops a.tmps) := by
      unfold Region.wanted
      cases hg : o.guard with
      | none => rfl
      | some gw =>
        obtain ⟨g, want⟩ := gw
        have hy : yielded ops c.tmps g = yielded ops a.tmps g := by
          unfold yielded
          cases ht : (ops[g]?).bind (·.dst) with
          | none => rfl
          | some t =>
            have := same t (by simp [Oper.looksAt, hg, ht])
            simp [this]
        simp only [hy]
    -- the invariant behind the operation
    have next : ∀ v w', S.rel w w' → F i (match o.dst with | some d => (c.put o.dst v).tmps.getD d undef | none => undef) w' →
        wpAny P .any ops Q fuel (listed.setIfInBounds i true) (a.put o.dst v) w' := by
      intro v w' hx hF
      have hdst : dstOf ops i = o.dst := by simp [dstOf, ho]
      refine ih _ _ _ ?_ ⟨by simpa using hI.size, by rw [put_size]; exact hI.ts, by rw [put_defers]; exact hI.df, ?_, ?_, ?_, S.trans hI.ext hx⟩
      · have hset : listed.setIfInBounds i true = listed.set i true hil' := by simp [Array.setIfInBounds, hil']
        rw [hset, Array.count_set]
        have : listed[i] = false := by simpa [hil'] using h0'
        simp [this]; omega
      · intro s hs
        have hne : o.dst ≠ some s := fun e => by
          have := hs i (hdst.trans e)
          simp [hil'] at this
        rw [put_getD_ne _ hne]
        refine hI.old s fun j hj => ?_
        by_cases hji : i = j
        · rw [← hji]; exact h0'
        · have := hs j hj
          rwa [getD_set_ne false hji] at this
      · intro j hj hlj
        by_cases hji : i = j
        · subst hji
          rw [hdst]
          cases hd : o.dst with
          | none => simp only [hd] at hF; exact hF
          | some d =>
            simp only [hd] at hF hk1
            simp only [Bool.and_eq_true, decide_eq_true_eq] at hk1
            rw [put_getD_eq _ (by rw [hc1, hI.ts]; exact hk1.1)] at hF
            show F i ((a.put (some d) v).tmps.getD d undef) w'
            rw [put_getD_eq _ (by rw [hI.ts]; exact hk1.1)]
            exact hF
        · rw [getD_set_ne false hji] at hlj
          have hfj := hst _ _ _ _ hx (hI.fact j hj hlj)
          cases hdj : dstOf ops j with
          | none => simp only [hdj] at hfj; exact hfj
          | some d =>
            simp only [hdj] at hfj
            have hne : o.dst ≠ some d := fun e => by
              rw [e] at hk1
              simp only [Bool.and_eq_true] at hk1
              have := List.all_eq_true.1 hk1.2 j (List.mem_range.2 hj)
              simp [hdj, Ne.symm hji] at this
            show F j ((a.put o.dst v).tmps.getD d undef) w'
            rw [put_getD_ne _ hne]
            exact hfj
      · intro j hlj k hw
        by_cases hji : i = j
        · subst hji; exact getD_set_true (waits_of_ready hi k hw)
        · rw [getD_set_ne false hji] at hlj
          exact getD_set_true (hI.down j hlj k hw)
    -- the operation itself
    unfold wpOp
    rw [ho]
    simp only []
    rw [← hwant]
    simp only [wpList] at hk
    split
    · rename_i hw
      rw [if_pos hw] at hk
      rcases hk with hk | ⟨_, x, y, hxy⟩
      · refine .inl ?_
        unfold Oper.wp at hk ⊢
        rw [heval] at hk
        generalize (execOp a.eval o).run P w = r at *
        cases r with
        | ok n w' =>
          cases n <;> simp only [Oper.upon] at hk ⊢
          case value u => exact next u w' hk.2.1 hk.2.2.2
          case skip => exact next undef w' hk.2.1 hk.2.2.2
          case defer d =>
            have := hk.2.2.1
            rw [put_defers] at this
            exact absurd this (by simp)
          case enter f args =>
            refine Calls.mono hk fun e w'' he => ?_
            cases e with
            | returned u => exact next u w'' he.2.1 he.2.2.2
            | panicked c => exact absurd he.1 (by simp)
            | outgrown => obtain ⟨_, _, h⟩ := he; exact absurd h.1 (by simp)
          case row row args => exact Rows.mono hk fun u w'' he => next u w'' he.2.1 he.2.2.2
        | halt x w' =>
          cases x <;> simp only [Oper.upon] at hk ⊢
          case panic u => exact absurd hk.1 (by simp)
      · exact absurd hxy.1 (by simp)
    · rename_i hw
      rw [if_neg hw] at hk
      exact next undef w hk.2.1 hk.2.2.2

/-- A fact on a value that stays true while memory only grows. -/
structure Fact where
  p : Value → World → Prop
  st : ∀ v w w', S.rel w w' → p v w → p v w'

def Fact.any : Fact S := ⟨fun _ _ => True, fun _ _ _ _ h => h⟩
def Fact.eq (u : Value) : Fact S := ⟨fun v _ => v = u, fun _ _ _ _ h => h⟩
/-- The facts of the operations in order. -/
def factAt (Fs : List (Fact S)) (i : Nat) : Value → World → Prop := (Fs.getD i (Fact.any S)).p

/-- A REGION THAT DRAWS ITS ORDER: each operation is shown once, over the facts of those that it waits for (D: for each operation their numbers and slots; E: of all). -/
theorem wp_region_facts {id : Nat} {l : List Oper} (Fs : List (Fact S)) (D : List (List (Nat × Tmp))) (E : List (Nat × Tmp)) {a0 : Act} {w0 : World} {Q : Exit → Act → World → Prop}
    (hm : P.follows .mixedOrders = true)
    (hok : (opsOk l.toArray a0.tmps.size 0 l D && endOk l.toArray E) = true)
    (hob : Obs S P l.toArray (factAt S Fs) a0 w0 0 l D)
    (hend : ∀ w, S.rel w0 w → depsThen (factAt S Fs) w E a0 (fun a => Q .normal a w)) :
    (Code.region id l.toArray true).wp P Q a0 w0 := by
  simp only [Bool.and_eq_true] at hok
  refine wp_region_any hm (region_any S (F := factAt S Fs) (D := D) (E := E) (w0 := w0) (by simpa using hok.1) hok.2 (fun i v w w' hx h => (Fs.getD i (Fact.any S)).st v w w' hx h) (by simpa using hob) hend _ _ _ _ ?_ ?_)
  · simp
  · have hno : ∀ j, (Array.replicate l.toArray.size false).getD j false = false := fun j => by
      simp only [Array.getD_eq_getD_getElem?, Array.getElem?_replicate]; split <;> rfl
    exact ⟨by simp, rfl, rfl, fun _ _ => rfl, fun j _ h => (by rw [hno] at h; cases h), fun j h => (by rw [hno] at h; cases h), S.drew w0⟩

theorem ob_val {F : Value → World → Prop} {ops : Array Oper} {a : Act} {w w' : World} {o : Oper} {v : Value} {d : Nat}
    (hw : Region.wanted o (yielded ops a.tmps) = true) (hr : (execOp a.eval o).run P w = .ok (.value v) w') (hx : S.rel w w') (hd : o.dst = some d) (hs : decide (d < a.tmps.size) = true) (hf : F v w') :
    wpList P ops (endQ S F o a w) [o] a w := by
  refine wpList_val hw hr (wpList_nil ⟨rfl, hx, put_defers _ _ _, ?_⟩)
  rw [hd]
  show F ((a.put (some d) v).tmps.getD d undef) w'
  rw [put_getD_eq _ (of_decide_eq_true hs)]; exact hf
theorem ob_move {F : Value → World → Prop} {ops : Array Oper} {a : Act} {w : World} {o : Oper} {x : Operand} {d : Nat}
    (hw : Region.wanted o (yielded ops a.tmps) = true) (ho : o.op = .move x) (hd : o.dst = some d) (hs : decide (d < a.tmps.size) = true) (hf : F (a.eval x) w) :
    wpList P ops (endQ S F o a w) [o] a w := ob_val S hw (by simp [execOp, ho]) (S.refl w) hd hs hf
theorem ob_assign {F : Value → World → Prop} {ops : Array Oper} {a : Act} {w : World} {o : Oper} {x : Operand} {d : Nat}
    (hw : Region.wanted o (yielded ops a.tmps) = true) (ho : o.op = .assign x) (hd : o.dst = some d) (hs : decide (d < a.tmps.size) = true) (hf : F (a.eval x) w) :
    wpList P ops (endQ S F o a w) [o] a w := ob_val S hw (by simp [execOp, ho]) (S.refl w) hd hs hf

end
end Go.Proofs.YtckigoeomkphhaaGreat.Rg
