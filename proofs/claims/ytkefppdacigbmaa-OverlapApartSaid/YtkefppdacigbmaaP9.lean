/- What pred.asks gives.
Holds, Get, Matches: the program's.
event.Get.
pred.Matches.
The reference's Holds.
The reference's Matches. -/
import Derived.Lib.Bytes2
import Derived.Lib.Strings
import Derived.Deep.CutBlock
import Derived.Test.YtkefppdacigbmaaP8
namespace Go.Proofs.Ytkefppdacigbmaa
open Go.RowKit

set_option maxRecDepth 100000 in
set_option maxHeartbeats 4000000 in
theorem asks_any (w : World) (c : C) (sa : Option Addr) (sc : Nat) (hs : SetR w (.slice sa c.set.length sc) c.set) :
    Calls Try.prog 53 #[.agg #[.string (strOf c.name), .int .i64 c.op, .int .i64 c.v.k, .int .i64 c.v.n, .string (strOf c.v.s), .bool c.v.b, .slice sa c.set.length sc]] w (AskEnd w c) := by
  have hx0 : Ext w (w.alloc (.cells #[.string (strOf c.name), .int .i64 c.op, .int .i64 c.v.k, .int .i64 c.v.n, .string (strOf c.v.s), .bool c.v.b, .slice sa c.set.length sc] 31)) := (Ext.refl w).alloc _
  have hB : CBox (w.alloc (.cells #[.string (strOf c.name), .int .i64 c.op, .int .i64 c.v.k, .int .i64 c.v.n, .string (strOf c.v.s), .bool c.v.b, .slice sa c.set.length sc] 31)) w.heap.size c sa sc := ⟨heap_alloc_new _ _, hs.ext hx0⟩
  obtain ⟨c0, c1, c2, c3, c4, c5, c6⟩ := hB.cell
  clear c0 c2 c3 c4 c5 c6
  -- the comparing ones
  have hcmp : ∀ q, (q = 100 ∨ q = 101 ∨ q = 102 ∨ q = 103 ∨ q = 104 ∨ q = 105) → (∀ v, holdsC c v = (decide (v.k = c.v.k) && tst q (cmpV v c.v))) → ∀ (W : World) (F : Nat), Ext w W → CBox W w.heap.size c sa sc → W.cell? ⟨F, 0, none⟩ = some (.func (.func q) #[] #[]) → AskEnd w c (.returned (.func (.func 98) #[] #[.pointer (some ⟨w.heap.size, 0, none⟩), .pointer (some ⟨F, 0, none⟩)])) W := fun q hq hh W F hx hb hf =>
    ⟨98, _, rfl, ent98, hx, fun W' v hx' => by rw [hh v]; exact asks98_any W' w.heap.size F q c sa sc (hb.ext hx') (hx'.cell hf) hq v.k v.n v.s v.b⟩
  have HCMP := Lib.hid hcmp
  clear hcmp
  have hB0 := hB
  have hnew : ∀ q, Ext w ((w.alloc (.cells #[.string (strOf c.name), .int .i64 c.op, .int .i64 c.v.k, .int .i64 c.v.n, .string (strOf c.v.s), .bool c.v.b, .slice sa c.set.length sc] 31)).alloc (.cells #[.func (.func q) #[] #[]] 43)) ∧ CBox ((w.alloc (.cells #[.string (strOf c.name), .int .i64 c.op, .int .i64 c.v.k, .int .i64 c.v.n, .string (strOf c.v.s), .bool c.v.b, .slice sa c.set.length sc] 31)).alloc (.cells #[.func (.func q) #[] #[]] 43)) w.heap.size c sa sc ∧ ((w.alloc (.cells #[.string (strOf c.name), .int .i64 c.op, .int .i64 c.v.k, .int .i64 c.v.n, .string (strOf c.v.s), .bool c.v.b, .slice sa c.set.length sc] 31)).alloc (.cells #[.func (.func q) #[] #[]] 43)).cell? ⟨w.heap.size + 1, 0, none⟩ = some (.func (.func q) #[] #[]) := fun q =>
    ⟨hx0.alloc _, hB.ext ((Ext.refl _).alloc _), by have h := cell_of_row (_ : World) (_ : Nat) 0 _ _ _ (heap_alloc_new (w.alloc (.cells #[.string (strOf c.name), .int .i64 c.op, .int .i64 c.v.k, .int .i64 c.v.n, .string (strOf c.v.s), .bool c.v.b, .slice sa c.set.length sc] 31)) (.cells #[.func (.func q) #[] #[]] 43)); rw [World.size_alloc] at h; exact h⟩
  have HNEW := Lib.hid hnew
  clear hnew
  by_cases h1 : c.op = 1
  · have hh : ∀ v, holdsC c v = true := fun v => by unfold holdsC; rw [if_pos h1]
    have d1 : (c.op == 1) = true := beq_iff_eq.2 h1
    have HH := Lib.hid hh
    clear h1 hh
    go_enter Try.func53, Try.ntmps53
    go_wp2_with go_in
    go_ret
    refine ⟨99, #[], rfl, ent99, hx0, fun W' v _ => ?_⟩
    rw [HH.out v]
    clear HH HNEW HCMP hB hB0 c1 hs hx0
    go_enter Try.func99, Try.ntmps99
    go_wp2
    go_ret
    exact ⟨rfl, (Ext.refl _).alloc _⟩
  have d1 := beq_int_ne h1
  by_cases h2 : c.op = 2
  · have d2 : (c.op == 2) = true := beq_iff_eq.2 h2
    have HF := Lib.hid (HCMP.out 100 (by decide) (fun v => holds_tst (by simp [h2])) _ _ (HNEW.out 100).1 (HNEW.out 100).2.1 (HNEW.out 100).2.2)
    clear h2 
    go_enter Try.func53, Try.ntmps53
    go_wp2_with go_in
    go_ret
    exact HF.out
  have d2 := beq_int_ne h2
  by_cases h3 : c.op = 3
  · have d3 : (c.op == 3) = true := beq_iff_eq.2 h3
    have HF := Lib.hid (HCMP.out 101 (by decide) (fun v => holds_tst (by simp [h3])) _ _ (HNEW.out 101).1 (HNEW.out 101).2.1 (HNEW.out 101).2.2)
    clear h3 
    go_enter Try.func53, Try.ntmps53
    go_wp2_with go_in
    go_ret
    exact HF.out
  have d3 := beq_int_ne h3
  by_cases h4 : c.op = 4
  · have d4 : (c.op == 4) = true := beq_iff_eq.2 h4
    have HF := Lib.hid (HCMP.out 102 (by decide) (fun v => holds_tst (by simp [h4])) _ _ (HNEW.out 102).1 (HNEW.out 102).2.1 (HNEW.out 102).2.2)
    clear h4 
    go_enter Try.func53, Try.ntmps53
    go_wp2_with go_in
    go_ret
    exact HF.out
  have d4 := beq_int_ne h4
  by_cases h5 : c.op = 5
  · have d5 : (c.op == 5) = true := beq_iff_eq.2 h5
    have HF := Lib.hid (HCMP.out 103 (by decide) (fun v => holds_tst (by simp [h5])) _ _ (HNEW.out 103).1 (HNEW.out 103).2.1 (HNEW.out 103).2.2)
    clear h5 
    go_enter Try.func53, Try.ntmps53
    go_wp2_with go_in
    go_ret
    exact HF.out
  have d5 := beq_int_ne h5
  by_cases h6 : c.op = 6
  · have d6 : (c.op == 6) = true := beq_iff_eq.2 h6
    have HF := Lib.hid (HCMP.out 104 (by decide) (fun v => holds_tst (by simp [h6])) _ _ (HNEW.out 104).1 (HNEW.out 104).2.1 (HNEW.out 104).2.2)
    clear h6 
    go_enter Try.func53, Try.ntmps53
    go_wp2_with go_in
    go_ret
    exact HF.out
  have d6 := beq_int_ne h6
  by_cases h7 : c.op = 7
  · have d7 : (c.op == 7) = true := beq_iff_eq.2 h7
    have HF := Lib.hid (HCMP.out 105 (by decide) (fun v => holds_tst (by simp [h7])) _ _ (HNEW.out 105).1 (HNEW.out 105).2.1 (HNEW.out 105).2.2)
    clear h7 
    go_enter Try.func53, Try.ntmps53
    go_wp2_with go_in
    go_ret
    exact HF.out
  have d7 := beq_int_ne h7
  by_cases h8 : c.op = 8
  · have hh : ∀ v, holdsC c v = _ := fun v => holds_pre h8
    have d8 : (c.op == 8) = true := beq_iff_eq.2 h8
    have HH := Lib.hid hh
    clear h8 hh
    go_enter Try.func53, Try.ntmps53
    go_wp2_with go_in
    go_ret
    exact ⟨106, _, rfl, ent106, hx0, fun W' v hx' => by rw [HH.out v]; exact asks106_any W' w.heap.size c sa sc (hB0.ext hx') v.k v.n v.s v.b⟩
  have d8 := beq_int_ne h8
  by_cases h9 : c.op = 9
  · have hh : ∀ v, holdsC c v = c.set.any fun x => decide (cmpV v x = 0) := fun v => by unfold holdsC; rw [if_neg h1, if_pos h9]
    have d9 : (c.op == 9) = true := beq_iff_eq.2 h9
    have HH := Lib.hid hh
    clear h9 hh
    go_enter Try.func53, Try.ntmps53
    go_wp2_with go_in
    go_ret
    exact ⟨108, _, rfl, ent108, hx0, fun W' v hx' => by rw [HH.out v]; exact asks108_any W' w.heap.size c sa sc (hB0.ext hx') v⟩
  have d9 := beq_int_ne h9
  have hh : ∀ v, holdsC c v = false := fun v => by
    unfold holdsC
    rw [if_neg h1, if_neg h9]
    by_cases hk : v.k = c.v.k
    · rw [if_pos hk, if_neg h2, if_neg h3, if_neg h4, if_neg h5, if_neg h6, if_neg h7, if_neg h8]
    · rw [if_neg hk]
  have HH := Lib.hid hh
  clear h1 h2 h3 h4 h5 h6 h7 h8 h9 hh
  go_enter Try.func53, Try.ntmps53
  go_wp2_with go_in
  go_ret
  refine ⟨110, #[], rfl, ent110, hx0, fun W' v _ => ?_⟩
  rw [HH.out v]
  clear HH HNEW HCMP hB hB0 c1 hs hx0 d1 d2 d3 d4 d5 d6 d7 d8 d9
  go_enter Try.func110, Try.ntmps110
  go_wp2
  go_ret
  exact ⟨rfl, (Ext.refl _).alloc _⟩

end Go.Proofs.Ytkefppdacigbmaa

namespace Go.Proofs.Ytkefppdacigbmaa
open Go.RowKit

set_option maxRecDepth 100000 in
set_option maxHeartbeats 4000000 in
theorem pholds_any (w : World) (c : C) (sa : Option Addr) (sc : Nat) (hs : SetR w (.slice sa c.set.length sc) c.set) (v : V) :
    Calls Try.prog 13 #[.agg #[.string (strOf c.name), .int .i64 c.op, .int .i64 c.v.k, .int .i64 c.v.n, .string (strOf c.v.s), .bool c.v.b, .slice sa c.set.length sc], .agg #[.int .i64 v.k, .int .i64 v.n, .string (strOf v.s), .bool v.b]] w
      fun e w' => e = .returned (.bool (holdsC c v)) ∧ Ext w w' := by
  have hx0 : Ext w ((w.alloc (.cells #[.string (strOf c.name), .int .i64 c.op, .int .i64 c.v.k, .int .i64 c.v.n, .string (strOf c.v.s), .bool c.v.b, .slice sa c.set.length sc] 31)).alloc (.cells #[.int .i64 v.k, .int .i64 v.n, .string (strOf v.s), .bool v.b] 28)) := ((Ext.refl w).alloc _).alloc _
  have hN : ((w.alloc (.cells #[.string (strOf c.name), .int .i64 c.op, .int .i64 c.v.k, .int .i64 c.v.n, .string (strOf c.v.s), .bool c.v.b, .slice sa c.set.length sc] 31)).alloc (.cells #[.int .i64 v.k, .int .i64 v.n, .string (strOf v.s), .bool v.b] 28)).heap[w.heap.size + 1]? = some (.cells #[.int .i64 v.k, .int .i64 v.n, .string (strOf v.s), .bool v.b] 28 (0, 0)) := by
    have h := heap_alloc_new (w.alloc (.cells #[.string (strOf c.name), .int .i64 c.op, .int .i64 c.v.k, .int .i64 c.v.n, .string (strOf c.v.s), .bool c.v.b, .slice sa c.set.length sc] 31)) (.cells #[.int .i64 v.k, .int .i64 v.n, .string (strOf v.s), .bool v.b] 28)
    rw [World.size_alloc] at h; exact h
  have hB : CBox ((w.alloc (.cells #[.string (strOf c.name), .int .i64 c.op, .int .i64 c.v.k, .int .i64 c.v.n, .string (strOf c.v.s), .bool c.v.b, .slice sa c.set.length sc] 31)).alloc (.cells #[.int .i64 v.k, .int .i64 v.n, .string (strOf v.s), .bool v.b] 28)) w.heap.size c sa sc :=
    (CBox.mk (heap_alloc_new _ _) (hs.ext ((Ext.refl w).alloc _))).ext ((Ext.refl _).alloc _)
  go_enter Try.func13, Try.ntmps13
  go_upto_region 1 with fail
  generalize (w.alloc (.cells #[.string (strOf c.name), .int .i64 c.op, .int .i64 c.v.k, .int .i64 c.v.n, .string (strOf c.v.s), .bool c.v.b, .slice sa c.set.length sc] 31)).alloc (.cells #[.int .i64 v.k, .int .i64 v.n, .string (strOf v.s), .bool v.b] 28) = wa at *
  have hxd : Ext wa wa.drew := (Ext.refl wa).drew
  obtain ⟨c0, c1, c2, c3, c4, c5, c6⟩ := (hB.ext hxd).cell
  have hsd := hB.s.ext hxd
  have n0 := hxd.cell (cell_of_row _ _ 0 _ _ _ hN)
  have n1 := hxd.cell (cell_of_row _ _ 1 _ _ _ hN)
  have n2 := hxd.cell (cell_of_row _ _ 2 _ _ _ hN)
  have n3 := hxd.cell (cell_of_row _ _ 3 _ _ _ hN)
  clear hN hB
  go_region_law (first | (go_simp; go_at_call 53; refine (asks_any _ c sa sc hsd).mono ?_; rintro e w2 ⟨g, cb, rfl, eg, hx2, hcl⟩; have m0 := hx2.cell n0; have m1 := hx2.cell n1; have m2 := hx2.cell n2; have m3 := hx2.cell n3) | (go_simp; go_at_fn g; refine (hcl _ v (Ext.refl _)).mono ?_; rintro e w3 ⟨rfl, hx3⟩))
  all_goals
    go_wp2_with fail
    go_ret
    exact ⟨rfl, hx0.trans (hxd.trans (hx2.trans hx3))⟩

theorem ent113 : ∀ args w, (callFunc 113 args).run Try.prog w = .ok (.enter 113 args) w := enters_of Try.func113 (by kernel_rfl) rfl
theorem ent56 : ∀ args w, (callFunc 56 args).run Try.prog w = .ok (.enter 56 args) w := enters_of Try.func56 (by kernel_rfl) rfl

/-- What event.Get answers. -/
def getV (l : List (List UInt8 × V)) (name : List UInt8) : V × Bool := match getE l name with | some v => (v, true) | none => (⟨0, 0, [], false⟩, false)

set_option maxRecDepth 100000 in
set_option maxHeartbeats 2000000 in
theorem get113_any (w : World) (B : Nat) (name : List UInt8) (h0 : w.cell? ⟨B, 0, none⟩ = some (.string (strOf name))) (x : List UInt8 × V) :
    Calls Try.prog 113 #[.agg #[.string (strOf x.1), .int .i64 x.2.k, .int .i64 x.2.n, .string (strOf x.2.s), .bool x.2.b], .pointer (some ⟨B, 0, none⟩)] w
      fun e w' => e = .returned (.bool (decide (x.1 = name))) ∧ Ext w w' := by
  have hx0 : Ext w (w.alloc (.cells #[.string (strOf x.1), .int .i64 x.2.k, .int .i64 x.2.n, .string (strOf x.2.s), .bool x.2.b] 52)) := (Ext.refl w).alloc _
  have c0 := hx0.cell h0
  by_cases h : x.1 = name
  · have hd : (x.1 == name) = true := beq_iff_eq.2 h
    rw [decide_eq_true h]
    clear h h0
    go_enter Try.func113, Try.ntmps113
    go_wp2
    go_ret
    exact ⟨rfl, hx0⟩
  · have hd : (x.1 == name) = false := beq_eq_false_iff_ne.2 h
    have hne : ¬ strOf x.1 = strOf name := fun e => h (strOf_inj.1 e)
    rw [decide_eq_false h]
    clear h h0
    go_enter Try.func113, Try.ntmps113
    go_wp2
    go_ret
    exact ⟨rfl, hx0⟩

end Go.Proofs.Ytkefppdacigbmaa

namespace Go.Proofs.Ytkefppdacigbmaa
open Go.RowKit

theorem info28s : (Try.prog.info? 28).map (·.size) = some 4 := by kernel_rfl

set_option maxRecDepth 100000 in
set_option maxHeartbeats 4000000 in
theorem get_any (w : World) (key name : List UInt8) (va : Value) (l : List (List UInt8 × V)) (h : AttrR w va l) :
    Calls Try.prog 57 #[.agg #[.string (strOf key), va], .string (strOf name)] w
      fun e w' => e = .returned (.tuple #[.agg #[.int .i64 (getV l name).1.k, .int .i64 (getV l name).1.n, .string (strOf (getV l name).1.s), .bool (getV l name).1.b], .bool (getV l name).2]) ∧ Ext w w' := by
  obtain ⟨aa, ca, rfl, hca, hma⟩ := Row.shape h
  unfold maxLen at hma
  have hx0 : Ext w (((w.alloc (.cells #[.string (strOf key), .slice aa l.length ca] 26)).alloc (.cells #[.string (strOf name)] 9)).alloc (.cells #[.int .i64 0, .int .i64 0, .string ⟨#[]⟩, .bool false] 28)) := (((Ext.refl w).alloc _).alloc _).alloc _
  have h1 : (((w.alloc (.cells #[.string (strOf key), .slice aa l.length ca] 26)).alloc (.cells #[.string (strOf name)] 9)).alloc (.cells #[.int .i64 0, .int .i64 0, .string ⟨#[]⟩, .bool false] 28)).cell? ⟨w.heap.size + 1, 0, none⟩ = some (.string (strOf name)) := by
    refine ((Ext.refl _).alloc _).cell ?_
    have h := cell_of_row _ _ 0 _ _ _ (heap_alloc_new (w.alloc (.cells #[.string (strOf key), .slice aa l.length ca] 26)) (.cells #[.string (strOf name)] 9))
    rw [World.size_alloc] at h
    exact h
  have h2 : (((w.alloc (.cells #[.string (strOf key), .slice aa l.length ca] 26)).alloc (.cells #[.string (strOf name)] 9)).alloc (.cells #[.int .i64 0, .int .i64 0, .string ⟨#[]⟩, .bool false] 28)).heap[w.heap.size + 1 + 1]? = some (.cells #[.int .i64 0, .int .i64 0, .string ⟨#[]⟩, .bool false] 28 (0, 0)) := by
    have := heap_alloc_new ((w.alloc (.cells #[.string (strOf key), .slice aa l.length ca] 26)).alloc (.cells #[.string (strOf name)] 9)) (.cells #[.int .i64 0, .int .i64 0, .string ⟨#[]⟩, .bool false] 28)
    rw [World.size_alloc, World.size_alloc] at this
    exact this
  have h3 : (((w.alloc (.cells #[.string (strOf key), .slice aa l.length ca] 26)).alloc (.cells #[.string (strOf name)] 9)).alloc (.cells #[.int .i64 0, .int .i64 0, .string ⟨#[]⟩, .bool false] 28)).cell? ⟨w.heap.size, 1, none⟩ = some (.slice aa l.length ca) := by
    exact (((Ext.refl _).alloc _).alloc _).cell (cell_of_row _ _ 1 _ _ _ (heap_alloc_new w (.cells #[.string (strOf key), .slice aa l.length ca] 26)))
  generalize hG : getV l name = G at *
  have HG := Lib.hid hG
  clear hG
  go_enter Try.func57, Try.ntmps57
  go_wp2_with fail
  have hla := h.ext hx0
  have hcl : ∀ (W : World) (x : List UInt8 × V), Ext (((w.alloc (.cells #[.string (strOf key), .slice aa l.length ca] 26)).alloc (.cells #[.string (strOf name)] 9)).alloc (.cells #[.int .i64 0, .int .i64 0, .string ⟨#[]⟩, .bool false] 28)) W → x ∈ l → Calls Try.prog 113 (#[.agg #[.string (strOf x.1), .int .i64 x.2.k, .int .i64 x.2.n, .string (strOf x.2.s), .bool x.2.b]] ++ #[.pointer (some ⟨w.heap.size + 1, 0, none⟩)]) W fun e W' => e = .returned (.bool (decide (x.1 = name))) ∧ Ext W W' :=
    fun W x hx _ => get113_any W (w.heap.size + 1) name (hx.cell h1) x
  refine (idxA_any _ _ l hla 113 #[.pointer (some ⟨w.heap.size + 1, 0, none⟩)] (fun x => decide (x.1 = name)) ent113 hcl).mono ?_
  rintro e w2 ⟨rfl, hx2⟩
  have hg := idxP_get (fun x : List UInt8 × V => decide (x.1 = name)) l
  have hB4 : w2.heap[w.heap.size + 1 + 1]? = some (.cells #[.int .i64 0, .int .i64 0, .string ⟨#[]⟩, .bool false] 28 (0, 0)) := by rw [hx2.block _ (Array.getElem?_eq_some_iff.1 h2).1]; exact h2
  have h32 := hx2.cell h3
  have hl2 := hla.ext hx2
  have hxw := hx0.trans hx2
  have HB4 := Lib.hid hB4
  clear hcl hla h1 h2 h3 hx2 hx0 hB4 h
  generalize idxP (fun x : List UInt8 × V => decide (x.1 = name)) l = ix at *
  rcases hg with ⟨rfl, hf⟩ | ⟨i, hi, rfl, hf⟩
  · have hgv : G = (⟨0, 0, [], false⟩, false) := by rw [← HG.out]; unfold getV getE; rw [hf]; rfl
    subst hgv
    clear hf
    go_wp2_with (refine wpList_store_whole 28 (.tmp 4) (.tmp 13) rfl rfl (w.heap.size + 1 + 1) rfl #[.int .i64 0, .int .i64 0, .string ⟨#[]⟩, .bool false] rfl _ 28 HB4.out rfl info28s (by simp [Value.oneCell']) ?_)
    have hR := setRow_heap _ _ _ #[.int .i64 0, .int .i64 0, .string ⟨#[]⟩, .bool false] _ _ HB4.out
    have r0 := cell_of_row _ _ 0 _ _ _ hR
    have r1 := cell_of_row _ _ 1 _ _ _ hR
    have r2 := cell_of_row _ _ 2 _ _ _ hR
    have r3 := cell_of_row _ _ 3 _ _ _ hR
    refine bodyPost_ret (v := .tuple #[.agg #[.int .i64 0, .int .i64 0, .string (strOf []), .bool false], .bool false]) (by simp [results, Try.results57, go_sem, r0, r1, r2, r3]; rfl) rfl ⟨rfl, hxw.setRow (by omega) _⟩
  · have hgv : G = (l[i].2, true) := by rw [← HG.out]; unfold getV getE; rw [hf]; rfl
    obtain ⟨B1, o1, rfl, f0, f1, f2, f3, f4⟩ := AttrR.at hl2 hi
    generalize l[i] = x at *
    subst hgv
    have hI : decide ((i : Int) < 0) = false := decide_eq_false (by omega)
    clear hf
    go_wp2_with (refine wpList_store_whole 28 (.tmp 4) (.tmp 19) rfl rfl (w.heap.size + 1 + 1) rfl #[.int .i64 x.2.k, .int .i64 x.2.n, .string (strOf x.2.s), .bool x.2.b] rfl _ 28 HB4.out rfl info28s (by simp [Value.oneCell']) ?_)
    have hR := setRow_heap _ _ _ #[.int .i64 x.2.k, .int .i64 x.2.n, .string (strOf x.2.s), .bool x.2.b] _ _ HB4.out
    have r0 := cell_of_row _ _ 0 _ _ _ hR
    have r1 := cell_of_row _ _ 1 _ _ _ hR
    have r2 := cell_of_row _ _ 2 _ _ _ hR
    have r3 := cell_of_row _ _ 3 _ _ _ hR
    refine bodyPost_ret (v := .tuple #[.agg #[.int .i64 x.2.k, .int .i64 x.2.n, .string (strOf x.2.s), .bool x.2.b], .bool true]) (by simp [results, Try.results57, go_sem, r0, r1, r2, r3]) rfl ⟨rfl, hxw.setRow (by omega) _⟩
end Go.Proofs.Ytkefppdacigbmaa

namespace Go.Proofs.Ytkefppdacigbmaa
open Go.RowKit

theorem asks_get {l : List (List UInt8 × V)} {c : C} : asksE l c = (match getV l c.name with | (v, ok) => ok && holdsC c v) := by
  unfold asksE getV
  cases getE l c.name <;> rfl

set_option maxRecDepth 100000 in
set_option maxHeartbeats 4000000 in
theorem match56_any (w : World) (B : Nat) (key : List UInt8) (aa : Option Addr) (ca : Nat) (l : List (List UInt8 × V)) (hb : w.heap[B]? = some (.cells #[.string (strOf key), .slice aa l.length ca] 26 (0, 0))) (hl : AttrR w (.slice aa l.length ca) l)
    (c : C) (sa : Option Addr) (sc : Nat) (hs : SetR w (.slice sa c.set.length sc) c.set) :
    Calls Try.prog 56 #[.agg #[.string (strOf c.name), .int .i64 c.op, .int .i64 c.v.k, .int .i64 c.v.n, .string (strOf c.v.s), .bool c.v.b, .slice sa c.set.length sc], .pointer (some ⟨B, 0, none⟩)] w
      fun e w' => e = .returned (.bool (!asksE l c)) ∧ Ext w w' := by
  have hx0 : Ext w (w.alloc (.cells #[.string (strOf c.name), .int .i64 c.op, .int .i64 c.v.k, .int .i64 c.v.n, .string (strOf c.v.s), .bool c.v.b, .slice sa c.set.length sc] 31)) := (Ext.refl w).alloc _
  have hB : CBox (w.alloc (.cells #[.string (strOf c.name), .int .i64 c.op, .int .i64 c.v.k, .int .i64 c.v.n, .string (strOf c.v.s), .bool c.v.b, .slice sa c.set.length sc] 31)) w.heap.size c sa sc := ⟨heap_alloc_new _ _, hs.ext hx0⟩
  have b0 := hx0.cell (cell_of_row _ _ 0 _ _ _ hb)
  have b1 := hx0.cell (cell_of_row _ _ 1 _ _ _ hb)
  have hl0 := hl.ext hx0
  rw [asks_get]
  generalize hG : getV l c.name = G at *
  have HG := Lib.hid hG
  clear hG hb hs hl
  go_enter Try.func56, Try.ntmps56
  go_wp2_with fail
  generalize w.alloc (.cells #[.string (strOf c.name), .int .i64 c.op, .int .i64 c.v.k, .int .i64 c.v.n, .string (strOf c.v.s), .bool c.v.b, .slice sa c.set.length sc] 31) = wa at *
  refine (get_any wa key c.name _ l hl0).mono ?_
  rw [HG.out]
  obtain ⟨⟨k, n, s, b⟩, ok⟩ := G
  rintro e w2 ⟨rfl, hx2⟩
  have hx2a := hx2.alloc (.cells #[.int .i64 k, .int .i64 n, .string (strOf s), .bool b] 28)
  obtain ⟨c0, c1, c2, c3, c4, c5, c6⟩ := (hB.ext hx2a).cell
  have hs2 := (hB.ext hx2a).s
  have hxw := hx0.trans hx2a
  cases ok
  · go_wp2_with fail
    go_ret
    exact ⟨rfl, hxw⟩
  · go_wp2_with (go_at_call 13; refine (pholds_any _ c sa sc hs2 ⟨k, n, s, b⟩).mono ?_; rintro e w3 ⟨rfl, hx3⟩)
    go_ret
    exact ⟨rfl, hxw.trans hx3⟩

set_option maxRecDepth 100000 in
set_option maxHeartbeats 2000000 in
theorem matches_any (w : World) (v : Value) (p : List C) (key : List UInt8) (va : Value) (l : List (List UInt8 × V)) (hp : PredR w v p) (hl : AttrR w va l) :
    Calls Try.prog 16 #[v, .agg #[.string (strOf key), va]] w fun e w' => e = .returned (.bool (matchP p l)) ∧ Ext w w' := by
  obtain ⟨aa, ca, rfl, hca, hma⟩ := Row.shape hl
  obtain ⟨ap, cp, rfl, hcp, hmp⟩ := hp.shape
  have hx0 : Ext w (w.alloc (.cells #[.string (strOf key), .slice aa l.length ca] 26)) := (Ext.refl w).alloc _
  have hE : (w.alloc (.cells #[.string (strOf key), .slice aa l.length ca] 26)).heap[w.heap.size]? = some (.cells #[.string (strOf key), .slice aa l.length ca] 26 (0, 0)) := heap_alloc_new _ _
  have hl0 := hl.ext hx0
  have hp0 := hp.ext hx0
  have hcon := hasC_any _ _ p hp0 56 #[.pointer (some ⟨w.heap.size, 0, none⟩)] (fun c => !asksE l c) ent56 (fun W x sa sc hx _ hs => match56_any W w.heap.size key aa ca l (by rw [hx.block _ (Array.getElem?_eq_some_iff.1 hE).1]; exact hE) (hl0.ext hx) x sa sc hs)
  have hres : matchP p l = !p.any fun c => !asksE l c := by
    have h : ∀ q : List C, q.all (asksE l) = !q.any fun c => !asksE l c := fun q => by
      induction q with
      | nil => rfl
      | cons c q ih => rw [List.all_cons, List.any_cons, ih]; cases asksE l c <;> simp
    exact h p
  rw [hres]
  clear hres hE hl0 hp0 hl hp
  generalize (p.any fun c => !asksE l c) = r at *
  go_enter Try.func16, Try.ntmps16
  go_wp2_with (go_at_call 55; refine hcon.mono ?_; rintro e w' ⟨rfl, hx⟩)
  go_ret
  exact ⟨rfl, hx0.trans hx⟩
end Go.Proofs.Ytkefppdacigbmaa

namespace Go.Proofs.Ytkefppdacigbmaa
open Go.RowKit

theorem strOf_size (l : List UInt8) : (strOf l).size = l.length := by show l.toArray.size = _; simp
theorem pre_str (s p : List UInt8) (h : p.length ≤ s.length) : (((strOf s).extract 0 (strOf p).size).toList == p) = p.isPrefixOf s := by
  have := Lib.hasPrefix_raw (strOf s) (strOf p)
  rw [strOf_toList, strOf_size, strOf_size, decide_eq_true h, Bool.true_and] at this
  rw [strOf_size, this]; rfl

theorem rcmpV_any (w : World) (a b : V) : Calls Try.prog 54 #[.agg #[.int .i64 a.k, .int .i64 a.n, .string (strOf a.s), .bool a.b], .agg #[.int .i64 b.k, .int .i64 b.n, .string (strOf b.s), .bool b.b]] w fun e w' => e = .returned (.int .i64 (cmpV a b)) ∧ Grew w w' := rcompare_any w _ _ _ _ _ _ _ _
theorem cmpV_any (w : World) (a b : V) : Calls Try.prog 23 #[.agg #[.int .i64 a.k, .int .i64 a.n, .string (strOf a.s), .bool a.b], .agg #[.int .i64 b.k, .int .i64 b.n, .string (strOf b.s), .bool b.b]] w fun e w' => e = .returned (.int .i64 (cmpV a b)) ∧ Grew w w' := compare_any w _ _ _ _ _ _ _ _

set_option maxRecDepth 100000 in
set_option maxHeartbeats 8000000 in
theorem rholds_any (w : World) (c : C) (sa : Option Addr) (sc : Nat) (hs : SetR w (.slice sa c.set.length sc) c.set) (v : V) :
    Calls Try.prog 14 #[.agg #[.string (strOf c.name), .int .i64 c.op, .int .i64 c.v.k, .int .i64 c.v.n, .string (strOf c.v.s), .bool c.v.b, .slice sa c.set.length sc], .agg #[.int .i64 v.k, .int .i64 v.n, .string (strOf v.s), .bool v.b]] w
      fun e w' => e = .returned (.bool (holdsC c v)) ∧ Ext w w' := by
  have hx0 : Ext w ((w.alloc (.cells #[.string (strOf c.name), .int .i64 c.op, .int .i64 c.v.k, .int .i64 c.v.n, .string (strOf c.v.s), .bool c.v.b, .slice sa c.set.length sc] 31)).alloc (.cells #[.int .i64 v.k, .int .i64 v.n, .string (strOf v.s), .bool v.b] 28)) := ((Ext.refl w).alloc _).alloc _
  have hN : ((w.alloc (.cells #[.string (strOf c.name), .int .i64 c.op, .int .i64 c.v.k, .int .i64 c.v.n, .string (strOf c.v.s), .bool c.v.b, .slice sa c.set.length sc] 31)).alloc (.cells #[.int .i64 v.k, .int .i64 v.n, .string (strOf v.s), .bool v.b] 28)).heap[w.heap.size + 1]? = some (.cells #[.int .i64 v.k, .int .i64 v.n, .string (strOf v.s), .bool v.b] 28 (0, 0)) := by
    have h := heap_alloc_new (w.alloc (.cells #[.string (strOf c.name), .int .i64 c.op, .int .i64 c.v.k, .int .i64 c.v.n, .string (strOf c.v.s), .bool c.v.b, .slice sa c.set.length sc] 31)) (.cells #[.int .i64 v.k, .int .i64 v.n, .string (strOf v.s), .bool v.b] 28)
    rw [World.size_alloc] at h; exact h
  have hB : CBox ((w.alloc (.cells #[.string (strOf c.name), .int .i64 c.op, .int .i64 c.v.k, .int .i64 c.v.n, .string (strOf c.v.s), .bool c.v.b, .slice sa c.set.length sc] 31)).alloc (.cells #[.int .i64 v.k, .int .i64 v.n, .string (strOf v.s), .bool v.b] 28)) w.heap.size c sa sc :=
    (CBox.mk (heap_alloc_new _ _) (hs.ext ((Ext.refl w).alloc _))).ext ((Ext.refl _).alloc _)
  obtain ⟨c0, c1, c2, c3, c4, c5, c6⟩ := hB.cell
  have n0 := cell_of_row _ _ 0 _ _ _ hN
  have n1 := cell_of_row _ _ 1 _ _ _ hN
  have n2 := cell_of_row _ _ 2 _ _ _ hN
  have n3 := cell_of_row _ _ 3 _ _ _ hN
  have hsd := hB.s
  have HB := Lib.hid hB
  clear hs hN hB
  by_cases h1 : c.op = 1
  · have hh : holdsC c v = true := by unfold holdsC; rw [if_pos h1]
    rw [hh]
    have d1 : (c.op == 1) = true := beq_iff_eq.2 h1
    clear hh h1
    go_enter Try.func14, Try.ntmps14
    go_wp2_with fail
    go_ret
    exact ⟨rfl, hx0⟩
  have d1 := beq_int_ne h1
  by_cases h9 : c.op = 9
  · have hh : holdsC c v = c.set.any fun x => decide (cmpV v x = 0) := by unfold holdsC; rw [if_neg h1, if_pos h9]
    rw [hh]
    have d9 : (c.op == 9) = true := beq_iff_eq.2 h9
    obtain ⟨_, _, es, _, hms⟩ := Row.shape hsd
    simp only [Value.slice.injEq] at es
    obtain ⟨rfl, -, rfl⟩ := es
    unfold maxLen at hms
    clear hh h1 h9
    go_enter Try.func14, Try.ntmps14
    go_wp2_with fail
    generalize (w.alloc (.cells #[.string (strOf c.name), .int .i64 c.op, .int .i64 c.v.k, .int .i64 c.v.n, .string (strOf c.v.s), .bool c.v.b, .slice sa c.set.length sc] 31)).alloc (.cells #[.int .i64 v.k, .int .i64 v.n, .string (strOf v.s), .bool v.b] 28) = wa at *
    go_loopw [5] (fun i wr => ∃ k : Nat, k ≤ c.set.length ∧ i = .int .i64 k ∧ Hid (∀ x ∈ c.set.take k, decide (cmpV v x = 0) = false) ∧ Ext wa wr) (fun i _ => c.set.length - (intOf i).toNat)
    case atStart => exact ⟨0, Nat.zero_le _, rfl, (by show ∀ x ∈ c.set.take 0, _; simp), Ext.refl _⟩
    case round =>
      obtain ⟨k, hk, rfl, hall, hx⟩ := hrel
      have g6 := hx.cell c6
      by_cases hlt : k < c.set.length
      · obtain ⟨B1, o1, rfl, f0, f1, f2, f3⟩ := SetR.at (hsd.ext hx) hlt
        have hI : decide ((k : Int) < (c.set.length : Int)) = true := decide_eq_true (by omega)
        have hhit : cmpV v c.set[k] = 0 → (c.set.any fun x => decide (cmpV v x = 0)) = true := fun e => List.any_eq_true.2 ⟨_, List.getElem_mem hlt, decide_eq_true e⟩
        have hnext : cmpV v c.set[k] ≠ 0 → ∀ x ∈ c.set.take (k + 1), decide (cmpV v x = 0) = false := fun e x hx => by
          rw [List.take_succ_eq_append_getElem hlt] at hx
          rcases List.mem_append.1 hx with hx | hx
          · exact hall.out x hx
          · rw [List.mem_singleton.1 hx]; exact decide_eq_false e
        generalize c.set[k] = x at *
        have hxd : Ext wr wr.drew := (Ext.refl wr).drew
        have q0 := (hx.trans hxd).cell n0
        have q1 := (hx.trans hxd).cell n1
        have q2 := (hx.trans hxd).cell n2
        have q3 := (hx.trans hxd).cell n3
        have q6 := hxd.cell g6
        have e0 := hxd.cell f0
        have e1 := hxd.cell f1
        have e2 := hxd.cell f2
        have e3 := hxd.cell f3
        by_cases hz : cmpV v x = 0
        · have hres := Lib.hid (hhit hz)
          have hcm := fun W => rcmpV_any W v x
          rw [hz] at hcm
          clear hz hhit hnext
          go_upto_region 7 with fail
          go_region_law (first | (go_simp; go_at_call 54; refine (hcm _).mono ?_; rintro e w2 ⟨rfl, hx2⟩))
          all_goals
            go_wp2_with fail
            go_ret
            exact ⟨by rw [hres.out]; rfl, hx0.trans (hx.trans (hxd.trans hx2.1))⟩
        · have hres := Lib.hid (hnext hz)
          have hcm := fun W => rcmpV_any W v x
          have hzz := beq_int_ne hz
          generalize cmpV v x = r at *
          clear hz hhit hnext
          go_upto_region 7 with fail
          go_region_law (first | (go_simp; go_at_call 54; refine (hcm _).mono ?_; rintro e w2 ⟨rfl, hx2⟩))
          all_goals
            go_wp2_with fail
            go_roundw
            case rel => exact ⟨k + 1, hlt, by go_num, hres, hx.trans (hxd.trans hx2.1)⟩
            case measure => simp [intOf]; omega
      · obtain rfl : k = c.set.length := by omega
        have hI : decide ((c.set.length : Int) < (c.set.length : Int)) = false := decide_eq_false (by omega)
        have hres : Hid ((c.set.any fun x => decide (cmpV v x = 0)) = false) := by
          show _ = _
          refine List.any_eq_false.2 fun x hx => ?_
          have := hall.out x (by rw [List.take_length]; exact hx)
          simpa using this
        go_wp2_with fail
        go_ret
        exact ⟨by rw [hres.out]; rfl, hx0.trans hx⟩
  have d9 := beq_int_ne h9
  by_cases hk : v.k = c.v.k
  · have dk : (v.k != c.v.k) = false := by simp [hk]
    have hcm := fun W => rcmpV_any W v c.v
    by_cases h2 : c.op = 2
    · have hh : holdsC c v = decide (cmpV v c.v = 0) := by unfold holdsC; rw [if_neg h1, if_neg h9, if_pos hk, if_pos h2]
      rw [hh]
      have d2 : (c.op == 2) = true := beq_iff_eq.2 h2
      clear hh h1 h9 h2 hk
      generalize cmpV v c.v = r at *
      go_enter Try.func14, Try.ntmps14
      go_wp2_with (go_at_call 54; refine (hcm _).mono ?_; rintro e w2 ⟨rfl, hx2⟩; have x1 := hx2.1.cell c1)
      go_ret
      exact ⟨by rw [← beq_dec]; rfl, hx0.trans hx2.1⟩
    have d2 := beq_int_ne h2
    by_cases h3 : c.op = 3
    · have hh : holdsC c v = !decide (cmpV v c.v = 0) := by unfold holdsC; rw [if_neg h1, if_neg h9, if_pos hk, if_neg h2, if_pos h3]
      rw [hh]
      have d3 : (c.op == 3) = true := beq_iff_eq.2 h3
      clear hh h1 h9 h3 hk
      generalize cmpV v c.v = r at *
      go_enter Try.func14, Try.ntmps14
      go_wp2_with (go_at_call 54; refine (hcm _).mono ?_; rintro e w2 ⟨rfl, hx2⟩; have x1 := hx2.1.cell c1)
      go_ret
      exact ⟨by rw [← beq_dec]; rfl, hx0.trans hx2.1⟩
    have d3 := beq_int_ne h3
    by_cases h4 : c.op = 4
    · have hh : holdsC c v = decide (cmpV v c.v < 0) := by unfold holdsC; rw [if_neg h1, if_neg h9, if_pos hk, if_neg h2, if_neg h3, if_pos h4]
      rw [hh]
      have d4 : (c.op == 4) = true := beq_iff_eq.2 h4
      clear hh h1 h9 h4 hk
      generalize cmpV v c.v = r at *
      go_enter Try.func14, Try.ntmps14
      go_wp2_with (go_at_call 54; refine (hcm _).mono ?_; rintro e w2 ⟨rfl, hx2⟩; have x1 := hx2.1.cell c1)
      go_ret
      exact ⟨rfl, hx0.trans hx2.1⟩
    have d4 := beq_int_ne h4
    by_cases h5 : c.op = 5
    · have hh : holdsC c v = decide (cmpV v c.v ≤ 0) := by unfold holdsC; rw [if_neg h1, if_neg h9, if_pos hk, if_neg h2, if_neg h3, if_neg h4, if_pos h5]
      rw [hh]
      have d5 : (c.op == 5) = true := beq_iff_eq.2 h5
      clear hh h1 h9 h5 hk
      generalize cmpV v c.v = r at *
      go_enter Try.func14, Try.ntmps14
      go_wp2_with (go_at_call 54; refine (hcm _).mono ?_; rintro e w2 ⟨rfl, hx2⟩; have x1 := hx2.1.cell c1)
      go_ret
      exact ⟨rfl, hx0.trans hx2.1⟩
    have d5 := beq_int_ne h5
    by_cases h6 : c.op = 6
    · have hh : holdsC c v = decide (0 < cmpV v c.v) := by unfold holdsC; rw [if_neg h1, if_neg h9, if_pos hk, if_neg h2, if_neg h3, if_neg h4, if_neg h5, if_pos h6]
      rw [hh]
      have d6 : (c.op == 6) = true := beq_iff_eq.2 h6
      clear hh h1 h9 h6 hk
      generalize cmpV v c.v = r at *
      go_enter Try.func14, Try.ntmps14
      go_wp2_with (go_at_call 54; refine (hcm _).mono ?_; rintro e w2 ⟨rfl, hx2⟩; have x1 := hx2.1.cell c1)
      go_ret
      exact ⟨rfl, hx0.trans hx2.1⟩
    have d6 := beq_int_ne h6
    by_cases h7 : c.op = 7
    · have hh : holdsC c v = decide (0 ≤ cmpV v c.v) := by unfold holdsC; rw [if_neg h1, if_neg h9, if_pos hk, if_neg h2, if_neg h3, if_neg h4, if_neg h5, if_neg h6, if_pos h7]
      rw [hh]
      have d7 : (c.op == 7) = true := beq_iff_eq.2 h7
      clear hh h1 h9 h7 hk
      generalize cmpV v c.v = r at *
      go_enter Try.func14, Try.ntmps14
      go_wp2_with (go_at_call 54; refine (hcm _).mono ?_; rintro e w2 ⟨rfl, hx2⟩; have x1 := hx2.1.cell c1)
      go_ret
      exact ⟨rfl, hx0.trans hx2.1⟩
    have d7 := beq_int_ne h7
    by_cases h8 : c.op = 8
    · have d8 : (c.op == 8) = true := beq_iff_eq.2 h8
      by_cases hk2 : v.k = 2
      · have hh : holdsC c v = c.v.s.isPrefixOf v.s := by
          rw [holds_pre h8, decide_eq_true hk2, decide_eq_true (by omega : c.v.k = 2)]; rfl
        rw [hh]
        have dk2 : (v.k == 2) = true := beq_iff_eq.2 hk2
        clear hh h1 h2 h3 h4 h5 h6 h7 h8 h9 hk hk2
        generalize cmpV v c.v = r at *
        go_enter Try.func14, Try.ntmps14
        go_upto_region 28 with (go_at_call 54; refine (hcm _).mono ?_; rintro e w2 ⟨rfl, hx2⟩; have x1 := hx2.1.cell c1; have x4 := hx2.1.cell c4; have y0 := hx2.1.cell n0; have y2 := hx2.1.cell n2)
        by_cases hle : c.v.s.length ≤ v.s.length
        · have hI : decide (((strOf c.v.s).size : Int) ≤ ((strOf v.s).size : Int)) = true := decide_eq_true (by rw [strOf_size, strOf_size]; omega)
          have hI2 : (strOf c.v.s).size ≤ (strOf v.s).size := by rw [strOf_size, strOf_size]; exact hle
          have hP := pre_str v.s c.v.s hle
          generalize hR : c.v.s.isPrefixOf v.s = R at hP
          go_quiet (fail)
          go_wp2_with fail
          go_ret
          exact ⟨by rw [hR]; rfl, (hx0.trans hx2.1).drewN _⟩
        · have hI : decide (((strOf c.v.s).size : Int) ≤ ((strOf v.s).size : Int)) = false := decide_eq_false (by rw [strOf_size, strOf_size]; omega)
          have hP : c.v.s.isPrefixOf v.s = false := by
            cases hq : c.v.s.isPrefixOf v.s with
            | false => rfl
            | true => exact absurd (Lib.hasPrefix_le (s := v.s) (p := c.v.s) hq) hle
          have hI2 : decide ((strOf c.v.s).size ≤ (strOf v.s).size) = false := decide_eq_false (by rw [strOf_size, strOf_size]; exact hle)
          have hI3 : ¬ (strOf c.v.s).size ≤ (strOf v.s).size := by rw [strOf_size, strOf_size]; exact hle
          go_quiet (fail)
          go_wp2_with fail
          go_ret
          exact ⟨by rw [hP]; rfl, (hx0.trans hx2.1).drewN _⟩
      · have hh : holdsC c v = false := by
          rw [holds_pre h8, decide_eq_false hk2]; rfl
        rw [hh]
        have dk2 : (v.k == 2) = false := beq_eq_false_iff_ne.2 hk2
        clear hh h1 h2 h3 h4 h5 h6 h7 h8 h9 hk hk2
        generalize cmpV v c.v = r at *
        go_enter Try.func14, Try.ntmps14
        go_upto_region 28 with (go_at_call 54; refine (hcm _).mono ?_; rintro e w2 ⟨rfl, hx2⟩; have x1 := hx2.1.cell c1; have x4 := hx2.1.cell c4; have y0 := hx2.1.cell n0; have y2 := hx2.1.cell n2)
        go_quiet (fail)
        go_wp2_with fail
        go_ret
        exact ⟨rfl, (hx0.trans hx2.1).drewN _⟩
    have d8 := beq_int_ne h8
    have hh : holdsC c v = false := by unfold holdsC; rw [if_neg h1, if_neg h9, if_pos hk, if_neg h2, if_neg h3, if_neg h4, if_neg h5, if_neg h6, if_neg h7, if_neg h8]
    rw [hh]
    clear hh h1 h2 h3 h4 h5 h6 h7 h8 h9 hk
    generalize cmpV v c.v = r at *
    go_enter Try.func14, Try.ntmps14
    go_wp2_with (go_at_call 54; refine (hcm _).mono ?_; rintro e w2 ⟨rfl, hx2⟩; have x1 := hx2.1.cell c1)
    go_ret
    exact ⟨rfl, hx0.trans hx2.1⟩
  · have hh : holdsC c v = false := by unfold holdsC; rw [if_neg h1, if_neg h9, if_neg hk]
    rw [hh]
    have dk : (v.k != c.v.k) = true := by simp [hk]
    clear hh h1 h9 hk
    go_enter Try.func14, Try.ntmps14
    go_wp2_with fail
    go_ret
    exact ⟨rfl, hx0⟩
end Go.Proofs.Ytkefppdacigbmaa

namespace Go.Proofs.Ytkefppdacigbmaa
open Go.RowKit

theorem find_take {l : List (List UInt8 × V)} {name : List UInt8} {j : Nat} (h : ∀ x ∈ l.take j, x.1 ≠ name) : getE l name = getE (l.drop j) name := by
  unfold getE
  conv => lhs; rw [← List.take_append_drop j l]
  rw [List.find?_append, List.find?_eq_none.2 (fun x hx => by simpa using h x hx)]
  rfl
theorem asks_none {l : List (List UInt8 × V)} {c : C} (h : ∀ x ∈ l.take l.length, x.1 ≠ c.name) : asksE l c = false := by
  unfold asksE
  rw [find_take h, List.drop_length]; rfl
theorem asks_some {l : List (List UInt8 × V)} {c : C} {j : Nat} (hj : j < l.length) (h : ∀ x ∈ l.take j, x.1 ≠ c.name) (he : l[j].1 = c.name) : asksE l c = holdsC c l[j].2 := by
  unfold asksE
  rw [find_take h, List.drop_eq_getElem_cons hj]
  unfold getE
  rw [List.find?_cons_of_pos (by simpa using he)]; rfl

set_option maxRecDepth 100000 in
set_option maxHeartbeats 8000000 in
theorem rmatches_any (w : World) (v : Value) (p : List C) (key : List UInt8) (va : Value) (l : List (List UInt8 × V)) (hp : PredR w v p) (hl : AttrR w va l) :
    Calls Try.prog 17 #[v, .agg #[.string (strOf key), va]] w fun e w' => e = .returned (.bool (matchP p l)) ∧ Ext w w' := by
  obtain ⟨aa, ca, rfl, hca, hma⟩ := Row.shape hl
  obtain ⟨ap, cp, rfl, hcp, hmp⟩ := hp.shape
  unfold maxLen at hma hmp
  have hx0 : Ext w (w.alloc (.cells #[.string (strOf key), .slice aa l.length ca] 26)) := (Ext.refl w).alloc _
  have hE : (w.alloc (.cells #[.string (strOf key), .slice aa l.length ca] 26)).heap[w.heap.size]? = some (.cells #[.string (strOf key), .slice aa l.length ca] 26 (0, 0)) := heap_alloc_new _ _
  have hE1 := cell_of_row _ _ 1 _ _ _ hE
  have hl0 := hl.ext hx0
  have hp0 := hp.ext hx0
  clear hE hl hp
  go_enter Try.func17, Try.ntmps17
  go_wp2_with fail
  generalize w.alloc (.cells #[.string (strOf key), .slice aa l.length ca] 26) = wa at *
  go_loopw [5] (fun i wr => ∃ k : Nat, k ≤ p.length ∧ i = .int .i64 k ∧ Hid (∀ c ∈ p.take k, asksE l c = true) ∧ Ext wa wr) (fun i _ => p.length - (intOf i).toNat)
  case atStart => exact ⟨0, Nat.zero_le _, rfl, (by show ∀ x ∈ p.take 0, _; simp), Ext.refl _⟩
  case round =>
    obtain ⟨k, hk, rfl, hall, hx⟩ := hrel
    by_cases hlt : k < p.length
    · have hI : decide ((k : Int) < (p.length : Int)) = true := decide_eq_true (by omega)
      have hno : asksE l p[k] = false → matchP p l = false := fun e => by
        unfold matchP
        exact List.all_eq_false.2 ⟨p[k], List.getElem_mem hlt, by rw [e]; decide⟩
      have hyes : asksE l p[k] = true → ∀ c ∈ p.take (k + 1), asksE l c = true := fun e c hc => by
        rw [List.take_succ_eq_append_getElem hlt] at hc
        rcases List.mem_append.1 hc with hc | hc
        · exact hall.out c hc
        · rw [List.mem_singleton.1 hc]; exact e
      have hpk := (hp0.ext hx).at hlt
      obtain ⟨Bp, op, sa, sc, rfl, g0, g1, g2, g3, g4, g5, g6, hgs⟩ := hpk
      generalize p[k] = c at *
      have HNO := Lib.hid hno
      have HYES := Lib.hid hyes
      clear hno hyes
      go_upto_block 2 with fail
      go_cut [6] from 13 to 33 (fun v6 wx => ∃ j : Nat, j ≤ l.length ∧ v6 = .int .i64 j ∧ Hid (∀ x ∈ l.take j, x.1 ≠ c.name) ∧ Hid (∀ h : j < l.length, l[j].1 = c.name) ∧ Ext wr wx)
      case first =>
        go_wp2_with fail
        go_loopw [6] (fun i wx => ∃ j : Nat, j ≤ l.length ∧ i = .int .i64 j ∧ Hid (∀ x ∈ l.take j, x.1 ≠ c.name) ∧ Ext wr wx) (fun i _ => l.length - (intOf i).toNat)
        case atStart => exact ⟨0, Nat.zero_le _, rfl, (by show ∀ x ∈ l.take 0, _; simp), Ext.refl _⟩
        case round =>
          rename_i wy _
          obtain ⟨j, hj, rfl, hbef, hy⟩ := hrel
          have e1 := (hx.trans hy).cell hE1
          by_cases hjl : j < l.length
          · have hI2 : decide ((j : Int) < (l.length : Int)) = true := decide_eq_true (by omega)
            obtain ⟨Ba, oa, rfl, f0, f1, f2, f3, f4⟩ := (hl0.ext (hx.trans hy)).at hjl
            have g0 := hy.cell g0
            by_cases hn : l[j].1 = c.name
            · have hd : (l[j].1 == c.name) = true := beq_iff_eq.2 hn
              have hd2 : (l[j].1 != c.name) = false := by rw [bne, hd]; rfl
              have hat : Hid (∀ h : j < l.length, l[j].1 = c.name) := fun _ => hn
              generalize l[j].1 = nm at *
              clear hn
              go_upto_region 5 with fail
              go_quiet (fail)
              go_wp2_with fail
              go_meet
              exact ⟨j, hj, rfl, hbef, hat, hy.drewN _⟩
            · have hd : (l[j].1 == c.name) = false := beq_eq_false_iff_ne.2 hn
              have hd2 : (l[j].1 != c.name) = true := by rw [bne, hd]; rfl
              have hnx : Hid (∀ x ∈ l.take (j + 1), x.1 ≠ c.name) := fun x hx => by
                rw [List.take_succ_eq_append_getElem hjl] at hx
                rcases List.mem_append.1 hx with hx | hx
                · exact hbef.out x hx
                · rw [List.mem_singleton.1 hx]; exact hn
              generalize l[j].1 = nm at *
              clear hn
              go_upto_region 5 with fail
              go_quiet (fail)
              go_wp2_with fail
              go_roundw
              case rel => exact ⟨j + 1, hjl, by go_num, hnx, hy.drewN _⟩
              case measure => simp [intOf]; omega
          · obtain rfl : j = l.length := by omega
            have hI2 : decide ((l.length : Int) < (l.length : Int)) = false := decide_eq_false (by omega)
            go_upto_region 5 with fail
            go_quiet (fail)
            go_wp2_with fail
            go_meet
            exact ⟨l.length, hj, rfl, hbef, fun h => absurd h (Nat.lt_irrefl _), hy.drewN _⟩
      case rest =>
        obtain ⟨j, hj, rfl, hbef, hat, hy⟩ := hcut
        have e1 := (hx.trans hy).cell hE1
        by_cases hjl : j < l.length
        · have hI2 : ((j : Int) == (l.length : Int)) = false := beq_eq_false_iff_ne.2 (by omega)
          obtain ⟨Ba, oa, rfl, f0, f1, f2, f3, f4⟩ := (hl0.ext (hx.trans hy)).at hjl
          have g0 := hy.cell g0
          have g1 := hy.cell g1
          have g2 := hy.cell g2
          have g3 := hy.cell g3
          have g4 := hy.cell g4
          have g5 := hy.cell g5
          have g6 := hy.cell g6
          have hgs := hgs.ext hy
          have hask : Hid (asksE l c = holdsC c l[j].2) := asks_some hjl hbef.out (hat.out hjl)
          generalize l[j] = a at *
          generalize hH : holdsC c a.2 = H at *
          have HH := Lib.hid hH
          clear hH
          go_upto_region 7 with fail
          refine wp_region_facts [Fact.eq (.int .i64 j),
              Fact.eq (.pointer (some ⟨w.heap.size, 1, none⟩)),
              Fact.eq (.slice (some ⟨Ba, oa, none⟩) l.length ca),
              Fact.eq (.int .i64 l.length),
              Fact.eq (.bool false),
              Fact.eq (.bool false),
              Fact.eq (.slice (some ⟨Bp, op, none⟩) p.length cp),
              Fact.eq (.int .i64 k),
              Fact.eq (.pointer (some ⟨Bp, op + k * 7, none⟩)),
              Fact.eq (.agg #[.string (strOf c.name), .int .i64 c.op, .int .i64 c.v.k, .int .i64 c.v.n, .string (strOf c.v.s), .bool c.v.b, .slice sa c.set.length sc]),
              Fact.eq (.pointer (some ⟨w.heap.size, 1, none⟩)),
              Fact.eq (.slice (some ⟨Ba, oa, none⟩) l.length ca),
              Fact.eq (.int .i64 j),
              Fact.eq (.pointer (some ⟨Ba, oa + j * 5, none⟩)),
              Fact.eq (.pointer (some ⟨Ba, oa + j * 5 + 1, none⟩)),
              Fact.eq (.agg #[.int .i64 a.2.k, .int .i64 a.2.n, .string (strOf a.2.s), .bool a.2.b]),
              Fact.eq (.bool H),
              Fact.eq (.bool (!H)),
              Fact.eq (.bool (!H))]
            [[], [], [(1, 35)], [(2, 36)], [(0, 34), (3, 37)], [(4, 38)], [(5, 39)], [(5, 39)], [(6, 40), (7, 41), (5, 39)], [(8, 42), (5, 39)], [(5, 39)], [(10, 44), (5, 39)], [(5, 39)], [(11, 45), (12, 46), (5, 39)], [(13, 47), (5, 39)], [(14, 48), (5, 39)], [(9, 43), (15, 49), (5, 39)], [(16, 50), (5, 39)], [(5, 39), (17, 51)]]
            [(0, 34), (1, 35), (2, 36), (3, 37), (4, 38), (5, 39), (6, 40), (7, 41), (8, 42), (9, 43), (10, 44), (11, 45), (12, 46), (13, 47), (14, 48), (15, 49), (16, 50), (17, 51), (18, 52)] (by kernel_rfl) (by kernel_rfl) ?_ ?_
          · refine ⟨?_, ?_, ?_, ?_, ?_, ?_, ?_, ?_, ?_, ?_, ?_, ?_, ?_, ?_, ?_, ?_, ?_, ?_, ?_, trivial⟩
            · intro w1 hx1; change wpList _ _ _ _ _ _; exact ob_move rfl rfl rfl rfl rfl
            · intro w1 hx1; change wpList _ _ _ _ _ _; go_wp2_with fail; exact ⟨rfl, Ext.refl _, rfl, rfl⟩
            · intro w1 hx1; rintro _ rfl; change wpList _ _ _ _ _ _; have m := hx1.cell e1; go_wp2_with fail; exact ⟨rfl, Ext.refl _, rfl, rfl⟩
            · intro w1 hx1; rintro _ rfl; change wpList _ _ _ _ _ _; go_wp2_with fail; exact ⟨rfl, Ext.refl _, rfl, rfl⟩
            · intro w1 hx1; rintro _ rfl; rintro _ rfl; change wpList _ _ _ _ _ _; go_wp2_with fail; exact ⟨rfl, Ext.refl _, rfl, rfl⟩
            · intro w1 hx1; rintro _ rfl; change wpList _ _ _ _ _ _; exact ob_move rfl rfl rfl rfl rfl
            · intro w1 hx1; rintro _ rfl; change wpList _ _ _ _ _ _; exact ob_move rfl rfl rfl rfl rfl
            · intro w1 hx1; rintro _ rfl; change wpList _ _ _ _ _ _; exact ob_move rfl rfl rfl rfl rfl
            · intro w1 hx1; rintro _ rfl; rintro _ rfl; rintro _ rfl; change wpList _ _ _ _ _ _; go_wp2_with fail; exact ⟨rfl, Ext.refl _, rfl, rfl⟩
            · intro w1 hx1; rintro _ rfl; rintro _ rfl; change wpList _ _ _ _ _ _; have m0 := hx1.cell g0; have m1 := hx1.cell g1; have m2 := hx1.cell g2; have m3 := hx1.cell g3; have m4 := hx1.cell g4; have m5 := hx1.cell g5; have m6 := hx1.cell g6; go_wp2_with fail; exact ⟨rfl, Ext.refl _, rfl, rfl⟩
            · intro w1 hx1; rintro _ rfl; change wpList _ _ _ _ _ _; go_wp2_with fail; exact ⟨rfl, Ext.refl _, rfl, rfl⟩
            · intro w1 hx1; rintro _ rfl; rintro _ rfl; change wpList _ _ _ _ _ _; have m := hx1.cell e1; go_wp2_with fail; exact ⟨rfl, Ext.refl _, rfl, rfl⟩
            · intro w1 hx1; rintro _ rfl; change wpList _ _ _ _ _ _; exact ob_move rfl rfl rfl rfl rfl
            · intro w1 hx1; rintro _ rfl; rintro _ rfl; rintro _ rfl; change wpList _ _ _ _ _ _; go_wp2_with fail; exact ⟨rfl, Ext.refl _, rfl, rfl⟩
            · intro w1 hx1; rintro _ rfl; rintro _ rfl; change wpList _ _ _ _ _ _; go_wp2_with fail; exact ⟨rfl, Ext.refl _, rfl, rfl⟩
            · intro w1 hx1; rintro _ rfl; rintro _ rfl; change wpList _ _ _ _ _ _; have m1 := hx1.cell f1; have m2 := hx1.cell f2; have m3 := hx1.cell f3; have m4 := hx1.cell f4; go_wp2_with fail; exact ⟨rfl, Ext.refl _, rfl, rfl⟩
            · intro w1 hx1; rintro _ rfl; rintro _ rfl; rintro _ rfl; change wpList _ _ _ _ _ _; go_wp2_with fail; refine (rholds_any w1 c sa sc (hgs.ext hx1) a.2).mono ?_; rw [HH.out]; rintro e w2 ⟨rfl, hx2⟩; go_wp2_with fail; exact ⟨rfl, hx2, rfl, rfl⟩
            · intro w1 hx1; rintro _ rfl; rintro _ rfl; change wpList _ _ _ _ _ _; go_wp2_with fail; exact ⟨rfl, Ext.refl _, rfl, rfl⟩
            · intro w1 hx1; rintro _ rfl; rintro _ rfl; change wpList _ _ _ _ _ _; exact ob_pick rfl rfl rfl rfl rfl rfl
          · intro w1 hx1; rintro _ rfl; rintro _ rfl; rintro _ rfl; rintro _ rfl; rintro _ rfl; rintro _ rfl; rintro _ rfl; rintro _ rfl; rintro _ rfl; rintro _ rfl; rintro _ rfl; rintro _ rfl; rintro _ rfl; rintro _ rfl; rintro _ rfl; rintro _ rfl; rintro _ rfl; rintro _ rfl; rintro _ rfl; refine depsThen_nil ?_; dsimp only; simp only [Act.put, List.setIfInBounds_toArray, List.set_cons_zero, List.set_cons_succ]
            cases H
            · go_wp2_with fail
              go_ret
              exact ⟨by rw [HNO.out hask.out]; rfl, hx0.trans (hx.trans (hy.trans hx1))⟩
            · go_wp2_with fail
              go_roundw
              case rel => exact ⟨k + 1, hlt, by go_num, HYES.out hask.out, hx.trans (hy.trans hx1)⟩
              case measure => simp [intOf]; omega
        · obtain rfl : j = l.length := by omega
          have hI2 : ((l.length : Int) == (l.length : Int)) = true := beq_self_eq_true _
          have hask : Hid (asksE l c = false) := asks_none hbef.out
          go_upto_region 7 with fail
          go_quiet (fail)
          go_wp2_with fail
          go_ret
          exact ⟨by rw [HNO.out hask.out]; rfl, hx0.trans (hx.trans (hy.drewN _))⟩
    · obtain rfl : k = p.length := by omega
      have hI : decide ((p.length : Int) < (p.length : Int)) = false := decide_eq_false (by omega)
      have hres : Hid (matchP p l = true) := by
        show _ = _
        unfold matchP
        exact List.all_eq_true.2 fun x hx => hall.out x (by rw [List.take_length]; exact hx)
      go_wp2_with fail
      go_ret
      exact ⟨by rw [hres.out]; rfl, hx0.trans hx⟩
end Go.Proofs.Ytkefppdacigbmaa
