/- What pred.asks gives.
Holds, Get, Matches: the program's.
event.Get.
pred.Matches.
The reference's Holds.
The reference's Matches. -/
import Derived.Lib.Bytes2
import Derived.Lib.Strings
import Derived.Deep.CutBlock
import Derived.Test.YtcgflkfbjnpdiaaGreatP8
namespace Go.Proofs.YtcgflkfbjnpdiaaGreat
open Go.RowKit

set_option maxRecDepth 100000 in
set_option maxHeartbeats 4000000 in
theorem asks_any (w : World) (c : C) (sa : Option Addr) (sc : Nat) (hs : SetR w (.slice sa c.set.length sc) c.set) :
    Calls Tryz.prog 107 #[.agg #[.string (strOf c.name), .int .i64 c.op, .int .i64 c.v.k, .int .i64 c.v.n, .string (strOf c.v.s), .bool c.v.b, .slice sa c.set.length sc]] w (AskEnd w c) := by
  have hx0 : Ext w (w.alloc (.cells #[.string (strOf c.name), .int .i64 c.op, .int .i64 c.v.k, .int .i64 c.v.n, .string (strOf c.v.s), .bool c.v.b, .slice sa c.set.length sc] 37)) := (Ext.refl w).alloc _
  have hB : CBox (w.alloc (.cells #[.string (strOf c.name), .int .i64 c.op, .int .i64 c.v.k, .int .i64 c.v.n, .string (strOf c.v.s), .bool c.v.b, .slice sa c.set.length sc] 37)) w.heap.size c sa sc := ⟨heap_alloc_new _ _, hs.ext hx0⟩
  obtain ⟨c0, c1, c2, c3, c4, c5, c6⟩ := hB.cell
  clear c0 c2 c3 c4 c5 c6
  -- the comparing ones
  have hcmp : ∀ q, (q = 136 ∨ q = 137 ∨ q = 138 ∨ q = 139 ∨ q = 140 ∨ q = 141) → (∀ v, holdsC c v = (decide (v.k = c.v.k) && tst q (cmpV v c.v))) → ∀ (W : World) (F : Nat), Ext w W → CBox W w.heap.size c sa sc → W.cell? ⟨F, 0, none⟩ = some (.func (.func q) #[] #[]) → AskEnd w c (.returned (.func (.func 134) #[] #[.pointer (some ⟨w.heap.size, 0, none⟩), .pointer (some ⟨F, 0, none⟩)])) W := fun q hq hh W F hx hb hf =>
    ⟨134, _, rfl, ent98, hx, fun W' v hx' => by rw [hh v]; exact asks98_any W' w.heap.size F q c sa sc (hb.ext hx') (hx'.cell hf) hq v.k v.n v.s v.b⟩
  have HCMP := Lib.hid hcmp
  clear hcmp
  have hB0 := hB
  have hnew : ∀ q, Ext w ((w.alloc (.cells #[.string (strOf c.name), .int .i64 c.op, .int .i64 c.v.k, .int .i64 c.v.n, .string (strOf c.v.s), .bool c.v.b, .slice sa c.set.length sc] 37)).alloc (.cells #[.func (.func q) #[] #[]] 125)) ∧ CBox ((w.alloc (.cells #[.string (strOf c.name), .int .i64 c.op, .int .i64 c.v.k, .int .i64 c.v.n, .string (strOf c.v.s), .bool c.v.b, .slice sa c.set.length sc] 37)).alloc (.cells #[.func (.func q) #[] #[]] 125)) w.heap.size c sa sc ∧ ((w.alloc (.cells #[.string (strOf c.name), .int .i64 c.op, .int .i64 c.v.k, .int .i64 c.v.n, .string (strOf c.v.s), .bool c.v.b, .slice sa c.set.length sc] 37)).alloc (.cells #[.func (.func q) #[] #[]] 125)).cell? ⟨w.heap.size + 1, 0, none⟩ = some (.func (.func q) #[] #[]) := fun q =>
    ⟨hx0.alloc _, hB.ext ((Ext.refl _).alloc _), by have h := cell_of_row (_ : World) (_ : Nat) 0 _ _ _ (heap_alloc_new (w.alloc (.cells #[.string (strOf c.name), .int .i64 c.op, .int .i64 c.v.k, .int .i64 c.v.n, .string (strOf c.v.s), .bool c.v.b, .slice sa c.set.length sc] 37)) (.cells #[.func (.func q) #[] #[]] 125)); rw [World.size_alloc] at h; exact h⟩
  have HNEW := Lib.hid hnew
  clear hnew
  by_cases h1 : c.op = 1
  · have hh : ∀ v, holdsC c v = true := fun v => by unfold holdsC; rw [if_pos h1]
    have d1 : (c.op == 1) = true := beq_iff_eq.2 h1
    have HH := Lib.hid hh
    clear h1 hh
    go_enter Tryz.func107, Tryz.ntmps107
    go_wp2_with go_in
    go_ret
    refine ⟨135, #[], rfl, ent99, hx0, fun W' v _ => ?_⟩
    rw [HH.out v]
    clear HH HNEW HCMP hB hB0 c1 hs hx0
    go_enter Tryz.func135, Tryz.ntmps135
    go_wp2
    go_ret
    exact ⟨rfl, (Ext.refl _).alloc _⟩
  have d1 := beq_int_ne h1
  by_cases h2 : c.op = 2
  · have d2 : (c.op == 2) = true := beq_iff_eq.2 h2
    have HF := Lib.hid (HCMP.out 136 (by decide) (fun v => holds_tst (by simp [h2])) _ _ (HNEW.out 136).1 (HNEW.out 136).2.1 (HNEW.out 136).2.2)
    clear h2 
    go_enter Tryz.func107, Tryz.ntmps107
    go_wp2_with go_in
    go_ret
    exact HF.out
  have d2 := beq_int_ne h2
  by_cases h3 : c.op = 3
  · have d3 : (c.op == 3) = true := beq_iff_eq.2 h3
    have HF := Lib.hid (HCMP.out 137 (by decide) (fun v => holds_tst (by simp [h3])) _ _ (HNEW.out 137).1 (HNEW.out 137).2.1 (HNEW.out 137).2.2)
    clear h3 
    go_enter Tryz.func107, Tryz.ntmps107
    go_wp2_with go_in
    go_ret
    exact HF.out
  have d3 := beq_int_ne h3
  by_cases h4 : c.op = 4
  · have d4 : (c.op == 4) = true := beq_iff_eq.2 h4
    have HF := Lib.hid (HCMP.out 138 (by decide) (fun v => holds_tst (by simp [h4])) _ _ (HNEW.out 138).1 (HNEW.out 138).2.1 (HNEW.out 138).2.2)
    clear h4 
    go_enter Tryz.func107, Tryz.ntmps107
    go_wp2_with go_in
    go_ret
    exact HF.out
  have d4 := beq_int_ne h4
  by_cases h5 : c.op = 5
  · have d5 : (c.op == 5) = true := beq_iff_eq.2 h5
    have HF := Lib.hid (HCMP.out 139 (by decide) (fun v => holds_tst (by simp [h5])) _ _ (HNEW.out 139).1 (HNEW.out 139).2.1 (HNEW.out 139).2.2)
    clear h5 
    go_enter Tryz.func107, Tryz.ntmps107
    go_wp2_with go_in
    go_ret
    exact HF.out
  have d5 := beq_int_ne h5
  by_cases h6 : c.op = 6
  · have d6 : (c.op == 6) = true := beq_iff_eq.2 h6
    have HF := Lib.hid (HCMP.out 140 (by decide) (fun v => holds_tst (by simp [h6])) _ _ (HNEW.out 140).1 (HNEW.out 140).2.1 (HNEW.out 140).2.2)
    clear h6 
    go_enter Tryz.func107, Tryz.ntmps107
    go_wp2_with go_in
    go_ret
    exact HF.out
  have d6 := beq_int_ne h6
  by_cases h7 : c.op = 7
  · have d7 : (c.op == 7) = true := beq_iff_eq.2 h7
    have HF := Lib.hid (HCMP.out 141 (by decide) (fun v => holds_tst (by simp [h7])) _ _ (HNEW.out 141).1 (HNEW.out 141).2.1 (HNEW.out 141).2.2)
    clear h7 
    go_enter Tryz.func107, Tryz.ntmps107
    go_wp2_with go_in
    go_ret
    exact HF.out
  have d7 := beq_int_ne h7
  by_cases h8 : c.op = 8
  · have hh : ∀ v, holdsC c v = _ := fun v => holds_pre h8
    have d8 : (c.op == 8) = true := beq_iff_eq.2 h8
    have HH := Lib.hid hh
    clear h8 hh
    go_enter Tryz.func107, Tryz.ntmps107
    go_wp2_with go_in
    go_ret
    exact ⟨142, _, rfl, ent106, hx0, fun W' v hx' => by rw [HH.out v]; exact asks106_any W' w.heap.size c sa sc (hB0.ext hx') v.k v.n v.s v.b⟩
  have d8 := beq_int_ne h8
  by_cases h9 : c.op = 9
  · have hh : ∀ v, holdsC c v = c.set.any fun x => decide (cmpV v x = 0) := fun v => by unfold holdsC; rw [if_neg h1, if_pos h9]
    have d9 : (c.op == 9) = true := beq_iff_eq.2 h9
    have HH := Lib.hid hh
    clear h9 hh
    go_enter Tryz.func107, Tryz.ntmps107
    go_wp2_with go_in
    go_ret
    exact ⟨144, _, rfl, ent108, hx0, fun W' v hx' => by rw [HH.out v]; exact asks108_any W' w.heap.size c sa sc (hB0.ext hx') v⟩
  have d9 := beq_int_ne h9
  have hh : ∀ v, holdsC c v = false := fun v => by
    unfold holdsC
    rw [if_neg h1, if_neg h9]
    by_cases hk : v.k = c.v.k
    · rw [if_pos hk, if_neg h2, if_neg h3, if_neg h4, if_neg h5, if_neg h6, if_neg h7, if_neg h8]
    · rw [if_neg hk]
  have HH := Lib.hid hh
  clear h1 h2 h3 h4 h5 h6 h7 h8 h9 hh
  go_enter Tryz.func107, Tryz.ntmps107
  go_wp2_with go_in
  go_ret
  refine ⟨146, #[], rfl, ent110, hx0, fun W' v _ => ?_⟩
  rw [HH.out v]
  clear HH HNEW HCMP hB hB0 c1 hs hx0 d1 d2 d3 d4 d5 d6 d7 d8 d9
  go_enter Tryz.func146, Tryz.ntmps146
  go_wp2
  go_ret
  exact ⟨rfl, (Ext.refl _).alloc _⟩

end Go.Proofs.YtcgflkfbjnpdiaaGreat

namespace Go.Proofs.YtcgflkfbjnpdiaaGreat
open Go.RowKit

set_option maxRecDepth 100000 in
set_option maxHeartbeats 4000000 in
theorem pholds_any (w : World) (c : C) (sa : Option Addr) (sc : Nat) (hs : SetR w (.slice sa c.set.length sc) c.set) (v : V) :
    Calls Tryz.prog 76 #[.agg #[.string (strOf c.name), .int .i64 c.op, .int .i64 c.v.k, .int .i64 c.v.n, .string (strOf c.v.s), .bool c.v.b, .slice sa c.set.length sc], .agg #[.int .i64 v.k, .int .i64 v.n, .string (strOf v.s), .bool v.b]] w
      fun e w' => e = .returned (.bool (holdsC c v)) ∧ Ext w w' := by
  have hx0 : Ext w ((w.alloc (.cells #[.string (strOf c.name), .int .i64 c.op, .int .i64 c.v.k, .int .i64 c.v.n, .string (strOf c.v.s), .bool c.v.b, .slice sa c.set.length sc] 37)).alloc (.cells #[.int .i64 v.k, .int .i64 v.n, .string (strOf v.s), .bool v.b] 34)) := ((Ext.refl w).alloc _).alloc _
  have hN : ((w.alloc (.cells #[.string (strOf c.name), .int .i64 c.op, .int .i64 c.v.k, .int .i64 c.v.n, .string (strOf c.v.s), .bool c.v.b, .slice sa c.set.length sc] 37)).alloc (.cells #[.int .i64 v.k, .int .i64 v.n, .string (strOf v.s), .bool v.b] 34)).heap[w.heap.size + 1]? = some (.cells #[.int .i64 v.k, .int .i64 v.n, .string (strOf v.s), .bool v.b] 34 (0, 0)) := by
    have h := heap_alloc_new (w.alloc (.cells #[.string (strOf c.name), .int .i64 c.op, .int .i64 c.v.k, .int .i64 c.v.n, .string (strOf c.v.s), .bool c.v.b, .slice sa c.set.length sc] 37)) (.cells #[.int .i64 v.k, .int .i64 v.n, .string (strOf v.s), .bool v.b] 34)
    rw [World.size_alloc] at h; exact h
  have hB : CBox ((w.alloc (.cells #[.string (strOf c.name), .int .i64 c.op, .int .i64 c.v.k, .int .i64 c.v.n, .string (strOf c.v.s), .bool c.v.b, .slice sa c.set.length sc] 37)).alloc (.cells #[.int .i64 v.k, .int .i64 v.n, .string (strOf v.s), .bool v.b] 34)) w.heap.size c sa sc :=
    (CBox.mk (heap_alloc_new _ _) (hs.ext ((Ext.refl w).alloc _))).ext ((Ext.refl _).alloc _)
  go_enter Tryz.func76, Tryz.ntmps76
  go_upto_region 1 with fail
  generalize (w.alloc (.cells #[.string (strOf c.name), .int .i64 c.op, .int .i64 c.v.k, .int .i64 c.v.n, .string (strOf c.v.s), .bool c.v.b, .slice sa c.set.length sc] 37)).alloc (.cells #[.int .i64 v.k, .int .i64 v.n, .string (strOf v.s), .bool v.b] 34) = wa at *
  have hxd : Ext wa wa.drew := (Ext.refl wa).drew
  obtain ⟨c0, c1, c2, c3, c4, c5, c6⟩ := (hB.ext hxd).cell
  have hsd := hB.s.ext hxd
  have n0 := hxd.cell (cell_of_row _ _ 0 _ _ _ hN)
  have n1 := hxd.cell (cell_of_row _ _ 1 _ _ _ hN)
  have n2 := hxd.cell (cell_of_row _ _ 2 _ _ _ hN)
  have n3 := hxd.cell (cell_of_row _ _ 3 _ _ _ hN)
  clear hN hB
  go_region_law (first | (go_simp; go_at_call 107; refine (asks_any _ c sa sc hsd).mono ?_; rintro e w2 ⟨g, cb, rfl, eg, hx2, hcl⟩; have m0 := hx2.cell n0; have m1 := hx2.cell n1; have m2 := hx2.cell n2; have m3 := hx2.cell n3) | (go_simp; go_at_fn g; refine (hcl _ v (Ext.refl _)).mono ?_; rintro e w3 ⟨rfl, hx3⟩))
  all_goals
    go_wp2_with fail
    go_ret
    exact ⟨rfl, hx0.trans (hxd.trans (hx2.trans hx3))⟩

theorem ent113 : ∀ args w, (callFunc 106 args).run Tryz.prog w = .ok (.enter 106 args) w := enters_of Tryz.func106 (by kernel_rfl) rfl
theorem ent56 : ∀ args w, (callFunc 74 args).run Tryz.prog w = .ok (.enter 74 args) w := enters_of Tryz.func74 (by kernel_rfl) rfl

/-- What event.Get answers. -/
def getV (l : List (List UInt8 × V)) (name : List UInt8) : V × Bool := match getE l name with | some v => (v, true) | none => (⟨0, 0, [], false⟩, false)

set_option maxRecDepth 100000 in
set_option maxHeartbeats 2000000 in
theorem get113_any (w : World) (B : Nat) (name : List UInt8) (h0 : w.cell? ⟨B, 0, none⟩ = some (.string (strOf name))) (x : List UInt8 × V) :
    Calls Tryz.prog 106 #[.agg #[.string (strOf x.1), .int .i64 x.2.k, .int .i64 x.2.n, .string (strOf x.2.s), .bool x.2.b], .pointer (some ⟨B, 0, none⟩)] w
      fun e w' => e = .returned (.bool (decide (x.1 = name))) ∧ Ext w w' := by
  have hx0 : Ext w (w.alloc (.cells #[.string (strOf x.1), .int .i64 x.2.k, .int .i64 x.2.n, .string (strOf x.2.s), .bool x.2.b] 60)) := (Ext.refl w).alloc _
  have c0 := hx0.cell h0
  by_cases h : x.1 = name
  · have hd : (x.1 == name) = true := beq_iff_eq.2 h
    rw [decide_eq_true h]
    clear h h0
    go_enter Tryz.func106, Tryz.ntmps106
    go_wp2
    go_ret
    exact ⟨rfl, hx0⟩
  · have hd : (x.1 == name) = false := beq_eq_false_iff_ne.2 h
    have hne : ¬ strOf x.1 = strOf name := fun e => h (strOf_inj.1 e)
    rw [decide_eq_false h]
    clear h h0
    go_enter Tryz.func106, Tryz.ntmps106
    go_wp2
    go_ret
    exact ⟨rfl, hx0⟩

end Go.Proofs.YtcgflkfbjnpdiaaGreat

namespace Go.Proofs.YtcgflkfbjnpdiaaGreat
open Go.RowKit

theorem info34s : (Tryz.prog.info? 34).map (·.size) = some 4 := by kernel_rfl

set_option maxRecDepth 100000 in
set_option maxHeartbeats 4000000 in
theorem get_any (w : World) (key name : List UInt8) (va : Value) (l : List (List UInt8 × V)) (h : AttrR w va l) :
    Calls Tryz.prog 75 #[.agg #[.string (strOf key), va], .string (strOf name)] w
      fun e w' => e = .returned (.tuple #[.agg #[.int .i64 (getV l name).1.k, .int .i64 (getV l name).1.n, .string (strOf (getV l name).1.s), .bool (getV l name).1.b], .bool (getV l name).2]) ∧ Ext w w' := by
  obtain ⟨aa, ca, rfl, hca, hma⟩ := Row.shape h
  unfold maxLen at hma
  have hx0 : Ext w (((w.alloc (.cells #[.string (strOf key), .slice aa l.length ca] 57)).alloc (.cells #[.string (strOf name)] 9)).alloc (.cells #[.int .i64 0, .int .i64 0, .string ⟨#[]⟩, .bool false] 34)) := (((Ext.refl w).alloc _).alloc _).alloc _
  have h1 : (((w.alloc (.cells #[.string (strOf key), .slice aa l.length ca] 57)).alloc (.cells #[.string (strOf name)] 9)).alloc (.cells #[.int .i64 0, .int .i64 0, .string ⟨#[]⟩, .bool false] 34)).cell? ⟨w.heap.size + 1, 0, none⟩ = some (.string (strOf name)) := by
    refine ((Ext.refl _).alloc _).cell ?_
    have h := cell_of_row _ _ 0 _ _ _ (heap_alloc_new (w.alloc (.cells #[.string (strOf key), .slice aa l.length ca] 57)) (.cells #[.string (strOf name)] 9))
    rw [World.size_alloc] at h
    exact h
  have h2 : (((w.alloc (.cells #[.string (strOf key), .slice aa l.length ca] 57)).alloc (.cells #[.string (strOf name)] 9)).alloc (.cells #[.int .i64 0, .int .i64 0, .string ⟨#[]⟩, .bool false] 34)).heap[w.heap.size + 1 + 1]? = some (.cells #[.int .i64 0, .int .i64 0, .string ⟨#[]⟩, .bool false] 34 (0, 0)) := by
    have := heap_alloc_new ((w.alloc (.cells #[.string (strOf key), .slice aa l.length ca] 57)).alloc (.cells #[.string (strOf name)] 9)) (.cells #[.int .i64 0, .int .i64 0, .string ⟨#[]⟩, .bool false] 34)
    rw [World.size_alloc, World.size_alloc] at this
    exact this
  have h3 : (((w.alloc (.cells #[.string (strOf key), .slice aa l.length ca] 57)).alloc (.cells #[.string (strOf name)] 9)).alloc (.cells #[.int .i64 0, .int .i64 0, .string ⟨#[]⟩, .bool false] 34)).cell? ⟨w.heap.size, 1, none⟩ = some (.slice aa l.length ca) := by
    exact (((Ext.refl _).alloc _).alloc _).cell (cell_of_row _ _ 1 _ _ _ (heap_alloc_new w (.cells #[.string (strOf key), .slice aa l.length ca] 57)))
  generalize hG : getV l name = G at *
  have HG := Lib.hid hG
  clear hG
  go_enter Tryz.func75, Tryz.ntmps75
  go_wp2_with fail
  have hla := h.ext hx0
  have hcl : ∀ (W : World) (x : List UInt8 × V), Ext (((w.alloc (.cells #[.string (strOf key), .slice aa l.length ca] 57)).alloc (.cells #[.string (strOf name)] 9)).alloc (.cells #[.int .i64 0, .int .i64 0, .string ⟨#[]⟩, .bool false] 34)) W → x ∈ l → Calls Tryz.prog 106 (#[.agg #[.string (strOf x.1), .int .i64 x.2.k, .int .i64 x.2.n, .string (strOf x.2.s), .bool x.2.b]] ++ #[.pointer (some ⟨w.heap.size + 1, 0, none⟩)]) W fun e W' => e = .returned (.bool (decide (x.1 = name))) ∧ Ext W W' :=
    fun W x hx _ => get113_any W (w.heap.size + 1) name (hx.cell h1) x
  refine (idxA_any _ _ l hla 106 #[.pointer (some ⟨w.heap.size + 1, 0, none⟩)] (fun x => decide (x.1 = name)) ent113 hcl).mono ?_
  rintro e w2 ⟨rfl, hx2⟩
  have hg := idxP_get (fun x : List UInt8 × V => decide (x.1 = name)) l
  have hB4 : w2.heap[w.heap.size + 1 + 1]? = some (.cells #[.int .i64 0, .int .i64 0, .string ⟨#[]⟩, .bool false] 34 (0, 0)) := by rw [hx2.block _ (Array.getElem?_eq_some_iff.1 h2).1]; exact h2
  have h32 := hx2.cell h3
  have hl2 := hla.ext hx2
  have hxw := hx0.trans hx2
  have HB4 := Lib.hid hB4
  clear hcl hla h1 h2 h3 hx2 hx0 hB4 h
  generalize idxP (fun x : List UInt8 × V => decide (x.1 = name)) l = ix at *
  rcases hg with ⟨rfl, hf⟩ | ⟨i, hi, rfl, hf⟩
  · have hgv : G = (⟨0, 0, [], false⟩, false) := by rw [← HG.out]; unfold getV getE; rw [hf]; rfl
    subst hgv
    clear hf
    go_wp2_with (refine wpList_store_whole 34 (.tmp 4) (.tmp 13) rfl rfl (w.heap.size + 1 + 1) rfl #[.int .i64 0, .int .i64 0, .string ⟨#[]⟩, .bool false] rfl _ 34 HB4.out rfl info34s (by simp [Value.oneCell']) ?_)
    have hR := setRow_heap _ _ _ #[.int .i64 0, .int .i64 0, .string ⟨#[]⟩, .bool false] _ _ HB4.out
    have r0 := cell_of_row _ _ 0 _ _ _ hR
    have r1 := cell_of_row _ _ 1 _ _ _ hR
    have r2 := cell_of_row _ _ 2 _ _ _ hR
    have r3 := cell_of_row _ _ 3 _ _ _ hR
    refine bodyPost_ret (v := .tuple #[.agg #[.int .i64 0, .int .i64 0, .string (strOf []), .bool false], .bool false]) (by simp [results, Tryz.results75, go_sem, r0, r1, r2, r3]; rfl) rfl ⟨rfl, hxw.setRow (by omega) _⟩
  · have hgv : G = (l[i].2, true) := by rw [← HG.out]; unfold getV getE; rw [hf]; rfl
    obtain ⟨B1, o1, rfl, f0, f1, f2, f3, f4⟩ := AttrR.at hl2 hi
    generalize l[i] = x at *
    subst hgv
    have hI : decide ((i : Int) < 0) = false := decide_eq_false (by omega)
    clear hf
    go_wp2_with (refine wpList_store_whole 34 (.tmp 4) (.tmp 19) rfl rfl (w.heap.size + 1 + 1) rfl #[.int .i64 x.2.k, .int .i64 x.2.n, .string (strOf x.2.s), .bool x.2.b] rfl _ 34 HB4.out rfl info34s (by simp [Value.oneCell']) ?_)
    have hR := setRow_heap _ _ _ #[.int .i64 x.2.k, .int .i64 x.2.n, .string (strOf x.2.s), .bool x.2.b] _ _ HB4.out
    have r0 := cell_of_row _ _ 0 _ _ _ hR
    have r1 := cell_of_row _ _ 1 _ _ _ hR
    have r2 := cell_of_row _ _ 2 _ _ _ hR
    have r3 := cell_of_row _ _ 3 _ _ _ hR
    refine bodyPost_ret (v := .tuple #[.agg #[.int .i64 x.2.k, .int .i64 x.2.n, .string (strOf x.2.s), .bool x.2.b], .bool true]) (by simp [results, Tryz.results75, go_sem, r0, r1, r2, r3]) rfl ⟨rfl, hxw.setRow (by omega) _⟩
end Go.Proofs.YtcgflkfbjnpdiaaGreat

namespace Go.Proofs.YtcgflkfbjnpdiaaGreat
open Go.RowKit

theorem asks_get {l : List (List UInt8 × V)} {c : C} : asksE l c = (match getV l c.name with | (v, ok) => ok && holdsC c v) := by
  unfold asksE getV
  cases getE l c.name <;> rfl

set_option maxRecDepth 100000 in
set_option maxHeartbeats 4000000 in
theorem match56_any (w : World) (B : Nat) (key : List UInt8) (aa : Option Addr) (ca : Nat) (l : List (List UInt8 × V)) (hb : w.heap[B]? = some (.cells #[.string (strOf key), .slice aa l.length ca] 57 (0, 0))) (hl : AttrR w (.slice aa l.length ca) l)
    (c : C) (sa : Option Addr) (sc : Nat) (hs : SetR w (.slice sa c.set.length sc) c.set) :
    Calls Tryz.prog 74 #[.agg #[.string (strOf c.name), .int .i64 c.op, .int .i64 c.v.k, .int .i64 c.v.n, .string (strOf c.v.s), .bool c.v.b, .slice sa c.set.length sc], .pointer (some ⟨B, 0, none⟩)] w
      fun e w' => e = .returned (.bool (!asksE l c)) ∧ Ext w w' := by
  have hx0 : Ext w (w.alloc (.cells #[.string (strOf c.name), .int .i64 c.op, .int .i64 c.v.k, .int .i64 c.v.n, .string (strOf c.v.s), .bool c.v.b, .slice sa c.set.length sc] 37)) := (Ext.refl w).alloc _
  have hB : CBox (w.alloc (.cells #[.string (strOf c.name), .int .i64 c.op, .int .i64 c.v.k, .int .i64 c.v.n, .string (strOf c.v.s), .bool c.v.b, .slice sa c.set.length sc] 37)) w.heap.size c sa sc := ⟨heap_alloc_new _ _, hs.ext hx0⟩
  have b0 := hx0.cell (cell_of_row _ _ 0 _ _ _ hb)
  have b1 := hx0.cell (cell_of_row _ _ 1 _ _ _ hb)
  have hl0 := hl.ext hx0
  rw [asks_get]
  generalize hG : getV l c.name = G at *
  have HG := Lib.hid hG
  clear hG hb hs hl
  go_enter Tryz.func74, Tryz.ntmps74
  go_wp2_with fail
  generalize w.alloc (.cells #[.string (strOf c.name), .int .i64 c.op, .int .i64 c.v.k, .int .i64 c.v.n, .string (strOf c.v.s), .bool c.v.b, .slice sa c.set.length sc] 37) = wa at *
  refine (get_any wa key c.name _ l hl0).mono ?_
  rw [HG.out]
  obtain ⟨⟨k, n, s, b⟩, ok⟩ := G
  rintro e w2 ⟨rfl, hx2⟩
  have hx2a := hx2.alloc (.cells #[.int .i64 k, .int .i64 n, .string (strOf s), .bool b] 34)
  obtain ⟨c0, c1, c2, c3, c4, c5, c6⟩ := (hB.ext hx2a).cell
  have hs2 := (hB.ext hx2a).s
  have hxw := hx0.trans hx2a
  cases ok
  · go_wp2_with fail
    go_ret
    exact ⟨rfl, hxw⟩
  · go_wp2_with (go_at_call 76; refine (pholds_any _ c sa sc hs2 ⟨k, n, s, b⟩).mono ?_; rintro e w3 ⟨rfl, hx3⟩)
    go_ret
    exact ⟨rfl, hxw.trans hx3⟩

set_option maxRecDepth 100000 in
set_option maxHeartbeats 2000000 in
theorem matches_any (w : World) (v : Value) (p : List C) (key : List UInt8) (va : Value) (l : List (List UInt8 × V)) (hp : PredR w v p) (hl : AttrR w va l) :
    Calls Tryz.prog 38 #[v, .agg #[.string (strOf key), va]] w fun e w' => e = .returned (.bool (matchP p l)) ∧ Ext w w' := by
  obtain ⟨aa, ca, rfl, hca, hma⟩ := Row.shape hl
  obtain ⟨ap, cp, rfl, hcp, hmp⟩ := hp.shape
  have hx0 : Ext w (w.alloc (.cells #[.string (strOf key), .slice aa l.length ca] 57)) := (Ext.refl w).alloc _
  have hE : (w.alloc (.cells #[.string (strOf key), .slice aa l.length ca] 57)).heap[w.heap.size]? = some (.cells #[.string (strOf key), .slice aa l.length ca] 57 (0, 0)) := heap_alloc_new _ _
  have hl0 := hl.ext hx0
  have hp0 := hp.ext hx0
  have hcon := hasC_any _ _ p hp0 74 #[.pointer (some ⟨w.heap.size, 0, none⟩)] (fun c => !asksE l c) ent56 (fun W x sa sc hx _ hs => match56_any W w.heap.size key aa ca l (by rw [hx.block _ (Array.getElem?_eq_some_iff.1 hE).1]; exact hE) (hl0.ext hx) x sa sc hs)
  have hres : matchP p l = !p.any fun c => !asksE l c := by
    have h : ∀ q : List C, q.all (asksE l) = !q.any fun c => !asksE l c := fun q => by
      induction q with
      | nil => rfl
      | cons c q ih => rw [List.all_cons, List.any_cons, ih]; cases asksE l c <;> simp
    exact h p
  rw [hres]
  clear hres hE hl0 hp0 hl hp
  generalize (p.any fun c => !asksE l c) = r at *
  go_enter Tryz.func38, Tryz.ntmps38
  go_wp2_with (go_at_call 27; refine hcon.mono ?_; rintro e w' ⟨rfl, hx⟩)
  go_ret
  exact ⟨rfl, hx0.trans hx⟩
end Go.Proofs.YtcgflkfbjnpdiaaGreat

namespace Go.Proofs.YtcgflkfbjnpdiaaGreat
open Go.RowKit

theorem strOf_size (l : List UInt8) : (strOf l).size = l.length := by show l.toArray.size = _; simp
theorem pre_str (s p : List UInt8) (h : p.length ≤ s.length) : (((strOf s).extract 0 (strOf p).size).toList == p) = p.isPrefixOf s := by
  have := Lib.hasPrefix_raw (strOf s) (strOf p)
  rw [strOf_toList, strOf_size, strOf_size, decide_eq_true h, Bool.true_and] at this
  rw [strOf_size, this]; rfl

theorem rcmpV_any (w : World) (a b : V) : Calls Tryz.prog 66 #[.agg #[.int .i64 a.k, .int .i64 a.n, .string (strOf a.s), .bool a.b], .agg #[.int .i64 b.k, .int .i64 b.n, .string (strOf b.s), .bool b.b]] w fun e w' => e = .returned (.int .i64 (cmpV a b)) ∧ Grew w w' := rcompare_any w _ _ _ _ _ _ _ _
theorem cmpV_any (w : World) (a b : V) : Calls Tryz.prog 22 #[.agg #[.int .i64 a.k, .int .i64 a.n, .string (strOf a.s), .bool a.b], .agg #[.int .i64 b.k, .int .i64 b.n, .string (strOf b.s), .bool b.b]] w fun e w' => e = .returned (.int .i64 (cmpV a b)) ∧ Grew w w' := compare_any w _ _ _ _ _ _ _ _

end Go.Proofs.YtcgflkfbjnpdiaaGreat

namespace Go.Proofs.YtcgflkfbjnpdiaaGreat
open Go.RowKit

theorem find_take {l : List (List UInt8 × V)} {name : List UInt8} {j : Nat} (h : ∀ x ∈ l.take j, x.1 ≠ name) : getE l name = getE (l.drop j) name := by
  unfold getE
  conv => lhs; rw [← List.take_append_drop j l]
  rw [List.find?_append, List.find?_eq_none.2 (fun x hx => by simpa using h x hx)]
  rfl
theorem asks_none {l : List (List UInt8 × V)} {c : C} (h : ∀ x ∈ l.take l.length, x.1 ≠ c.name) : asksE l c = false := by
  unfold asksE
  rw [find_take h, List.drop_length]; rfl
theorem asks_some {l : List (List UInt8 × V)} {c : C} {j : Nat} (hj : j < l.length) (h : ∀ x ∈ l.take j, x.1 ≠ c.name) (he : l[j].1 = c.name) : asksE l c = holdsC c l[j].2 := by
  unfold asksE
  rw [find_take h, List.drop_eq_getElem_cons hj]
  unfold getE
  rw [List.find?_cons_of_pos (by simpa using he)]; rfl

end Go.Proofs.YtcgflkfbjnpdiaaGreat
