/- Splice: Comes.
The reference's Holds.
The reference's Matches.
What a value may be; Number, Word, Truth.
MayCons, May: which constraints, which predicates may be.
The rule for a region that draws its order, over any way in which memory may turn (K1's rule, turned).
cmp.Or, the whole order of values.
slices.CompareFunc at values; the order of constraints. -/
import Derived.Lib.Bytes2
import Derived.Lib.Strings
import Derived.Deep.CutBlock
import Derived.Test.YtaklnpjpndkccaaGreatPk8
import Derived.Test.YtaklnpjpndkccaaGreatPk2
import Derived.Test.YtaklnpjpndkccaaGreatPk1
namespace Go.Proofs.YtaklnpjpndkccaaGreat
open Go.RowKit Go.Sort

theorem sstate_ext (w : World) (b : Nat) (pv : Value) (next st count : Int) (h : SpB w b pv next st count) :
    Calls Tryz.prog 22 #[.pointer (some ⟨b, 0, none⟩)] w fun e w' => e = .returned (.int .i64 st) ∧ Ext w w' :=
  (sstate_any w b pv next st count h).mono fun _ _ ⟨h1, h2⟩ => ⟨h1, h2 ▸ Ext.refl _⟩
/-- What an item that comes comes to. -/
def comesP (p : List C) (room : Int) (x : PI) (next : Nat) (st : Int) : List PD × Nat × Int :=
  if st = 3 ∧ wantsB p next (PD.ofI x) = true then (if room < 1 then ([], next, 1) else ([PD.ofI x], x.n + 1, 3)) else ([], next, st)
def ComesO (w w' : World) (bs : Nat) (pv v : Value) (p : List C) (room : Int) (x : PI) (next : Nat) (st cnt : Int) : Prop :=
  TellO w w' bs pv v (comesP p room x next st).1 (comesP p room x next st).2.1 (comesP p room x next st).2.2 cnt
theorem tell_none {w w' : World} {bs : Nat} {pv : Value} {next : Nat} {st cnt : Int} (hS : SpB w' bs pv next st cnt) (hg : w.grownBy w' (some bs)) : TellO w w' bs pv (.slice none 0 0) [] next st cnt :=
  ⟨[], rfl, own_none _ _ _ _, (fun _ h => by cases h), hS, hg⟩
set_option maxRecDepth 100000 in
set_option maxHeartbeats 4000000 in
theorem comes_any (w0 w : World) (bs : Nat) (pv : Value) (p : List C) (next : Nat) (st cnt : Int) (hSp : SplR w0 w bs pv p next st cnt) (x : IM) (hs : AttrR w x.h x.av) (hl : x.av.length * 56 ≤ 140737488355328) (room : Int) :
    Calls Tryz.prog 14 #[.pointer (some ⟨bs, 0, none⟩), .agg #[.int .u64 x.n, .int .u64 x.t, .string (strOf x.key), .slice x.ha x.av.length x.hc], .int .i64 room] w
      fun e w' => ∃ v, e = .returned v ∧ Hid (ComesO w w' bs pv v p room x.pi next st cnt) := by
  obtain ⟨hx, hb⟩ := boxes1 w (.cells #[.int .u64 x.n, .int .u64 x.t, .string (strOf x.key), .slice x.ha x.av.length x.hc] 49)
  have CC := Lib.hid (icopied_any _ x (hs.ext hx) hl)
  have m0 := cell_of_row _ _ 0 _ _ _ hb
  have m1 := cell_of_row _ _ 1 _ _ _ hb
  have m2 := cell_of_row _ _ 2 _ _ _ hb
  have m3 := cell_of_row _ _ 3 _ _ _ hb
  have HB := Lib.hid hb
  have HX := Lib.hid hx
  have HSP := Lib.hid hSp
  obtain ⟨F, hF⟩ : ∃ F, F = wantsB p next (PD.ofI x.pi) := ⟨_, rfl⟩
  have HF := Lib.hid hF
  obtain ⟨pa, pc, hpv, _, _⟩ := hSp.pr.shape
  subst hpv
  clear hx hb hSp hs hF
  go_enter Tryz.func14, Tryz.ntmps14
  go_upto_region 2 with (go_at_call 35; refine CC.out.mono ?_; rintro e w2 ⟨ha, hc, rfl, hat, hx2⟩; have HAT := Lib.hid hat; have HX2 := Lib.hid hx2; clear hat hx2)
  obtain ⟨hx3, hb3⟩ := boxes1 w2 (.cells #[.int .u64 x.n, .int .u64 x.t, .string (strOf x.key), .slice ha x.av.length hc, .int .u64 0, .int .u64 0] 53)
  have HX3 := Lib.hid ((HX.out.trans HX2.out).trans hx3)
  have HB3 := Lib.hid hb3
  have HB1 := Lib.hid (block_later (block_later HB.out HX2.out) hx3)
  have HAT3 := Lib.hid (own_low (own_ext HAT.out hx3) HX.out.size)
  have HD : Hid ((DM.ofI { x with ha := ha, hc := hc }).pd = PD.ofI x.pi) := rfl
  have CW : Hid (∀ W, Ext (w2.alloc (.cells #[.int .u64 x.n, .int .u64 x.t, .string (strOf x.key), .slice ha x.av.length hc, .int .u64 0, .int .u64 0] 53)) W → Calls Tryz.prog 34 #[.pointer (some ⟨bs, 0, none⟩), .agg #[.int .u64 x.n, .int .u64 x.t, .string (strOf x.key), .slice ha x.av.length hc, .int .u64 0, .int .u64 0]] W fun e w' => e = .returned (.bool F) ∧ Ext W w') := fun W hW => by
    have hxx := HX3.out.trans hW
    have := wants_any W bs _ p next st cnt (block_later HSP.out.sp hxx) (HSP.out.pr.ext (HSP.out.hx.trans hxx)) (DM.ofI { x with ha := ha, hc := hc }) (Row.of_own (own_ext HAT3.out hW))
    rw [HD.out, ← HF.out] at this
    exact this
  have hb3s : bs < w2.heap.size := Nat.lt_of_lt_of_le (Array.getElem?_eq_some_iff.1 HSP.out.sp).1 (HX.out.trans HX2.out).size
  clear m0 m1 m2 m3 CC HX HX2 HB HAT hx3 hb3 HD
  generalize w2.alloc (.cells #[.int .u64 x.n, .int .u64 x.t, .string (strOf x.key), .slice ha x.av.length hc, .int .u64 0, .int .u64 0] 53) = w3 at *
  generalize w2.heap.size = b3 at *
  have HS3 : Hid (SpB w3 bs (.slice pa p.length pc) next st cnt) := block_later HSP.out.sp HX3.out
  have CS : Hid (∀ W, Ext w3 W → Calls Tryz.prog 22 #[.pointer (some ⟨bs, 0, none⟩)] W fun e w' => e = .returned (.int .i64 st) ∧ Ext W w') := fun W hW => sstate_ext W bs _ next st cnt (block_later HS3.out hW)
  have d0 := cell_of_row _ _ 0 _ _ _ HB3.out
  have d1 := cell_of_row _ _ 1 _ _ _ HB3.out
  have d2 := cell_of_row _ _ 2 _ _ _ HB3.out
  have d3 := cell_of_row _ _ 3 _ _ _ HB3.out
  have d4 := cell_of_row _ _ 4 _ _ _ HB3.out
  have d5 := cell_of_row _ _ 5 _ _ _ HB3.out
  by_cases hst : st = 3
  · subst hst
    cases F with
    | false =>
      have HP : Hid (comesP p room x.pi next 3 = ([], next, 3)) := by show comesP _ _ _ _ _ = _; unfold comesP; rw [if_neg]; rw [← HF.out]; simp
      go_upto_region 4 with (first | (go_at_call 22; (with_reducible refine (CS.out _ (Ext.refl _)).mono ?_); rintro e w4 ⟨rfl, hx4⟩; have m0 := hx4.cell d0; have m1 := hx4.cell d1; have m2 := hx4.cell d2; have m3 := hx4.cell d3; have m4 := hx4.cell d4; have m5 := hx4.cell d5; have HX4 := Lib.hid hx4; clear hx4) | (go_at_call 34; (with_reducible refine (CW.out _ HX4.out).mono ?_); rintro e w5 ⟨rfl, hx5⟩; have HX5 := Lib.hid hx5; clear hx5))
      go_ret
      refine ⟨_, rfl, ?_⟩
      show TellO _ _ _ _ _ _ _ _ _
      rw [HP.out]
      have hxx := HX4.out.trans HX5.out
      exact tell_none (block_later HS3.out hxx) (grown_extJ (HX3.out.trans hxx))
    | true =>
      have hn : x.n ≤ 1099511627776 := by
        have := HF.out
        unfold wantsB mayD at this
        have h2 := this.symm
        simp only [Bool.and_eq_true, decide_eq_true_eq] at h2
        have h3 := h2.1.2.2
        unfold PD.num PD.ofI at h3
        have h4 : max x.n 0 ≤ 1099511627776 := h3
        omega
      go_upto_region 4 with (first | (go_at_call 22; (with_reducible refine (CS.out _ (Ext.refl _)).mono ?_); rintro e w4 ⟨rfl, hx4⟩; have m0 := hx4.cell d0; have m1 := hx4.cell d1; have m2 := hx4.cell d2; have m3 := hx4.cell d3; have m4 := hx4.cell d4; have m5 := hx4.cell d5; have HX4 := Lib.hid hx4; clear hx4) | (go_at_call 34; (with_reducible refine (CW.out _ HX4.out).mono ?_); rintro e w5 ⟨rfl, hx5⟩; have HX5 := Lib.hid hx5; clear hx5))
      have hxx := HX4.out.trans HX5.out
      have hs5 := block_later HS3.out hxx
      have hb5 := block_later HB1.out hxx
      have hd5 := block_later HB3.out hxx
      have HXX := Lib.hid hxx
      have HS5 : Hid (SpB w5 bs (.slice pa p.length pc) next 3 cnt) := hs5
      have HD5 := Lib.hid hd5
      clear d0 d1 d2 d3 d4 d5 m0 m1 m2 m3 m4 m5 CS CW hxx
      by_cases hr : room < 1
      · have dr : decide (room < 1) = true := decide_eq_true hr
        have HP : Hid (comesP p room x.pi next 3 = ([], next, 1)) := by show comesP _ _ _ _ _ = _; unfold comesP; rw [if_pos ⟨rfl, HF.out.symm⟩, if_pos hr]
        have e2 := cell_of_row _ _ 2 _ _ _ hs5
        have y2 := frozen_of_row _ _ 2 _ _ hs5
        clear hs5 hb5 hd5
        go_wp2_with fail
        go_ret
        refine ⟨_, rfl, ?_⟩
        show TellO _ _ _ _ _ _ _ _ _
        rw [HP.out]
        exact tell_none (SpB.set2 HS5.out 1) (grown_at (grown_extJ (HX3.out.trans HXX.out)) (grown_setJ w5 bs 2 (.int .i64 1)))
      · have dr : decide (room < 1) = false := decide_eq_false hr
        have HP : Hid (comesP p room x.pi next 3 = ([PD.ofI x.pi], x.n + 1, 3)) := by show comesP _ _ _ _ _ = _; unfold comesP; rw [if_pos ⟨rfl, HF.out.symm⟩, if_neg hr]; rfl
        obtain ⟨n1, hn1⟩ : ∃ y : Nat, (y : Int) = (x.n : Int) + 1 := ⟨x.n + 1, by omega⟩
        have qn : (x.n : Int) + 1 = (n1 : Int) := hn1.symm
        have HN1 : Hid (n1 = x.n + 1) := by show _ = _; omega
        have hn2 : n1 ≤ 1099511627777 := by omega
        have e1 := cell_of_row _ _ 1 _ _ _ hs5
        have y1 := frozen_of_row _ _ 1 _ _ hs5
        have g0 := cell_of_row _ _ 0 _ _ _ hb5
        have hdS := (setCell_block_far w5 ⟨bs, 1, none⟩ (.int .u64 (n1 : Nat)) b3 (by show b3 ≠ bs; omega)).trans hd5
        have d0 := cell_of_row _ _ 0 _ _ _ hdS
        have d1 := cell_of_row _ _ 1 _ _ _ hdS
        have d2 := cell_of_row _ _ 2 _ _ _ hdS
        have d3 := cell_of_row _ _ 3 _ _ _ hdS
        have d4 := cell_of_row _ _ 4 _ _ _ hdS
        have d5 := cell_of_row _ _ 5 _ _ _ hdS
        clear hs5 hb5 hd5 hdS hn1
        go_upto_region 8 with fail
        clear e1 y1 g0
        have HS6 := Lib.hid (SpB.set1 HS5.out (n1 : Nat))
        have HG6 := Lib.hid (grown_setJ w5 bs 1 (.int .u64 (n1 : Nat)))
        have HA6 := Lib.hid (own_setJ (own_ext HAT3.out HXX.out) HS5.out (by decide) 1 (.int .u64 (n1 : Nat)))
        generalize w5.setCell ⟨bs, 1, none⟩ (.int .u64 (n1 : Nat)) = w6 at *
        go_wp2_with fail
        go_ret
        refine ⟨_, rfl, ?_⟩
        show TellO _ _ _ _ _ _ _ _ _
        rw [HP.out]
        have hx7 := (boxes1 w6 (.cells #[.int .u64 x.n, .int .u64 x.t, .string (strOf x.key), .slice ha x.av.length hc, .int .u64 0, .int .u64 0] 53)).1
        refine ⟨[DM.ofI { x with ha := ha, hc := hc }], rfl, ?_, fun y hy => ?_, ?_, ?_⟩
        · exact World.ownsRow_lit w6 (dmC (DM.ofI { x with ha := ha, hc := hc })).toArray 1 (grown_at (grown_extJ (HX3.out.trans HXX.out)) HG6.out).size (by decide) rfl
        · rw [List.mem_singleton.1 hy]
          exact own_ext HA6.out hx7
        · rw [← HN1.out]
          exact block_later HS6.out hx7
        · exact grown_ext (grown_at (grown_extJ (HX3.out.trans HXX.out)) HG6.out) hx7
  · have HP : Hid (comesP p room x.pi next st = ([], next, st)) := by show comesP _ _ _ _ _ = _; unfold comesP; rw [if_neg fun h => hst h.1]
    have dst : (st != 3) = true := bne_iff_ne.2 hst
    clear hst
    go_upto_region 4 with (go_at_call 22; (with_reducible refine (CS.out _ (Ext.refl _)).mono ?_); rintro e w4 ⟨rfl, hx4⟩; have HX4 := Lib.hid hx4; clear hx4)
    go_ret
    refine ⟨_, rfl, ?_⟩
    show TellO _ _ _ _ _ _ _ _ _
    rw [HP.out]
    exact tell_none (block_later HS3.out HX4.out) (grown_extJ (HX3.out.trans HX4.out))
end Go.Proofs.YtaklnpjpndkccaaGreat

namespace Go.Proofs.YtaklnpjpndkccaaGreat
open Go.RowKit

theorem strOf_size (l : List UInt8) : (strOf l).size = l.length := by show l.toArray.size = _; simp
theorem pre_str (s p : List UInt8) (h : p.length ≤ s.length) : (((strOf s).extract 0 (strOf p).size).toList == p) = p.isPrefixOf s := by
  have := Lib.hasPrefix_raw (strOf s) (strOf p)
  rw [strOf_toList, strOf_size, strOf_size, decide_eq_true h, Bool.true_and] at this
  rw [strOf_size, this]; rfl

theorem rcmpV_any (w : World) (a b : V) : Calls Tryz.prog 107 #[.agg #[.int .i64 a.k, .int .i64 a.n, .string (strOf a.s), .bool a.b], .agg #[.int .i64 b.k, .int .i64 b.n, .string (strOf b.s), .bool b.b]] w fun e w' => e = .returned (.int .i64 (cmpV a b)) ∧ Grew w w' := rcompare_any w _ _ _ _ _ _ _ _
theorem cmpV_any (w : World) (a b : V) : Calls Tryz.prog 61 #[.agg #[.int .i64 a.k, .int .i64 a.n, .string (strOf a.s), .bool a.b], .agg #[.int .i64 b.k, .int .i64 b.n, .string (strOf b.s), .bool b.b]] w fun e w' => e = .returned (.int .i64 (cmpV a b)) ∧ Grew w w' := compare_any w _ _ _ _ _ _ _ _

end Go.Proofs.YtaklnpjpndkccaaGreat

namespace Go.Proofs.YtaklnpjpndkccaaGreat
open Go.RowKit

theorem find_take {l : List (List UInt8 × V)} {name : List UInt8} {j : Nat} (h : ∀ x ∈ l.take j, x.1 ≠ name) : getE l name = getE (l.drop j) name := by
  unfold getE
  conv => lhs; rw [← List.take_append_drop j l]
  rw [List.find?_append, List.find?_eq_none.2 (fun x hx => by simpa using h x hx)]
  rfl
theorem asks_none {l : List (List UInt8 × V)} {c : C} (h : ∀ x ∈ l.take l.length, x.1 ≠ c.name) : asksE l c = false := by
  unfold asksE
  rw [find_take h, List.drop_length]; rfl
theorem asks_some {l : List (List UInt8 × V)} {c : C} {j : Nat} (hj : j < l.length) (h : ∀ x ∈ l.take j, x.1 ≠ c.name) (he : l[j].1 = c.name) : asksE l c = holdsC c l[j].2 := by
  unfold asksE
  rw [find_take h, List.drop_eq_getElem_cons hj]
  unfold getE
  rw [List.find?_cons_of_pos (by simpa using he)]; rfl

end Go.Proofs.YtaklnpjpndkccaaGreat

namespace Go.Proofs.YtaklnpjpndkccaaGreat
open Go.RowKit

set_option maxRecDepth 100000 in
theorem number_any (w : World) (n : Int) : Calls Tryz.prog 138 #[.int .i64 n] w fun e w' => e = .returned (.agg #[.int .i64 1, .int .i64 n, .string (strOf []), .bool false]) ∧ Grew w w' := by
  go_enter Tryz.func138, Tryz.ntmps138
  go_wp2
  have hR := heap_alloc_new w (.cells #[.int .i64 1, .int .i64 n, .string ⟨#[]⟩, .bool false] 80)
  have r0 := cell_of_row _ _ 0 _ _ _ hR
  have r1 := cell_of_row _ _ 1 _ _ _ hR
  have r2 := cell_of_row _ _ 2 _ _ _ hR
  have r3 := cell_of_row _ _ 3 _ _ _ hR
  refine bodyPost_ret (v := .agg #[.int .i64 1, .int .i64 n, .string (strOf []), .bool false]) (by simp [results, Tryz.results138, go_sem, r0, r1, r2, r3]; rfl) rfl ⟨rfl, (Grew.refl w).alloc _⟩
set_option maxRecDepth 100000 in
theorem word_any (w : World) (s : List UInt8) : Calls Tryz.prog 139 #[.string (strOf s)] w fun e w' => e = .returned (.agg #[.int .i64 2, .int .i64 0, .string (strOf s), .bool false]) ∧ Grew w w' := by
  go_enter Tryz.func139, Tryz.ntmps139
  go_wp2
  have hR := heap_alloc_new w (.cells #[.int .i64 2, .int .i64 0, .string (strOf s), .bool false] 80)
  have r0 := cell_of_row _ _ 0 _ _ _ hR
  have r1 := cell_of_row _ _ 1 _ _ _ hR
  have r2 := cell_of_row _ _ 2 _ _ _ hR
  have r3 := cell_of_row _ _ 3 _ _ _ hR
  refine bodyPost_ret (v := .agg #[.int .i64 2, .int .i64 0, .string (strOf s), .bool false]) (by simp [results, Tryz.results139, go_sem, r0, r1, r2, r3]) rfl ⟨rfl, (Grew.refl w).alloc _⟩
set_option maxRecDepth 100000 in
theorem truth_any (w : World) (b : Bool) : Calls Tryz.prog 140 #[.bool b] w fun e w' => e = .returned (.agg #[.int .i64 3, .int .i64 0, .string (strOf []), .bool b]) ∧ Grew w w' := by
  go_enter Tryz.func140, Tryz.ntmps140
  go_wp2
  have hR := heap_alloc_new w (.cells #[.int .i64 3, .int .i64 0, .string ⟨#[]⟩, .bool b] 80)
  have r0 := cell_of_row _ _ 0 _ _ _ hR
  have r1 := cell_of_row _ _ 1 _ _ _ hR
  have r2 := cell_of_row _ _ 2 _ _ _ hR
  have r3 := cell_of_row _ _ 3 _ _ _ hR
  refine bodyPost_ret (v := .agg #[.int .i64 3, .int .i64 0, .string (strOf []), .bool b]) (by simp [results, Tryz.results140, go_sem, r0, r1, r2, r3]; rfl) rfl ⟨rfl, (Grew.refl w).alloc _⟩

/-- The value's own box, behind a second one and a draw. -/
theorem box28 (w : World) (k n : Int) (s : List UInt8) (b : Bool) :
    ((w.alloc (.cells #[.int .i64 k, .int .i64 n, .string (strOf s), .bool b] 80)).alloc (.cells #[.int .i64 k, .int .i64 n, .string (strOf s), .bool b] 80)).drew.cell? ⟨w.heap.size, 0, none⟩ = some (.int .i64 k) ∧
    ((w.alloc (.cells #[.int .i64 k, .int .i64 n, .string (strOf s), .bool b] 80)).alloc (.cells #[.int .i64 k, .int .i64 n, .string (strOf s), .bool b] 80)).drew.cell? ⟨w.heap.size, 1, none⟩ = some (.int .i64 n) ∧
    ((w.alloc (.cells #[.int .i64 k, .int .i64 n, .string (strOf s), .bool b] 80)).alloc (.cells #[.int .i64 k, .int .i64 n, .string (strOf s), .bool b] 80)).drew.cell? ⟨w.heap.size, 2, none⟩ = some (.string (strOf s)) ∧
    ((w.alloc (.cells #[.int .i64 k, .int .i64 n, .string (strOf s), .bool b] 80)).alloc (.cells #[.int .i64 k, .int .i64 n, .string (strOf s), .bool b] 80)).drew.cell? ⟨w.heap.size, 3, none⟩ = some (.bool b) := by
  have hx : Ext (w.alloc (.cells #[.int .i64 k, .int .i64 n, .string (strOf s), .bool b] 80)) ((w.alloc (.cells #[.int .i64 k, .int .i64 n, .string (strOf s), .bool b] 80)).alloc (.cells #[.int .i64 k, .int .i64 n, .string (strOf s), .bool b] 80)).drew := ((Ext.refl _).alloc _).drew
  have hR := heap_alloc_new w (.cells #[.int .i64 k, .int .i64 n, .string (strOf s), .bool b] 80)
  exact ⟨hx.cell (cell_of_row _ _ 0 _ _ _ hR), hx.cell (cell_of_row _ _ 1 _ _ _ hR), hx.cell (cell_of_row _ _ 2 _ _ _ hR), hx.cell (cell_of_row _ _ 3 _ _ _ hR)⟩

set_option maxRecDepth 100000 in
set_option maxHeartbeats 4000000 in
theorem vmay1 (w : World) (n : Int) (s : List UInt8) (b : Bool) :
    Calls Tryz.prog 114 #[.agg #[.int .i64 1, .int .i64 n, .string (strOf s), .bool b]] w fun e w' => e = .returned (.bool (s.isEmpty && !b)) ∧ Grew w w' := by
  have t1 := ta22
  obtain ⟨c0, c1, c2, c3⟩ := box28 w 1 n s b
  cases s <;> cases b
  all_goals
    go_enter Tryz.func114, Tryz.ntmps114
    go_upto_region 4 with go_in
    go_region_law (go_simp; go_at_call 138; refine (number_any _ _).mono ?_; rintro e w2 ⟨rfl, hx2⟩; have m0 := hx2.1.cell c0; have m1 := hx2.1.cell c1; have m2 := hx2.1.cell c2; have m3 := hx2.1.cell c3)
    all_goals
      go_wp2_with fail
      go_ret
      exact ⟨rfl, (((Grew.refl w).alloc _).alloc _).trans ((Grew.refl _).drew.trans hx2)⟩

set_option maxRecDepth 100000 in
set_option maxHeartbeats 4000000 in
theorem vmay2 (w : World) (n : Int) (s : List UInt8) (b : Bool) :
    Calls Tryz.prog 114 #[.agg #[.int .i64 2, .int .i64 n, .string (strOf s), .bool b]] w fun e w' => e = .returned (.bool (decide (n = 0) && !b && decide (s.length ≤ 32))) ∧ Ext w w' := by
  obtain ⟨c0, c1, c2, c3⟩ := box28 w 2 n s b
  have t1 := ta92
  have t2 := ta99
  by_cases hn : n = 0
  · subst hn
    cases b
    · have hr : (decide ((0 : Int) = 0) && !false && decide (s.length ≤ 32)) = decide (((strOf s).size : Int) ≤ 32) := by
        rw [strOf_size]
        simp only [decide_true, Bool.not_false, Bool.true_and]
        rw [Bool.eq_iff_iff, decide_eq_true_iff, decide_eq_true_iff]; omega
      rw [hr]
      clear hr
      go_enter Tryz.func114, Tryz.ntmps114
      go_upto_region 7 with go_in
      refine wp_region_facts [Fact.eq (.agg #[.int .i64 2, .int .i64 0, .string (strOf s), .bool false]),
          Fact.eq (.string (strOf s)),
          Fact.eq (.agg #[.int .i64 2, .int .i64 0, .string (strOf s), .bool false]),
          Fact.eq (.bool true),
          Fact.eq (.bool true),
          Fact.eq (.string (strOf s)),
          Fact.eq (.int .i64 (strOf s).size),
          Fact.eq (.bool (decide (((strOf s).size : Int) ≤ 32))),
          Fact.eq (.bool (decide (((strOf s).size : Int) ≤ 32))),
          Fact.eq (.bool (decide (((strOf s).size : Int) ≤ 32)))]
        [[], [], [(1, 19)], [(0, 18), (2, 20)], [(3, 21)], [(4, 22)], [(5, 23), (4, 22)], [(6, 24), (4, 22)], [(4, 22), (7, 25)], [(8, 26)]]
        [(0, 18), (1, 19), (2, 20), (3, 21), (4, 22), (5, 23), (6, 24), (7, 25), (8, 26), (9, 2)] (by kernel_rfl) (by kernel_rfl) ?_ ?_
      · refine ⟨?_, ?_, ?_, ?_, ?_, ?_, ?_, ?_, ?_, ?_, trivial⟩
        · intro w1 hx1; change wpList _ _ _ _ _ _; have m0 := hx1.cell c0; have m1 := hx1.cell c1; have m2 := hx1.cell c2; have m3 := hx1.cell c3; go_wp2_with fail; exact ⟨rfl, Ext.refl _, rfl, rfl⟩
        · intro w1 hx1; change wpList _ _ _ _ _ _; exact ob_move rfl rfl rfl rfl rfl
        · intro w1 hx1; rintro _ rfl; change wpList _ _ _ _ _ _; go_wp2_with fail; refine (word_any _ _).mono ?_; rintro e w2 ⟨rfl, hx2⟩; go_wp2_with fail; exact ⟨rfl, hx2.1, rfl, rfl⟩
        · intro w1 hx1; rintro _ rfl; rintro _ rfl; change wpList _ _ _ _ _ _; go_wp2_with fail; exact ⟨rfl, Ext.refl _, rfl, rfl⟩
        · intro w1 hx1; rintro _ rfl; change wpList _ _ _ _ _ _; exact ob_move rfl rfl rfl rfl rfl
        · intro w1 hx1; rintro _ rfl; change wpList _ _ _ _ _ _; exact ob_move rfl rfl rfl rfl rfl
        · intro w1 hx1; rintro _ rfl; rintro _ rfl; change wpList _ _ _ _ _ _; go_wp2_with fail; exact ⟨rfl, Ext.refl _, rfl, rfl⟩
        · intro w1 hx1; rintro _ rfl; rintro _ rfl; change wpList _ _ _ _ _ _; go_wp2_with fail; exact ⟨rfl, Ext.refl _, rfl, rfl⟩
        · intro w1 hx1; rintro _ rfl; rintro _ rfl; change wpList _ _ _ _ _ _; exact ob_pick rfl rfl rfl rfl rfl rfl
        · intro w1 hx1; rintro _ rfl; change wpList _ _ _ _ _ _; exact ob_assign rfl rfl rfl rfl rfl
      · intro w1 hx1; rintro _ rfl; rintro _ rfl; rintro _ rfl; rintro _ rfl; rintro _ rfl; rintro _ rfl; rintro _ rfl; rintro _ rfl; rintro _ rfl; rintro _ rfl; refine depsThen_nil ?_; dsimp only; simp only [Act.put, List.setIfInBounds_toArray, List.set_cons_zero, List.set_cons_succ]
        go_wp2_with fail
        go_ret
        exact ⟨rfl, (((Ext.refl w).alloc _).alloc _).trans hx1⟩
    · have hr : (decide ((0 : Int) = 0) && !true && decide (s.length ≤ 32)) = false := by simp
      rw [hr]
      clear hr
      go_enter Tryz.func114, Tryz.ntmps114
      go_upto_region 7 with go_in
      refine wp_region_facts [Fact.eq (.agg #[.int .i64 2, .int .i64 0, .string (strOf s), .bool true]),
          Fact.eq (.string (strOf s)),
          Fact.eq (.agg #[.int .i64 2, .int .i64 0, .string (strOf s), .bool false]),
          Fact.eq (.bool false),
          Fact.eq (.bool false),
          Fact.eq undef,
          Fact.eq undef,
          Fact.eq undef,
          Fact.eq (.bool false),
          Fact.eq (.bool false)]
        [[], [], [(1, 19)], [(0, 18), (2, 20)], [(3, 21)], [(4, 22)], [(5, 23), (4, 22)], [(6, 24), (4, 22)], [(4, 22), (7, 25)], [(8, 26)]]
        [(0, 18), (1, 19), (2, 20), (3, 21), (4, 22), (5, 23), (6, 24), (7, 25), (8, 26), (9, 2)] (by kernel_rfl) (by kernel_rfl) ?_ ?_
      · refine ⟨?_, ?_, ?_, ?_, ?_, ?_, ?_, ?_, ?_, ?_, trivial⟩
        · intro w1 hx1; change wpList _ _ _ _ _ _; have m0 := hx1.cell c0; have m1 := hx1.cell c1; have m2 := hx1.cell c2; have m3 := hx1.cell c3; go_wp2_with fail; exact ⟨rfl, Ext.refl _, rfl, rfl⟩
        · intro w1 hx1; change wpList _ _ _ _ _ _; exact ob_move rfl rfl rfl rfl rfl
        · intro w1 hx1; rintro _ rfl; change wpList _ _ _ _ _ _; go_wp2_with fail; refine (word_any _ _).mono ?_; rintro e w2 ⟨rfl, hx2⟩; go_wp2_with fail; exact ⟨rfl, hx2.1, rfl, rfl⟩
        · intro w1 hx1; rintro _ rfl; rintro _ rfl; change wpList _ _ _ _ _ _; go_wp2_with fail; exact ⟨rfl, Ext.refl _, rfl, rfl⟩
        · intro w1 hx1; rintro _ rfl; change wpList _ _ _ _ _ _; exact ob_move rfl rfl rfl rfl rfl
        · intro w1 hx1; rintro _ rfl; change wpList _ _ _ _ _ _; exact ob_skip rfl rfl rfl rfl
        · intro w1 hx1; rintro _ rfl; rintro _ rfl; change wpList _ _ _ _ _ _; exact ob_skip rfl rfl rfl rfl
        · intro w1 hx1; rintro _ rfl; rintro _ rfl; change wpList _ _ _ _ _ _; exact ob_skip rfl rfl rfl rfl
        · intro w1 hx1; rintro _ rfl; rintro _ rfl; change wpList _ _ _ _ _ _; exact ob_pick rfl rfl rfl rfl rfl rfl
        · intro w1 hx1; rintro _ rfl; change wpList _ _ _ _ _ _; exact ob_assign rfl rfl rfl rfl rfl
      · intro w1 hx1; rintro _ rfl; rintro _ rfl; rintro _ rfl; rintro _ rfl; rintro _ rfl; rintro _ rfl; rintro _ rfl; rintro _ rfl; rintro _ rfl; rintro _ rfl; refine depsThen_nil ?_; dsimp only; simp only [Act.put, List.setIfInBounds_toArray, List.set_cons_zero, List.set_cons_succ]
        go_wp2_with fail
        go_ret
        exact ⟨rfl, (((Ext.refl w).alloc _).alloc _).trans hx1⟩
  · have hr : (decide (n = 0) && !b && decide (s.length ≤ 32)) = false := by rw [decide_eq_false hn]; rfl
    rw [hr]
    have hd := beq_int_ne hn
    clear hr hn
    go_enter Tryz.func114, Tryz.ntmps114
    go_upto_region 7 with go_in
    refine wp_region_facts [Fact.eq (.agg #[.int .i64 2, .int .i64 n, .string (strOf s), .bool b]),
        Fact.eq (.string (strOf s)),
        Fact.eq (.agg #[.int .i64 2, .int .i64 0, .string (strOf s), .bool false]),
        Fact.eq (.bool false),
        Fact.eq (.bool false),
        Fact.eq undef,
        Fact.eq undef,
        Fact.eq undef,
        Fact.eq (.bool false),
        Fact.eq (.bool false)]
      [[], [], [(1, 19)], [(0, 18), (2, 20)], [(3, 21)], [(4, 22)], [(5, 23), (4, 22)], [(6, 24), (4, 22)], [(4, 22), (7, 25)], [(8, 26)]]
      [(0, 18), (1, 19), (2, 20), (3, 21), (4, 22), (5, 23), (6, 24), (7, 25), (8, 26), (9, 2)] (by kernel_rfl) (by kernel_rfl) ?_ ?_
    · refine ⟨?_, ?_, ?_, ?_, ?_, ?_, ?_, ?_, ?_, ?_, trivial⟩
      · intro w1 hx1; change wpList _ _ _ _ _ _; have m0 := hx1.cell c0; have m1 := hx1.cell c1; have m2 := hx1.cell c2; have m3 := hx1.cell c3; go_wp2_with fail; exact ⟨rfl, Ext.refl _, rfl, rfl⟩
      · intro w1 hx1; change wpList _ _ _ _ _ _; exact ob_move rfl rfl rfl rfl rfl
      · intro w1 hx1; rintro _ rfl; change wpList _ _ _ _ _ _; go_wp2_with fail; refine (word_any _ _).mono ?_; rintro e w2 ⟨rfl, hx2⟩; go_wp2_with fail; exact ⟨rfl, hx2.1, rfl, rfl⟩
      · intro w1 hx1; rintro _ rfl; rintro _ rfl; change wpList _ _ _ _ _ _; go_wp2_with fail; exact ⟨rfl, Ext.refl _, rfl, rfl⟩
      · intro w1 hx1; rintro _ rfl; change wpList _ _ _ _ _ _; exact ob_move rfl rfl rfl rfl rfl
      · intro w1 hx1; rintro _ rfl; change wpList _ _ _ _ _ _; exact ob_skip rfl rfl rfl rfl
      · intro w1 hx1; rintro _ rfl; rintro _ rfl; change wpList _ _ _ _ _ _; exact ob_skip rfl rfl rfl rfl
      · intro w1 hx1; rintro _ rfl; rintro _ rfl; change wpList _ _ _ _ _ _; exact ob_skip rfl rfl rfl rfl
      · intro w1 hx1; rintro _ rfl; rintro _ rfl; change wpList _ _ _ _ _ _; exact ob_pick rfl rfl rfl rfl rfl rfl
      · intro w1 hx1; rintro _ rfl; change wpList _ _ _ _ _ _; exact ob_assign rfl rfl rfl rfl rfl
    · intro w1 hx1; rintro _ rfl; rintro _ rfl; rintro _ rfl; rintro _ rfl; rintro _ rfl; rintro _ rfl; rintro _ rfl; rintro _ rfl; rintro _ rfl; rintro _ rfl; refine depsThen_nil ?_; dsimp only; simp only [Act.put, List.setIfInBounds_toArray, List.set_cons_zero, List.set_cons_succ]
      go_wp2_with fail
      go_ret
      exact ⟨rfl, (((Ext.refl w).alloc _).alloc _).trans hx1⟩

set_option maxRecDepth 100000 in
set_option maxHeartbeats 4000000 in
theorem vmay3 (w : World) (n : Int) (s : List UInt8) (b : Bool) :
    Calls Tryz.prog 114 #[.agg #[.int .i64 3, .int .i64 n, .string (strOf s), .bool b]] w fun e w' => e = .returned (.bool (decide (n = 0) && s.isEmpty)) ∧ Grew w w' := by
  obtain ⟨c0, c1, c2, c3⟩ := box28 w 3 n s b
  have t1 := ta42
  have t2 := ta49
  have t3 := ta44
  by_cases hn : n = 0
  · subst hn
    cases s
    all_goals
      go_enter Tryz.func114, Tryz.ntmps114
      go_upto_region 10 with go_in
      go_region_law (go_simp; go_at_call 140; refine (truth_any _ _).mono ?_; rintro e w2 ⟨rfl, hx2⟩; have m0 := hx2.1.cell c0; have m1 := hx2.1.cell c1; have m2 := hx2.1.cell c2; have m3 := hx2.1.cell c3)
      all_goals
        go_wp2_with fail
        go_ret
        exact ⟨rfl, (((Grew.refl w).alloc _).alloc _).trans ((Grew.refl _).drew.trans hx2)⟩
  · have hr : (decide (n = 0) && s.isEmpty) = false := by rw [decide_eq_false hn]; rfl
    rw [hr]
    have hd := beq_int_ne hn
    clear hr hn
    go_enter Tryz.func114, Tryz.ntmps114
    go_upto_region 10 with go_in
    go_region_law (go_simp; go_at_call 140; refine (truth_any _ _).mono ?_; rintro e w2 ⟨rfl, hx2⟩; have m0 := hx2.1.cell c0; have m1 := hx2.1.cell c1; have m2 := hx2.1.cell c2; have m3 := hx2.1.cell c3)
    all_goals
      go_wp2_with fail
      go_ret
      exact ⟨rfl, (((Grew.refl w).alloc _).alloc _).trans ((Grew.refl _).drew.trans hx2)⟩

set_option maxRecDepth 100000 in
set_option maxHeartbeats 4000000 in
theorem vmay_any (w : World) (v : V) : Calls Tryz.prog 114 #[.agg #[.int .i64 v.k, .int .i64 v.n, .string (strOf v.s), .bool v.b]] w fun e w' => e = .returned (.bool (mayV v)) ∧ Ext w w' := by
  obtain ⟨k, n, s, b⟩ := v
  unfold mayV
  by_cases h1 : k = 1
  · subst h1; exact (vmay1 w n s b).mono fun _ _ h => ⟨h.1, h.2.1⟩
  by_cases h2 : k = 2
  · subst h2; exact vmay2 w n s b
  by_cases h3 : k = 3
  · subst h3; exact (vmay3 w n s b).mono fun _ _ h => ⟨h.1, h.2.1⟩
  simp only [if_neg h1, if_neg h2, if_neg h3]
  have d1 := beq_int_ne h1
  have d2 := beq_int_ne h2
  have d3 := beq_int_ne h3
  have t1 := ta02
  have t2 := ta09
  have t3 := ta04
  clear h1 h2 h3
  go_enter Tryz.func114, Tryz.ntmps114
  go_wp2_with go_in
  go_ret
  exact ⟨rfl, ((Ext.refl w).alloc _).alloc _⟩
end Go.Proofs.YtaklnpjpndkccaaGreat

namespace Go.Proofs.YtaklnpjpndkccaaGreat
open Go.RowKit

theorem ent72 : ∀ args w, (callFunc 113 args).run Tryz.prog w = .ok (.enter 113 args) w := enters_of Tryz.func113 (by kernel_rfl) rfl
theorem ent63 : ∀ args w, (callFunc 77 args).run Tryz.prog w = .ok (.enter 77 args) w := enters_of Tryz.func77 (by kernel_rfl) rfl

set_option maxRecDepth 100000 in
set_option maxHeartbeats 2000000 in
theorem may72_any (w : World) (v : V) : Calls Tryz.prog 113 #[.agg #[.int .i64 v.k, .int .i64 v.n, .string (strOf v.s), .bool v.b]] w fun e w' => e = .returned (.bool (!mayV v)) ∧ Ext w w' := by
  have hx0 : Ext w (w.alloc (.cells #[.int .i64 v.k, .int .i64 v.n, .string (strOf v.s), .bool v.b] 80)) := (Ext.refl w).alloc _
  go_enter Tryz.func113, Tryz.ntmps113
  go_wp2_with (go_at_call 114; refine (vmay_any _ v).mono ?_; rintro e w2 ⟨rfl, hx2⟩)
  go_ret
  exact ⟨rfl, hx0.trans hx2⟩

theorem bareV_eq (v : V) : bareV v = ((v.k == 0) && ((v.n == 0) && ((v.s == []) && (v.b == false)))) := by
  obtain ⟨k, n, s, b⟩ := v
  unfold bareV
  rw [Bool.eq_iff_iff]
  simp

/-- MayCons's answer, by its tests. -/
def mayT (len op vk : Int) (sl : Nat) (B M S : Bool) : Bool :=
  if decide (len < 1) || decide (16 < len) then false
  else if op = 1 then B && decide (sl = 0)
  else if 2 ≤ op ∧ op ≤ 7 then M && decide (sl = 0)
  else if op = 8 then M && decide (vk = 2) && decide (sl = 0)
  else if op = 9 then B && decide (1 ≤ sl) && decide (sl ≤ 6) && S
  else false
theorem mayC_T (c : C) : mayC c = mayT (strOf c.name).size c.op c.v.k c.set.length (bareV c.v) (mayV c.v) (!(c.set.any fun x => !mayV x)) := by
  have hS : (!(c.set.any fun x => !mayV x)) = c.set.all mayV := by
    generalize c.set = l
    induction l with
    | nil => rfl
    | cons x l ih => rw [List.any_cons, List.all_cons, ← ih]; cases mayV x <;> simp
  have hE : c.set.isEmpty = decide (c.set.length = 0) := by cases c.set <;> simp
  unfold mayC mayT
  rw [hS, hE, strOf_size]
  have hI : (decide (((c.name.length : Nat) : Int) < 1) || decide ((16 : Int) < ((c.name.length : Nat) : Int))) = decide (c.name.length < 1 ∨ 16 < c.name.length) := by
    rw [Bool.eq_iff_iff]
    simp only [Bool.or_eq_true, decide_eq_true_eq]; omega
  rw [hI]
  by_cases h : c.name.length < 1 ∨ 16 < c.name.length
  · rw [if_pos h, decide_eq_true h]; rfl
  · rw [if_neg h, decide_eq_false h]; rfl

set_option maxRecDepth 100000 in
set_option maxHeartbeats 8000000 in
theorem maycons_any (w : World) (c : C) (sa : Option Addr) (sc : Nat) (hs : SetR w (.slice sa c.set.length sc) c.set) :
    Calls Tryz.prog 78 #[.agg #[.string (strOf c.name), .int .i64 c.op, .int .i64 c.v.k, .int .i64 c.v.n, .string (strOf c.v.s), .bool c.v.b, .slice sa c.set.length sc]] w
      fun e w' => e = .returned (.bool (mayC c)) ∧ Ext w w' := by
  have hx0 : Ext w (w.alloc (.cells #[.string (strOf c.name), .int .i64 c.op, .int .i64 c.v.k, .int .i64 c.v.n, .string (strOf c.v.s), .bool c.v.b, .slice sa c.set.length sc] 94)) := (Ext.refl w).alloc _
  have hB : CBox (w.alloc (.cells #[.string (strOf c.name), .int .i64 c.op, .int .i64 c.v.k, .int .i64 c.v.n, .string (strOf c.v.s), .bool c.v.b, .slice sa c.set.length sc] 94)) w.heap.size c sa sc := ⟨heap_alloc_new _ _, hs.ext hx0⟩
  rw [mayC_T]
  have hbare := Lib.hid (bareV_eq c.v)
  obtain ⟨_, _, es, hcs, hms⟩ := Row.shape hs
  simp only [Value.slice.injEq] at es
  obtain ⟨rfl, -, rfl⟩ := es
  unfold maxLen at hms
  clear hs
  by_cases hn1 : ((strOf c.name).size : Int) < 1
  · have hT : mayT (strOf c.name).size c.op c.v.k c.set.length (bareV c.v) (mayV c.v) (!(c.set.any fun x => !mayV x)) = false := by
      unfold mayT; rw [decide_eq_true hn1]; rfl
    rw [hT]
    have d1 : decide (((strOf c.name).size : Int) < 1) = true := decide_eq_true hn1
    clear hT hn1
    go_enter Tryz.func78, Tryz.ntmps78
    go_wp2_with fail
    go_ret
    exact ⟨rfl, hx0⟩
  have d1 : decide (((strOf c.name).size : Int) < 1) = false := decide_eq_false hn1
  by_cases hn2 : (16 : Int) < ((strOf c.name).size : Int)
  · have hT : mayT (strOf c.name).size c.op c.v.k c.set.length (bareV c.v) (mayV c.v) (!(c.set.any fun x => !mayV x)) = false := by
      unfold mayT; rw [decide_eq_true hn2, Bool.or_true]; rfl
    rw [hT]
    have d2 : decide ((16 : Int) < ((strOf c.name).size : Int)) = true := decide_eq_true hn2
    have d3 : ¬ ((strOf c.name).size < 1) := by omega
    have d4 : 16 < (strOf c.name).size := by omega
    clear hT hn2 hn1
    go_enter Tryz.func78, Tryz.ntmps78
    go_wp2_with fail
    go_ret
    exact ⟨rfl, hx0⟩
  have d2 : decide ((16 : Int) < ((strOf c.name).size : Int)) = false := decide_eq_false hn2
  have hT : mayT (strOf c.name).size c.op c.v.k c.set.length (bareV c.v) (mayV c.v) (!(c.set.any fun x => !mayV x)) = 
      (if c.op = 1 then bareV c.v && decide (c.set.length = 0)
       else if 2 ≤ c.op ∧ c.op ≤ 7 then mayV c.v && decide (c.set.length = 0)
       else if c.op = 8 then mayV c.v && decide (c.v.k = 2) && decide (c.set.length = 0)
       else if c.op = 9 then bareV c.v && decide (1 ≤ c.set.length) && decide (c.set.length ≤ 6) && (!(c.set.any fun x => !mayV x))
       else false) := by
    unfold mayT; rw [d1, d2]; rfl
  rw [hT]
  clear hT
  generalize hbv : bareV c.v = B at *
  clear hbv
  have HT : ∃ R : Bool, R = (if c.op = 1 then B && decide (c.set.length = 0)
       else if 2 ≤ c.op ∧ c.op ≤ 7 then mayV c.v && decide (c.set.length = 0)
       else if c.op = 8 then mayV c.v && decide (c.v.k = 2) && decide (c.set.length = 0)
       else if c.op = 9 then B && decide (1 ≤ c.set.length) && decide (c.set.length ≤ 6) && (!(c.set.any fun x => !mayV x))
       else false) := ⟨_, rfl⟩
  obtain ⟨R, hR⟩ := HT
  rw [← hR]
  have HR := Lib.hid hR
  clear hR
  have hcon := fun W h => hasV_any W (.slice sa c.set.length sc) c.set h 113 #[] (fun x => !mayV x) ent72 (fun W x hx _ => may72_any W x)
  have HM := fun W => vmay_any W c.v
  have hxa := hB.cell
  go_enter Tryz.func78, Tryz.ntmps78
  go_upto_region 3 with fail
  generalize w.alloc (.cells #[.string (strOf c.name), .int .i64 c.op, .int .i64 c.v.k, .int .i64 c.v.n, .string (strOf c.v.s), .bool c.v.b, .slice sa c.set.length sc] 94) = wa at *
  obtain ⟨c0, c1, c2, c3, c4, c5, c6⟩ := hxa
  go_cut [3] from 15 to 18 (fun v3 wx => v3 = .bool B ∧ wx = wa)
  case first =>
    clear hcon HM
    cases b1 : (c.v.k == 0)
    · go_wp2_with fail
      go_meet
      exact ⟨by rw [hbare.out, b1]; rfl, rfl⟩
    · cases b2 : (c.v.n == 0)
      · go_wp2_with fail
        go_meet
        exact ⟨by rw [hbare.out, b1, b2]; rfl, rfl⟩
      · cases b3 : (c.v.s == [])
        · go_wp2_with fail
          go_meet
          exact ⟨by rw [hbare.out, b1, b2, b3]; rfl, rfl⟩
        · cases b4 : (c.v.b == false)
          · go_wp2_with fail
            go_meet
            exact ⟨by rw [hbare.out, b1, b2, b3, b4]; rfl, rfl⟩
          · go_wp2_with fail
            go_meet
            exact ⟨by rw [hbare.out, b1, b2, b3, b4]; rfl, rfl⟩
  case rest =>
    obtain ⟨rfl, rfl⟩ := hcut
    clear hbare
    generalize (c.set.any fun x => !mayV x) = S at *
    generalize mayV c.v = M at *
    have hsl := hB.s
    have HB := Lib.hid hB
    clear hB
    go_upto_region 5 with (go_at_call 103; refine (hcon _ hsl).mono ?_; rintro e w2 ⟨rfl, hx2⟩; have m1 := hx2.cell c1; have m2 := hx2.cell c2; have m3 := hx2.cell c3; have m4 := hx2.cell c4; have m5 := hx2.cell c5; have m6 := hx2.cell c6)
    clear hcon c0 c1 c2 c3 c4 c5 c6 d1 d2 hn1 hn2
    have hxw := hx0.trans hx2
    by_cases h1 : c.op = 1
    · have d1 : (c.op == 1) = true := beq_iff_eq.2 h1
      have hr : Hid (R = (B && decide (c.set.length = 0))) := by show _ = _; rw [HR.out, if_pos h1]
      clear HR h1
      generalize c.set.length = n at *
      cases B
      · go_wp2_with fail
        go_ret
        exact ⟨by rw [hr.out]; rfl, hxw⟩
      · by_cases hz : n = 0
        · have z1 : ((n : Int) == 0) = true := beq_iff_eq.2 (by omega)
          go_wp2_with fail
          go_ret
          exact ⟨by rw [hr.out, decide_eq_true hz]; rfl, hxw⟩
        · have z1 : ((n : Int) == 0) = false := beq_eq_false_iff_ne.2 (by omega)
          go_wp2_with fail
          go_ret
          exact ⟨by rw [hr.out, decide_eq_false hz]; rfl, hxw⟩
    have e1 := beq_int_ne h1
    by_cases h27 : 2 ≤ c.op ∧ c.op ≤ 7
    · have d1 : decide (2 ≤ c.op) = true := decide_eq_true h27.1
      have d2 : decide (c.op ≤ 7) = true := decide_eq_true h27.2
      have hr : Hid (R = (M && decide (c.set.length = 0))) := by show _ = _; rw [HR.out, if_neg h1, if_pos h27]
      clear HR h1 h27
      generalize c.set.length = n at *
      cases M
      · go_wp2_with (go_at_call 114; refine (HM _).mono ?_; rintro e w3 ⟨rfl, hx3⟩; have m6 := hx3.cell m6)
        go_ret
        exact ⟨by rw [hr.out]; rfl, hxw.trans hx3⟩
      · by_cases hz : n = 0
        · have z1 : ((n : Int) == 0) = true := beq_iff_eq.2 (by omega)
          go_wp2_with (go_at_call 114; refine (HM _).mono ?_; rintro e w3 ⟨rfl, hx3⟩; have m6 := hx3.cell m6)
          go_ret
          exact ⟨by rw [hr.out, decide_eq_true hz]; rfl, hxw.trans hx3⟩
        · have z1 : ((n : Int) == 0) = false := beq_eq_false_iff_ne.2 (by omega)
          go_wp2_with (go_at_call 114; refine (HM _).mono ?_; rintro e w3 ⟨rfl, hx3⟩; have m6 := hx3.cell m6)
          go_ret
          exact ⟨by rw [hr.out, decide_eq_false hz]; rfl, hxw.trans hx3⟩
    by_cases h8 : c.op = 8
    · have d1 : (c.op == 8) = true := beq_iff_eq.2 h8
      have d2 : decide (2 ≤ c.op) = true := decide_eq_true (by omega)
      have d3 : decide (c.op ≤ 7) = false := decide_eq_false (by omega)
      have hr : Hid (R = (M && decide (c.v.k = 2) && decide (c.set.length = 0))) := by show _ = _; rw [HR.out, if_neg h1, if_neg h27, if_pos h8]
      clear HR h1 h27 h8
      generalize c.set.length = n at *
      cases M
      · go_wp2_with (go_at_call 114; refine (HM _).mono ?_; rintro e w3 ⟨rfl, hx3⟩; have m6 := hx3.cell m6; have m2 := hx3.cell m2)
        go_ret
        exact ⟨by rw [hr.out]; rfl, hxw.trans hx3⟩
      · by_cases hk : c.v.k = 2
        · have k1 : (c.v.k == 2) = true := beq_iff_eq.2 hk
          replace hk := Lib.hid hk
          by_cases hz : n = 0
          · have z1 : ((n : Int) == 0) = true := beq_iff_eq.2 (by omega)
            replace hz := Lib.hid hz
            go_wp2_with (go_at_call 114; refine (HM _).mono ?_; rintro e w3 ⟨rfl, hx3⟩; have m6 := hx3.cell m6; have m2 := hx3.cell m2)
            go_ret
            exact ⟨by rw [hr.out, decide_eq_true hk.out, decide_eq_true hz.out]; rfl, hxw.trans hx3⟩
          · have z1 : ((n : Int) == 0) = false := beq_eq_false_iff_ne.2 (by omega)
            replace hz := Lib.hid hz
            go_wp2_with (go_at_call 114; refine (HM _).mono ?_; rintro e w3 ⟨rfl, hx3⟩; have m6 := hx3.cell m6; have m2 := hx3.cell m2)
            go_ret
            exact ⟨by rw [hr.out, decide_eq_true hk.out, decide_eq_false hz.out]; rfl, hxw.trans hx3⟩
        · have k1 := beq_int_ne hk
          replace hk := Lib.hid hk
          go_wp2_with (go_at_call 114; refine (HM _).mono ?_; rintro e w3 ⟨rfl, hx3⟩; have m6 := hx3.cell m6; have m2 := hx3.cell m2)
          go_ret
          exact ⟨by rw [hr.out, decide_eq_false hk.out]; rfl, hxw.trans hx3⟩
    have e8 := beq_int_ne h8
    have e27 : (decide (2 ≤ c.op) = false) ∨ (decide (2 ≤ c.op) = true ∧ decide (c.op ≤ 7) = false) := by
      by_cases h2 : 2 ≤ c.op
      · exact Or.inr ⟨decide_eq_true h2, decide_eq_false fun h => h27 ⟨h2, h⟩⟩
      · exact Or.inl (decide_eq_false h2)
    by_cases h9 : c.op = 9
    · have d1 : (c.op == 9) = true := beq_iff_eq.2 h9
      have d2 : decide (2 ≤ c.op) = true := decide_eq_true (by omega)
      have d3 : decide (c.op ≤ 7) = false := decide_eq_false (by omega)
      have hr : Hid (R = (B && decide (1 ≤ c.set.length) && decide (c.set.length ≤ 6) && (!S))) := by show _ = _; rw [HR.out, if_neg h1, if_neg h27, if_neg h8, if_pos h9]
      clear HR h1 h27 h8 h9 e27
      generalize c.set.length = n at *
      cases B
      · go_wp2_with fail
        go_ret
        exact ⟨by rw [hr.out]; rfl, hxw⟩
      · by_cases hz : 1 ≤ n
        · have z1 : decide ((1 : Int) ≤ (n : Int)) = true := decide_eq_true (by omega)
          have z2 : 1 ≤ n := hz
          by_cases hy : n ≤ 6
          · have y1 : decide ((n : Int) ≤ 6) = true := decide_eq_true (by omega)
            have y2 : n ≤ 6 := hy
            go_wp2_with fail
            go_ret
            exact ⟨by rw [hr.out, decide_eq_true hz, decide_eq_true hy]; rfl, hxw⟩
          · have y1 : decide ((n : Int) ≤ 6) = false := decide_eq_false (by omega)
            have y2 : ¬ n ≤ 6 := hy
            go_wp2_with fail
            go_ret
            exact ⟨by rw [hr.out, decide_eq_true hz, decide_eq_false hy]; rfl, hxw⟩
        · have z1 : decide ((1 : Int) ≤ (n : Int)) = false := decide_eq_false (by omega)
          have z2 : ¬ 1 ≤ n := hz
          have z3 : n = 0 := by omega
          go_wp2_with fail
          go_ret
          exact ⟨by rw [hr.out, decide_eq_false hz]; cases S <;> rfl, hxw⟩
    have e9 := beq_int_ne h9
    have hr : Hid (R = false) := by show _ = _; rw [HR.out, if_neg h1, if_neg h27, if_neg h8, if_neg h9]
    clear HR h1 h27 h8 h9
    rcases e27 with e2 | ⟨e2, e7⟩
    · go_wp2_with fail
      go_ret
      exact ⟨by rw [hr.out]; rfl, hxw⟩
    · go_wp2_with fail
      go_ret
      exact ⟨by rw [hr.out]; rfl, hxw⟩

set_option maxRecDepth 100000 in
set_option maxHeartbeats 2000000 in
theorem may63_any (w : World) (c : C) (sa : Option Addr) (sc : Nat) (hs : SetR w (.slice sa c.set.length sc) c.set) :
    Calls Tryz.prog 77 #[.agg #[.string (strOf c.name), .int .i64 c.op, .int .i64 c.v.k, .int .i64 c.v.n, .string (strOf c.v.s), .bool c.v.b, .slice sa c.set.length sc]] w
      fun e w' => e = .returned (.bool (!mayC c)) ∧ Ext w w' := by
  have hx0 : Ext w (w.alloc (.cells #[.string (strOf c.name), .int .i64 c.op, .int .i64 c.v.k, .int .i64 c.v.n, .string (strOf c.v.s), .bool c.v.b, .slice sa c.set.length sc] 94)) := (Ext.refl w).alloc _
  have hs0 := hs.ext hx0
  go_enter Tryz.func77, Tryz.ntmps77
  go_wp2_with (go_at_call 78; refine (maycons_any _ c sa sc hs0).mono ?_; rintro e w2 ⟨rfl, hx2⟩)
  go_ret
  exact ⟨rfl, hx0.trans hx2⟩

set_option maxRecDepth 100000 in
set_option maxHeartbeats 2000000 in
theorem pmay_any (w : World) (v : Value) (p : List C) (hp : PredR w v p) :
    Calls Tryz.prog 58 #[v] w fun e w' => e = .returned (.bool (mayP p)) ∧ Ext w w' := by
  have hcon := fun W (hx : Ext w W) => hasC_any W v p (hp.ext hx) 77 #[] (fun c => !mayC c) ent63 (fun W' x sa sc _ _ hs => may63_any W' x sa sc hs)
  have hres : mayP p = (decide (p.length ≤ 6) && !(p.any fun c => !mayC c)) := by
    unfold mayP
    congr 1
    clear hp hcon
    induction p with
    | nil => rfl
    | cons c p ih => rw [List.all_cons, List.any_cons, ih]; cases mayC c <;> simp
  rw [hres]
  obtain ⟨ap, cp, rfl, hcp, hmp⟩ := hp.shape
  unfold maxLen at hmp
  clear hres hp
  generalize (p.any fun c => !mayC c) = S at *
  by_cases hl : p.length ≤ 6
  · have d1 : decide ((p.length : Int) ≤ 6) = true := decide_eq_true (by omega)
    rw [decide_eq_true hl]
    go_enter Tryz.func58, Tryz.ntmps58
    go_wp2_with (go_at_call 36; refine (hcon _ (Ext.refl _)).mono ?_; rintro e w' ⟨rfl, hx⟩)
    go_ret
    exact ⟨rfl, hx⟩
  · have d1 : decide ((p.length : Int) ≤ 6) = false := decide_eq_false (by omega)
    rw [decide_eq_false hl]
    go_enter Tryz.func58, Tryz.ntmps58
    go_wp2_with fail
    go_ret
    exact ⟨rfl, Ext.refl w⟩
end Go.Proofs.YtaklnpjpndkccaaGreat

namespace Go.Proofs.YtaklnpjpndkccaaGreat.Rg
open Go.RowKit

/-- A way in which memory may turn. -/
structure Step where
  rel : World → World → Prop
  refl : ∀ w : World, rel w w
  trans : ∀ {a b c : World}, rel a b → rel b c → rel a c
  drew : ∀ w : World, rel w w.drew

section
variable {P : Program} (S : Step)

/-- What an operation must come to: no panic, memory only grows, its value has its fact. -/
def endQ (F : Value → World → Prop) (o : Oper) (a : Act) (w : World) : Exit → Act → World → Prop :=
  fun e a' w' => e = .normal ∧ S.rel w w' ∧ a'.defers = a.defers ∧ F (match o.dst with | some d => a'.tmps.getD d undef | none => undef) w'

def Ob (P : Program) (ops : Array Oper) (F : Nat → Value → World → Prop) (a0 : Act) (w0 : World) (i : Nat) (o : Oper) (D : List (Nat × Tmp)) : Prop :=
  ∀ w, S.rel w0 w → depsThen F w D a0 (fun a => wpList P ops (endQ S (F i) o a w) [o] a w)

def Obs (P : Program) (ops : Array Oper) (F : Nat → Value → World → Prop) (a0 : Act) (w0 : World) : Nat → List Oper → List (List (Nat × Tmp)) → Prop
  | _, [], _ => True
  | i, o :: os, D => Ob S P ops F a0 w0 i o (D.headD []) ∧ Obs P ops F a0 w0 (i + 1) os D.tail


theorem Obs_get {ops : Array Oper} {F : Nat → Value → World → Prop} {a0 : Act} {w0 : World} : ∀ {l : List Oper} {k : Nat} {D : List (List (Nat × Tmp))}, Obs S P ops F a0 w0 k l D →
    ∀ i o, l[i]? = some o → Ob S P ops F a0 w0 (k + i) o (D.getD i [])
  | [], _, _, _, _, _, h => by simp at h
  | o :: os, k, D, hb, i, o', h => by
    simp only [Obs] at hb
    cases i with
    | zero => simp at h; subst h; cases D <;> simpa using hb.1
    | succ i =>
      have := Obs_get hb.2 i o' (by simpa using h)
      cases D <;> simpa [Nat.add_assoc, Nat.add_comm 1 i] using this

structure Inv (ops : Array Oper) (F : Nat → Value → World → Prop) (a0 : Act) (w0 : World) (listed : Array Bool) (a : Act) (w : World) : Prop where
  size : listed.size = ops.size
  ts : a.tmps.size = a0.tmps.size
  df : a.defers = a0.defers
  old : ∀ s, (∀ j, dstOf ops j = some s → listed.getD j false = false) → a.tmps.getD s undef = a0.tmps.getD s undef
  fact : ∀ j, j < ops.size → listed.getD j false = true → F j (match dstOf ops j with | some d => a.tmps.getD d undef | none => undef) w
  down : ∀ j, listed.getD j false = true → ∀ i, waits ops j i = true → listed.getD i false = true
  ext : S.rel w0 w

theorem region_any {ops : Array Oper} {F : Nat → Value → World → Prop} {a0 : Act} {w0 : World} {D : List (List (Nat × Tmp))} {E : List (Nat × Tmp)} {Q : Exit → Act → World → Prop}
    (hok : opsOk ops a0.tmps.size 0 ops.toList D = true) (hE : endOk ops E = true)
    (hst : ∀ i v w w', S.rel w w' → F i v w → F i v w')
    (hob : Obs S P ops F a0 w0 0 ops.toList D)
    (hend : ∀ w, S.rel w0 w → depsThen F w E a0 (fun a => Q .normal a w)) :
    ∀ (fuel : Nat) (listed : Array Bool) (a : Act) (w : World), listed.count false = fuel → Inv S ops F a0 w0 listed a w → wpAny P .any ops Q fuel listed a w := by
  have hall : ∀ {i o}, ops[i]? = some o → opOk ops a0.tmps.size i o (D.getD i []) = true := fun {i o} h => by
    have := opsOk_get hok i o (by simpa using h); simpa using this
  have hobs : ∀ {i o}, ops[i]? = some o → Ob S P ops F a0 w0 i o (D.getD i []) := fun {i o} h => by
    have := Obs_get S hob i o (by simpa using h); simpa using this
  -- all that are listed: the end
  have fin : ∀ (listed : Array Bool) (a : Act) (w : World), (∀ j, j < ops.size → listed.getD j false = true) → Inv S ops F a0 w0 listed a w → Q .normal a w := by
    intro listed a w hl hI
    simp only [endOk, Bool.and_eq_true] at hE
    have hdl : ∀ {j d}, dstOf ops j = some d → j < ops.size := fun {j d} hj => by
      unfold dstOf at hj
      rcases Nat.lt_or_ge j ops.size with h' | h'
      · exact h'
      · rw [Array.getElem?_eq_none h'] at hj; cases hj
    obtain ⟨c, hk, hc1, hc2, hc3⟩ := depsThen_at a _ E a0 hI.ts.symm (fun p hp => by
      have hd : dstOf ops p.1 = some p.2 := by simpa using List.all_eq_true.1 hE.1 p hp
      have := hI.fact p.1 (hdl hd) (hl p.1 (hdl hd))
      simp only [hd] at this
      exact this) (hend w hI.ext)
    have : c = a := by
      obtain ⟨ct, cd⟩ := c
      obtain ⟨at', ad⟩ := a
      have e2 : cd = ad := hc2.trans hI.df.symm
      have e1 : ct = at' := by
        apply Array.ext_getElem?
        intro s
        refine tmps_ext (a := ⟨ct, cd⟩) (b := ⟨at', ad⟩) hc1 ?_
        rw [hc3]
        split
        · rfl
        · rename_i hn
          refine (hI.old s fun j hj => ?_).symm
          exfalso
          have h2 := List.all_eq_true.1 hE.2 j (List.mem_range.2 (hdl hj))
          simp only [hj, List.any_eq_true, beq_iff_eq] at h2
          obtain ⟨p, hp, hpj⟩ := h2
          have hd : dstOf ops p.1 = some p.2 := by simpa using List.all_eq_true.1 hE.1 p hp
          rw [hpj, hj] at hd
          exact hn ⟨p, hp, (Option.some.inj hd).symm⟩
      rw [e1, e2]
    rw [← this]; exact hk
  -- nothing ready: all are listed
  have noReady : ∀ (listed : Array Bool), listed.size = ops.size → Region.ready .any ops listed = [] → ∀ j, j < ops.size → listed.getD j false = true := by
    intro listed hs hr j
    induction j using Nat.strongRecOn with
    | _ j ih =>
      intro hj
      cases hlj : listed.getD j false with
      | true => rfl
      | false =>
        exfalso
        have ho : ops[j]? = some ops[j] := by simp [hj]
        have hmem : j ∈ Region.ready .any ops listed := by
          refine mem_ready.2 ⟨?_, ops[j], ho, fun e he hb => ?_⟩
          · have : j < listed.size := hs ▸ hj
            simp [this] at hlj ⊢; exact hlj
          · have h1 := hall ho
            simp only [opOk, Bool.and_eq_true] at h1
            have h2 := (Array.all_eq_true_iff_forall_mem.1 h1.1.2) e he
            simp [hb] at h2
            exact ih e.on h2 (by omega)
        rw [hr] at hmem
        cases hmem
  intro fuel
  induction fuel with
  | zero =>
    intro listed a w hc hI
    have hl : ∀ j, j < ops.size → listed.getD j false = true := by
      intro j hj
      have hj' : j < listed.size := hI.size ▸ hj
      have := Array.count_eq_zero.1 hc
      have h2 : listed[j] ≠ false := fun e => this (e ▸ Array.getElem_mem hj')
      simp [hj']; simpa using h2
    refine ⟨?_, fin listed a w hl hI⟩
    cases hr : Region.ready .any ops listed with
    | nil => rfl
    | cons i rs =>
      have hm : i ∈ Region.ready .any ops listed := by rw [hr]; exact List.mem_cons_self
      obtain ⟨h0, o, ho, _⟩ := mem_ready.1 hm
      have hi : i < ops.size := (Array.getElem?_eq_some_iff.1 ho).1
      have h1 := hl i hi
      have hi' : i < listed.size := hI.size ▸ hi
      simp [hi'] at h0 h1
      rw [h0] at h1; cases h1
  | succ fuel ih =>
    intro listed a w hc hI
    refine ⟨fun hr => fin listed a w (noReady listed hI.size hr) hI, fun i hi => ?_⟩
    obtain ⟨h0, o, ho, hafter⟩ := mem_ready.1 hi
    have hil : i < ops.size := (Array.getElem?_eq_some_iff.1 ho).1
    have hil' : i < listed.size := hI.size ▸ hil
    have h0' : listed.getD i false = false := by simp [hil'] at h0 ⊢; exact h0
    have hopk := hall ho
    simp only [opOk, Bool.and_eq_true] at hopk
    obtain ⟨⟨⟨⟨hk1, hk2⟩, hk3⟩, hk4⟩, hk5⟩ := hopk
    have hdep2 : ∀ p ∈ D.getD i [], waits ops i p.1 = true ∧ dstOf ops p.1 = some p.2 := fun p hp => by
      have := List.all_eq_true.1 hk3 p hp
      simpa using this
    have hdeps : ∀ p ∈ D.getD i [], listed.getD p.1 false = true := fun p hp => waits_of_ready hi p.1 (hdep2 p hp).1
    have hsel : ∀ cs b, o.op ≠ .select cs b := by intro cs b e; rw [e] at hk2; cases hk2
    have hjlt : ∀ j, listed.getD j false = true → j < ops.size := fun j hj => by
      rcases Nat.lt_or_ge j listed.size with h' | h'
      · exact hI.size ▸ h'
      · simp [Array.getElem?_eq_none h'] at hj
    obtain ⟨c, hk, hc1, hc2, hc3⟩ := depsThen_at a _ (D.getD i []) a0 hI.ts.symm (fun p hp => by
      have := hI.fact p.1 (hjlt p.1 (hdeps p hp)) (hdeps p hp)
      simp only [(hdep2 p hp).2] at this
      exact this) (hobs ho w hI.ext)
    -- what the operation looks at stands in 'c' as in 'a'
    have same : ∀ s ∈ o.looksAt ops, c.tmps[s]? = a.tmps[s]? := by
      intro s hs
      refine tmps_ext hc1 ?_
      rw [hc3]
      split
      · rfl
      · rename_i hn
        refine (hI.old s fun j hj => ?_).symm
        have hjl : j < ops.size := by
          unfold dstOf at hj
          rcases Nat.lt_or_ge j ops.size with h' | h'
          · exact h'
          · rw [Array.getElem?_eq_none h'] at hj; cases hj
        have h1 := List.all_eq_true.1 (List.all_eq_true.1 hk5 s hs) j (List.mem_range.2 hjl)
        simp only [Bool.or_eq_true, bne_iff_ne, ne_eq, beq_iff_eq] at h1
        rcases h1 with ((h1 | h1) | h1) | h1
        · exact absurd hj h1
        · exfalso
          rw [List.any_eq_true] at h1
          obtain ⟨p, hp, hpj⟩ := h1
          have hd := (hdep2 p hp).2
          rw [eq_of_beq hpj, hj] at hd
          exact hn ⟨p, hp, (Option.some.inj hd).symm⟩
        · rw [h1]; exact h0'
        · cases hlj : listed.getD j false with
          | false => rfl
          | true => have := hI.down j hlj i h1; rw [h0'] at this; cases this
    have heval : execOp c.eval o = execOp a.eval o := execOp_congr o hsel fun x hx => by
      cases x with
      | tmp t =>
        have := same t (List.mem_append_left _ (List.mem_filterMap.2 ⟨.tmp t, by simpa using hx, rfl⟩))
        simp [Act.eval, this]
      | _ => rfl
    have hwant : Region.wanted o (yielded ops c.tmps) = Region.wanted o (yielded ops a.tmps) := by
      unfold Region.wanted
      cases hg : o.guard with
      | none => rfl
      | some gw =>
        obtain ⟨g, want⟩ := gw
        have hy : yielded ops c.tmps g = yielded ops a.tmps g := by
          unfold yielded
          cases ht : (ops[g]?).bind (·.dst) with
          | none => rfl
          | some t =>
            have := same t (by simp [Oper.looksAt, hg, ht])
            simp [this]
        simp only [hy]
    -- the invariant behind the operation
    have next : ∀ v w', S.rel w w' → F i (match o.dst with | some d => (c.put o.dst v).tmps.getD d undef | none => undef) w' →
        wpAny P .any ops Q fuel (listed.setIfInBounds i true) (a.put o.dst v) w' := by
      intro v w' hx hF
      have hdst : dstOf ops i = o.dst := by simp [dstOf, ho]
      refine ih _ _ _ ?_ ⟨by simpa using hI.size, by rw [put_size]; exact hI.ts, by rw [put_defers]; exact hI.df, ?_, ?_, ?_, S.trans hI.ext hx⟩
      · have hset : listed.setIfInBounds i true = listed.set i true hil' := by simp [Array.setIfInBounds, hil']
        rw [hset, Array.count_set]
        have : listed[i] = false := by simpa [hil'] using h0'
        simp [this]; omega
      · intro s hs
        have hne : o.dst ≠ some s := fun e => by
          have := hs i (hdst.trans e)
          simp [hil'] at this
        rw [put_getD_ne _ hne]
        refine hI.old s fun j hj => ?_
        by_cases hji : i = j
        · rw [← hji]; exact h0'
        · have := hs j hj
          rwa [getD_set_ne false hji] at this
      · intro j hj hlj
        by_cases hji : i = j
        · subst hji
          rw [hdst]
          cases hd : o.dst with
          | none => simp only [hd] at hF; exact hF
          | some d =>
            simp only [hd] at hF hk1
            simp only [Bool.and_eq_true, decide_eq_true_eq] at hk1
            rw [put_getD_eq _ (by rw [hc1, hI.ts]; exact hk1.1)] at hF
            show F i ((a.put (some d) v).tmps.getD d undef) w'
            rw [put_getD_eq _ (by rw [hI.ts]; exact hk1.1)]
            exact hF
        · rw [getD_set_ne false hji] at hlj
          have hfj := hst _ _ _ _ hx (hI.fact j hj hlj)
          cases hdj : dstOf ops j with
          | none => simp only [hdj] at hfj; exact hfj
          | some d =>
            simp only [hdj] at hfj
            have hne : o.dst ≠ some d := fun e => by
              rw [e] at hk1
              simp only [Bool.and_eq_true] at hk1
              have := List.all_eq_true.1 hk1.2 j (List.mem_range.2 hj)
              simp [hdj, Ne.symm hji] at this
            show F j ((a.put o.dst v).tmps.getD d undef) w'
            rw [put_getD_ne _ hne]
            exact hfj
      · intro j hlj k hw
        by_cases hji : i = j
        · subst hji; exact getD_set_true (waits_of_ready hi k hw)
        · rw [getD_set_ne false hji] at hlj
          exact getD_set_true (hI.down j hlj k hw)
    -- the operation itself
    unfold wpOp
    rw [ho]
    simp only []
    rw [← hwant]
    simp only [wpList] at hk
    split
    · rename_i hw
      rw [if_pos hw] at hk
      rcases hk with hk | ⟨_, x, y, hxy⟩
      · refine .inl ?_
        unfold Oper.wp at hk ⊢
        rw [heval] at hk
        generalize (execOp a.eval o).run P w = r at *
        cases r with
        | ok n w' =>
          cases n <;> simp only [Oper.upon] at hk ⊢
          case value u => exact next u w' hk.2.1 hk.2.2.2
          case skip => exact next undef w' hk.2.1 hk.2.2.2
          case defer d =>
            have := hk.2.2.1
            rw [put_defers] at this
            exact absurd this (by simp)
          case enter f args =>
            refine Calls.mono hk fun e w'' he => ?_
            cases e with
            | returned u => exact next u w'' he.2.1 he.2.2.2
            | panicked c => exact absurd he.1 (by simp)
            | outgrown => obtain ⟨_, _, h⟩ := he; exact absurd h.1 (by simp)
          case row row args => exact Rows.mono hk fun u w'' he => next u w'' he.2.1 he.2.2.2
        | halt x w' =>
          cases x <;> simp only [Oper.upon] at hk ⊢
          case panic u => exact absurd hk.1 (by simp)
      · exact absurd hxy.1 (by simp)
    · rename_i hw
      rw [if_neg hw] at hk
      exact next undef w hk.2.1 hk.2.2.2

/-- A fact on a value that stays true while memory only grows. -/
structure Fact where
  p : Value → World → Prop
  st : ∀ v w w', S.rel w w' → p v w → p v w'

def Fact.any : Fact S := ⟨fun _ _ => True, fun _ _ _ _ h => h⟩
def Fact.eq (u : Value) : Fact S := ⟨fun v _ => v = u, fun _ _ _ _ h => h⟩
/-- The facts of the operations in order. -/
def factAt (Fs : List (Fact S)) (i : Nat) : Value → World → Prop := (Fs.getD i (Fact.any S)).p

/-- A REGION THAT DRAWS ITS ORDER: each operation is shown once, over the facts of those that it waits for (D: for each operation their numbers and slots; E: of all). -/
theorem wp_region_facts {id : Nat} {l : List Oper} (Fs : List (Fact S)) (D : List (List (Nat × Tmp))) (E : List (Nat × Tmp)) {a0 : Act} {w0 : World} {Q : Exit → Act → World → Prop}
    (hm : P.follows .mixedOrders = true)
    (hok : (opsOk l.toArray a0.tmps.size 0 l D && endOk l.toArray E) = true)
    (hob : Obs S P l.toArray (factAt S Fs) a0 w0 0 l D)
    (hend : ∀ w, S.rel w0 w → depsThen (factAt S Fs) w E a0 (fun a => Q .normal a w)) :
    (Code.region id l.toArray true).wp P Q a0 w0 := by
  simp only [Bool.and_eq_true] at hok
  refine wp_region_any hm (region_any S (F := factAt S Fs) (D := D) (E := E) (w0 := w0) (by simpa using hok.1) hok.2 (fun i v w w' hx h => (Fs.getD i (Fact.any S)).st v w w' hx h) (by simpa using hob) hend _ _ _ _ ?_ ?_)
  · simp
  · have hno : ∀ j, (Array.replicate l.toArray.size false).getD j false = false := fun j => by
      simp only [Array.getD_eq_getD_getElem?, Array.getElem?_replicate]; split <;> rfl
    exact ⟨by simp, rfl, rfl, fun _ _ => rfl, fun j _ h => (by rw [hno] at h; cases h), fun j h => (by rw [hno] at h; cases h), S.drew w0⟩

theorem ob_val {F : Value → World → Prop} {ops : Array Oper} {a : Act} {w w' : World} {o : Oper} {v : Value} {d : Nat}
    (hw : Region.wanted o (yielded ops a.tmps) = true) (hr : (execOp a.eval o).run P w = .ok (.value v) w') (hx : S.rel w w') (hd : o.dst = some d) (hs : decide (d < a.tmps.size) = true) (hf : F v w') :
    wpList P ops (endQ S F o a w) [o] a w := by
  refine wpList_val hw hr (wpList_nil ⟨rfl, hx, put_defers _ _ _, ?_⟩)
  rw [hd]
  show F ((a.put (some d) v).tmps.getD d undef) w'
  rw [put_getD_eq _ (of_decide_eq_true hs)]; exact hf
theorem ob_move {F : Value → World → Prop} {ops : Array Oper} {a : Act} {w : World} {o : Oper} {x : Operand} {d : Nat}
    (hw : Region.wanted o (yielded ops a.tmps) = true) (ho : o.op = .move x) (hd : o.dst = some d) (hs : decide (d < a.tmps.size) = true) (hf : F (a.eval x) w) :
    wpList P ops (endQ S F o a w) [o] a w := ob_val S hw (by simp [execOp, ho]) (S.refl w) hd hs hf
theorem ob_assign {F : Value → World → Prop} {ops : Array Oper} {a : Act} {w : World} {o : Oper} {x : Operand} {d : Nat}
    (hw : Region.wanted o (yielded ops a.tmps) = true) (ho : o.op = .assign x) (hd : o.dst = some d) (hs : decide (d < a.tmps.size) = true) (hf : F (a.eval x) w) :
    wpList P ops (endQ S F o a w) [o] a w := ob_val S hw (by simp [execOp, ho]) (S.refl w) hd hs hf

end
end Go.Proofs.YtaklnpjpndkccaaGreat.Rg

namespace Go.Proofs.YtaklnpjpndkccaaGreat
open Go.RowKit

def orL : List Int → Int
  | [] => 0
  | x :: r => if x = 0 then orL r else x
theorem orL4 (a b c d : Int) : orL [a, b, c, d] = or2 a (or2 b (or2 c d)) := by
  simp only [orL, or2]
  (repeat' split) <;> simp_all
theorem orL_zero {l : List Int} {k : Nat} (hk : k < l.length) (h : l[k] = 0) : orL (l.drop k) = orL (l.drop (k + 1)) := by
  rw [List.drop_eq_getElem_cons hk, orL, if_pos h]
theorem orL_hit {l : List Int} {k : Nat} (hk : k < l.length) (h : l[k] ≠ 0) : orL (l.drop k) = l[k] := by
  rw [List.drop_eq_getElem_cons hk, orL, if_neg h]

set_option maxRecDepth 100000 in
set_option maxHeartbeats 2000000 in
theorem or_any (w : World) (v : Value) (l : List Int) (h : Row w 1 v l.length (l.map (Value.int .i64))) : Calls Tryz.prog 129 #[v] w fun e w' => e = .returned (.int .i64 (orL l)) ∧ w' = w := by
  obtain ⟨a, cap, rfl, hc, hm⟩ := Row.shape h
  unfold maxLen at hm
  generalize hn : l.length = n at *
  have HN := Lib.hid hn
  clear hn
  go_enter Tryz.func129, Tryz.ntmps129
  go_wp2_with fail
  go_loopw [5, 8] (fun _ i wr => ∃ k : Nat, k ≤ n ∧ i = .int .i64 k ∧ Hid (orL (l.drop k) = orL l) ∧ wr = w) (fun _ i _ => n - (intOf i).toNat)
  case atStart => exact ⟨0, Nat.zero_le _, rfl, rfl, rfl⟩
  case round =>
    obtain ⟨k, hk, rfl, hor, rfl⟩ := hrel
    by_cases hlt : k < n
    · have k1 : k < l.length := by rw [HN.out]; exact hlt
      have hI : decide ((k : Int) < (n : Int)) = true := decide_eq_true (by omega)
      obtain ⟨B, o, rfl, f0⟩ := Row.cell h (j := k) (u := .int .i64 l[k]) (by rw [List.getElem?_map, List.getElem?_eq_getElem k1]; rfl) (by omega)
      by_cases hz : l[k] = 0
      · have hnx : Hid (orL (l.drop (k + 1)) = orL l) := by show _ = _; rw [← orL_zero k1 hz, hor.out]
        rw [hz] at f0
        clear hz
        go_wp2_with fail
        go_roundw
        case rel => exact ⟨k + 1, hlt, by go_num, hnx, by first | rfl | trivial⟩
        case measure => simp [intOf]; omega
      · have hhit : Hid (orL l = l[k]) := by show _ = _; rw [← hor.out, orL_hit k1 hz]
        have hd : (l[k] != 0) = true := by simp [hz]
        have hd1 : (l[k] == 0) = false := beq_int_ne hz
        generalize l[k] = x at *
        replace hz := Lib.hid hz
        go_wp2_with fail
        go_ret
        exact ⟨by rw [hhit.out]; rfl, rfl⟩
    · obtain rfl : k = n := by omega
      have hI : decide ((k : Int) < (k : Int)) = false := decide_eq_false (by omega)
      have hz : Hid (orL l = 0) := by show _ = _; rw [← hor.out, ← HN.out, List.drop_length]; rfl
      go_wp2_with fail
      go_ret
      exact ⟨by rw [hz.out]; rfl, rfl⟩

/-- Worlds that grew and drew: a way in which memory may turn. -/
def GrewS : Rg.Step := ⟨Grew, Grew.refl, fun h k => Grew.trans h k, fun w => (Grew.refl w).drew⟩
def Rg.Fact.ints (l : List Int) : Rg.Fact GrewS := ⟨fun v w => Row w 1 v l.length (l.map (Value.int .i64)), fun _ _ _ hx h => Row.ext h hx.1⟩
theorem row_four (w : World) (a b c d : Int) : Row (w.alloc (.cells #[.int .i64 a, .int .i64 b, .int .i64 c, .int .i64 d] 3)) 1 (.slice (some ⟨w.heap.size, 0, none⟩) 4 4) [a, b, c, d].length ([a, b, c, d].map (Value.int .i64)) := by
  have := World.ownsRow_lit (base := w.heap.size) (e := 3) (size := 1) w #[.int .i64 a, .int .i64 b, .int .i64 c, .int .i64 d] 4 (Nat.le_refl _) (by decide) rfl
  exact Row.of_own this

set_option maxRecDepth 100000 in
set_option maxHeartbeats 4000000 in
theorem whole_any (w : World) (a b : V) :
    Calls Tryz.prog 130 #[.agg #[.int .i64 a.k, .int .i64 a.n, .string (strOf a.s), .bool a.b], .agg #[.int .i64 b.k, .int .i64 b.n, .string (strOf b.s), .bool b.b]] w
      fun e w' => e = .returned (.int .i64 (wholeV a b)) ∧ Grew w w' := by
  have hx0 : Grew w ((w.alloc (.cells #[.int .i64 a.k, .int .i64 a.n, .string (strOf a.s), .bool a.b] 80)).alloc (.cells #[.int .i64 b.k, .int .i64 b.n, .string (strOf b.s), .bool b.b] 80)) := ((Grew.refl w).alloc _).alloc _
  have hA : ((w.alloc (.cells #[.int .i64 a.k, .int .i64 a.n, .string (strOf a.s), .bool a.b] 80)).alloc (.cells #[.int .i64 b.k, .int .i64 b.n, .string (strOf b.s), .bool b.b] 80)).heap[w.heap.size]? = some (.cells #[.int .i64 a.k, .int .i64 a.n, .string (strOf a.s), .bool a.b] 80 (0, 0)) := by
    have h := heap_alloc_new w (.cells #[.int .i64 a.k, .int .i64 a.n, .string (strOf a.s), .bool a.b] 80)
    rw [((Ext.refl _).alloc _).block _ (Array.getElem?_eq_some_iff.1 h).1]; exact h
  have hN : ((w.alloc (.cells #[.int .i64 a.k, .int .i64 a.n, .string (strOf a.s), .bool a.b] 80)).alloc (.cells #[.int .i64 b.k, .int .i64 b.n, .string (strOf b.s), .bool b.b] 80)).heap[w.heap.size + 1]? = some (.cells #[.int .i64 b.k, .int .i64 b.n, .string (strOf b.s), .bool b.b] 80 (0, 0)) := by
    have h := heap_alloc_new (w.alloc (.cells #[.int .i64 a.k, .int .i64 a.n, .string (strOf a.s), .bool a.b] 80)) (.cells #[.int .i64 b.k, .int .i64 b.n, .string (strOf b.s), .bool b.b] 80)
    rw [World.size_alloc] at h; exact h
  have a0 := cell_of_row _ _ 0 _ _ _ hA
  have a1 := cell_of_row _ _ 1 _ _ _ hA
  have a2 := cell_of_row _ _ 2 _ _ _ hA
  have a3 := cell_of_row _ _ 3 _ _ _ hA
  have b0 := cell_of_row _ _ 0 _ _ _ hN
  have b1 := cell_of_row _ _ 1 _ _ _ hN
  have b2 := cell_of_row _ _ 2 _ _ _ hN
  have b3 := cell_of_row _ _ 3 _ _ _ hN
  have hres : wholeV a b = orL [cmpV a b, Lib.compareInt a.n b.n, Lib.compareBytes a.s b.s, cmpB a.b b.b] := by rw [orL4]; rfl
  have hcB : ∀ W, Calls Tryz.prog 61 #[.agg #[.int .i64 3, .int .i64 0, .string (strOf []), .bool a.b], .agg #[.int .i64 3, .int .i64 0, .string (strOf []), .bool b.b]] W fun e w' => e = .returned (.int .i64 (cmpB a.b b.b)) ∧ Grew W w' := fun W => compare_any W 3 0 3 0 [] [] a.b b.b
  rw [hres]
  clear hA hN hres
  go_enter Tryz.func130, Tryz.ntmps130
  go_upto_region 1 with fail
  generalize (w.alloc (.cells #[.int .i64 a.k, .int .i64 a.n, .string (strOf a.s), .bool a.b] 80)).alloc (.cells #[.int .i64 b.k, .int .i64 b.n, .string (strOf b.s), .bool b.b] 80) = wa at *
  refine Rg.wp_region_facts GrewS [Rg.Fact.eq _ (.agg #[.int .i64 a.k, .int .i64 a.n, .string (strOf a.s), .bool a.b]),
      Rg.Fact.eq _ (.agg #[.int .i64 b.k, .int .i64 b.n, .string (strOf b.s), .bool b.b]),
      Rg.Fact.eq _ (.int .i64 (cmpV a b)),
      Rg.Fact.eq _ (.pointer (some ⟨w.heap.size, 1, none⟩)),
      Rg.Fact.eq _ (.int .i64 a.n),
      Rg.Fact.eq _ (.pointer (some ⟨w.heap.size + 1, 1, none⟩)),
      Rg.Fact.eq _ (.int .i64 b.n),
      Rg.Fact.eq _ (.int .i64 (Lib.compareInt a.n b.n)),
      Rg.Fact.eq _ (.pointer (some ⟨w.heap.size, 2, none⟩)),
      Rg.Fact.eq _ (.string (strOf a.s)),
      Rg.Fact.eq _ (.pointer (some ⟨w.heap.size + 1, 2, none⟩)),
      Rg.Fact.eq _ (.string (strOf b.s)),
      Rg.Fact.eq _ (.int .i64 (Lib.compareBytes a.s b.s)),
      Rg.Fact.eq _ (.pointer (some ⟨w.heap.size, 3, none⟩)),
      Rg.Fact.eq _ (.bool a.b),
      Rg.Fact.eq _ (.agg #[.int .i64 3, .int .i64 0, .string (strOf []), .bool a.b]),
      Rg.Fact.eq _ (.pointer (some ⟨w.heap.size + 1, 3, none⟩)),
      Rg.Fact.eq _ (.bool b.b),
      Rg.Fact.eq _ (.agg #[.int .i64 3, .int .i64 0, .string (strOf []), .bool b.b]),
      Rg.Fact.eq _ (.int .i64 (cmpB a.b b.b)),
      Rg.Fact.ints [cmpV a b, Lib.compareInt a.n b.n, Lib.compareBytes a.s b.s, cmpB a.b b.b],
      Rg.Fact.eq _ (.int .i64 (orL [cmpV a b, Lib.compareInt a.n b.n, Lib.compareBytes a.s b.s, cmpB a.b b.b])),
      Rg.Fact.eq _ (.int .i64 (orL [cmpV a b, Lib.compareInt a.n b.n, Lib.compareBytes a.s b.s, cmpB a.b b.b]))]
    [[], [], [(0, 5), (1, 6)], [], [(3, 8)], [], [(5, 10)], [(4, 9), (6, 11)], [], [(8, 13)], [], [(10, 15)], [(9, 14), (11, 16)], [], [(13, 18)], [(14, 19)], [], [(16, 21)], [(17, 22)], [(15, 20), (18, 23)], [(2, 7), (7, 12), (12, 17), (19, 24)], [(20, 25)], [(21, 26)]]
    [(0, 5), (1, 6), (2, 7), (3, 8), (4, 9), (5, 10), (6, 11), (7, 12), (8, 13), (9, 14), (10, 15), (11, 16), (12, 17), (13, 18), (14, 19), (15, 20), (16, 21), (17, 22), (18, 23), (19, 24), (20, 25), (21, 26), (22, 4)] (by kernel_rfl) (by kernel_rfl) ?_ ?_
  · refine ⟨?_, ?_, ?_, ?_, ?_, ?_, ?_, ?_, ?_, ?_, ?_, ?_, ?_, ?_, ?_, ?_, ?_, ?_, ?_, ?_, ?_, ?_, ?_, trivial⟩
    · intro w1 hx1; change wpList _ _ _ _ _ _; have m0 := hx1.1.cell a0; have m1 := hx1.1.cell a1; have m2 := hx1.1.cell a2; have m3 := hx1.1.cell a3; go_wp2_with fail; exact ⟨rfl, GrewS.refl _, rfl, rfl⟩
    · intro w1 hx1; change wpList _ _ _ _ _ _; have m0 := hx1.1.cell b0; have m1 := hx1.1.cell b1; have m2 := hx1.1.cell b2; have m3 := hx1.1.cell b3; go_wp2_with fail; exact ⟨rfl, GrewS.refl _, rfl, rfl⟩
    · intro w1 hx1; rintro _ rfl; rintro _ rfl; change wpList _ _ _ _ _ _; go_wp2_with fail; refine (cmpV_any _ a b).mono ?_; rintro e w2 ⟨rfl, hx2⟩; go_wp2_with fail; exact ⟨rfl, hx2, rfl, rfl⟩
    · intro w1 hx1; change wpList _ _ _ _ _ _; go_wp2_with fail; exact ⟨rfl, GrewS.refl _, rfl, rfl⟩
    · intro w1 hx1; rintro _ rfl; change wpList _ _ _ _ _ _; have m := hx1.1.cell a1; go_wp2_with fail; exact ⟨rfl, GrewS.refl _, rfl, rfl⟩
    · intro w1 hx1; change wpList _ _ _ _ _ _; go_wp2_with fail; exact ⟨rfl, GrewS.refl _, rfl, rfl⟩
    · intro w1 hx1; rintro _ rfl; change wpList _ _ _ _ _ _; have m := hx1.1.cell b1; go_wp2_with fail; exact ⟨rfl, GrewS.refl _, rfl, rfl⟩
    · intro w1 hx1; rintro _ rfl; rintro _ rfl; change wpList _ _ _ _ _ _; go_wp2_with fail; refine (cmpint64_any _ _ _).mono ?_; rintro e w2 ⟨rfl, rfl⟩; go_wp2_with fail; exact ⟨rfl, GrewS.refl _, rfl, rfl⟩
    · intro w1 hx1; change wpList _ _ _ _ _ _; go_wp2_with fail; exact ⟨rfl, GrewS.refl _, rfl, rfl⟩
    · intro w1 hx1; rintro _ rfl; change wpList _ _ _ _ _ _; have m := hx1.1.cell a2; go_wp2_with fail; exact ⟨rfl, GrewS.refl _, rfl, rfl⟩
    · intro w1 hx1; change wpList _ _ _ _ _ _; go_wp2_with fail; exact ⟨rfl, GrewS.refl _, rfl, rfl⟩
    · intro w1 hx1; rintro _ rfl; change wpList _ _ _ _ _ _; have m := hx1.1.cell b2; go_wp2_with fail; exact ⟨rfl, GrewS.refl _, rfl, rfl⟩
    · intro w1 hx1; rintro _ rfl; rintro _ rfl; change wpList _ _ _ _ _ _; go_wp2_with fail; refine (cmpstr_any _ _ _).mono ?_; rintro e w2 ⟨rfl, rfl⟩; go_wp2_with fail; exact ⟨rfl, GrewS.refl _, rfl, rfl⟩
    · intro w1 hx1; change wpList _ _ _ _ _ _; go_wp2_with fail; exact ⟨rfl, GrewS.refl _, rfl, rfl⟩
    · intro w1 hx1; rintro _ rfl; change wpList _ _ _ _ _ _; have m := hx1.1.cell a3; go_wp2_with fail; exact ⟨rfl, GrewS.refl _, rfl, rfl⟩
    · intro w1 hx1; rintro _ rfl; change wpList _ _ _ _ _ _; go_wp2_with fail; refine (truth_any _ _).mono ?_; rintro e w2 ⟨rfl, hx2⟩; go_wp2_with fail; exact ⟨rfl, hx2, rfl, rfl⟩
    · intro w1 hx1; change wpList _ _ _ _ _ _; go_wp2_with fail; exact ⟨rfl, GrewS.refl _, rfl, rfl⟩
    · intro w1 hx1; rintro _ rfl; change wpList _ _ _ _ _ _; have m := hx1.1.cell b3; go_wp2_with fail; exact ⟨rfl, GrewS.refl _, rfl, rfl⟩
    · intro w1 hx1; rintro _ rfl; change wpList _ _ _ _ _ _; go_wp2_with fail; refine (truth_any _ _).mono ?_; rintro e w2 ⟨rfl, hx2⟩; go_wp2_with fail; exact ⟨rfl, hx2, rfl, rfl⟩
    · intro w1 hx1; rintro _ rfl; rintro _ rfl; change wpList _ _ _ _ _ _; go_wp2_with fail; refine (hcB _).mono ?_; rintro e w2 ⟨rfl, hx2⟩; go_wp2_with fail; exact ⟨rfl, hx2, rfl, rfl⟩
    · intro w1 hx1; rintro _ rfl; rintro _ rfl; rintro _ rfl; rintro _ rfl; change wpList _ _ _ _ _ _; have hr := row_four w1 (cmpV a b) (Lib.compareInt a.n b.n) (Lib.compareBytes a.s b.s) (cmpB a.b b.b); go_wp2_with fail; exact ⟨rfl, (Grew.refl w1).alloc _, rfl, hr⟩
    · intro w1 hx1; intro v25 h25; change wpList _ _ _ _ _ _; go_wp2_with fail; refine (or_any _ _ _ h25).mono ?_; rintro e w2 ⟨rfl, rfl⟩; go_wp2_with fail; exact ⟨rfl, GrewS.refl _, rfl, rfl⟩
    · intro w1 hx1; rintro _ rfl; change wpList _ _ _ _ _ _; exact Rg.ob_assign _ rfl rfl rfl rfl rfl
  · intro w1 hx1; rintro _ rfl; rintro _ rfl; rintro _ rfl; rintro _ rfl; rintro _ rfl; rintro _ rfl; rintro _ rfl; rintro _ rfl; rintro _ rfl; rintro _ rfl; rintro _ rfl; rintro _ rfl; rintro _ rfl; rintro _ rfl; rintro _ rfl; rintro _ rfl; rintro _ rfl; rintro _ rfl; rintro _ rfl; rintro _ rfl; intro v25 h25; rintro _ rfl; rintro _ rfl; refine depsThen_nil ?_; dsimp only; simp only [Act.put, List.setIfInBounds_toArray, List.set_cons_zero, List.set_cons_succ]
    replace h25 : (Rg.Fact.ints [cmpV a b, Lib.compareInt a.n b.n, Lib.compareBytes a.s b.s, cmpB a.b b.b]).p v25 w1 := h25
    go_wp2_with fail
    go_ret
    exact ⟨rfl, hx0.trans hx1⟩
end Go.Proofs.YtaklnpjpndkccaaGreat

namespace Go.Proofs.YtaklnpjpndkccaaGreat
open Go.RowKit

theorem cmpL_step {α : Type} {cf : α → α → Int} {l m : List α} {k : Nat} (h1 : k < l.length) (h2 : k < m.length) (h : cf l[k] m[k] = 0) : cmpL cf (l.drop k) (m.drop k) = cmpL cf (l.drop (k + 1)) (m.drop (k + 1)) := by
  rw [List.drop_eq_getElem_cons h1, List.drop_eq_getElem_cons h2, cmpL, if_pos h]
theorem cmpL_stop {α : Type} {cf : α → α → Int} {l m : List α} {k : Nat} (h1 : k < l.length) (h2 : k < m.length) (h : cf l[k] m[k] ≠ 0) : cmpL cf (l.drop k) (m.drop k) = cf l[k] m[k] := by
  rw [List.drop_eq_getElem_cons h1, List.drop_eq_getElem_cons h2, cmpL, if_neg h]
theorem cmpL_more {α : Type} {cf : α → α → Int} {l m : List α} {k : Nat} (h1 : k < l.length) (h2 : m.length ≤ k) : cmpL cf (l.drop k) (m.drop k) = 1 := by
  rw [List.drop_eq_getElem_cons h1, List.drop_eq_nil_of_le h2, cmpL]
theorem cmpL_less {α : Type} {cf : α → α → Int} {l m : List α} {k : Nat} (h1 : l.length ≤ k) (h2 : k < m.length) : cmpL cf (l.drop k) (m.drop k) = -1 := by
  rw [List.drop_eq_getElem_cons h2, List.drop_eq_nil_of_le h1, cmpL]
theorem cmpL_same {α : Type} {cf : α → α → Int} {l m : List α} {k : Nat} (h1 : l.length ≤ k) (h2 : m.length ≤ k) : cmpL cf (l.drop k) (m.drop k) = 0 := by
  rw [List.drop_eq_nil_of_le h2, List.drop_eq_nil_of_le h1, cmpL]

set_option maxRecDepth 100000 in
set_option maxHeartbeats 4000000 in
theorem cmpf122_any (w : World) (v1 v2 : Value) (l m : List V) (h1 : SetR w v1 l) (h2 : SetR w v2 m) (g : Nat) (cb : Array Value) (cf : V → V → Int) (eg : ∀ args w, (callFunc g args).run Tryz.prog w = .ok (.enter g args) w)
    (hc : ∀ (W : World) (x y : V), Calls Tryz.prog g (#[.agg #[.int .i64 x.k, .int .i64 x.n, .string (strOf x.s), .bool x.b], .agg #[.int .i64 y.k, .int .i64 y.n, .string (strOf y.s), .bool y.b]] ++ cb) W fun e W' => e = .returned (.int .i64 (cf x y)) ∧ Grew W W') :
    Calls Tryz.prog 131 #[v1, v2, .func (.func g) #[] cb] w fun e w' => e = .returned (.int .i64 (cmpL cf l m)) ∧ Grew w w' := by
  obtain ⟨a1, cap1, rfl, hc1, hm1⟩ := Row.shape h1
  obtain ⟨a2, cap2, rfl, hc2, hm2⟩ := Row.shape h2
  unfold maxLen at hm1 hm2
  generalize hn1 : l.length = n1 at *
  generalize hn2 : m.length = n2 at *
  have HN1 := Lib.hid hn1
  have HN2 := Lib.hid hn2
  clear hn1 hn2
  have HC := Lib.hid hc
  clear hc
  go_enter Tryz.func131, Tryz.ntmps131
  go_wp2_with fail
  go_loopw [7, 8, 9, 10, 13] (fun _ _ _ _ i wr => ∃ k : Nat, k ≤ n1 ∧ k ≤ n2 ∧ i = .int .i64 k ∧ Hid (cmpL cf (l.drop k) (m.drop k) = cmpL cf l m) ∧ Grew w wr) (fun _ _ _ _ i _ => n1 - (intOf i).toNat)
  case atStart => exact ⟨0, Nat.zero_le _, Nat.zero_le _, rfl, rfl, Grew.refl w⟩
  case round =>
    obtain ⟨k, hk, hkm, rfl, hcm, hx⟩ := hrel
    by_cases hlt : k < n1
    · have k1 : k < l.length := by rw [HN1.out]; exact hlt
      have hI : decide ((k : Int) < (n1 : Int)) = true := decide_eq_true (by omega)
      obtain ⟨B1, o1, rfl, f0, f1, f2, f3⟩ := SetR.at (h1.ext hx.1) k1
      by_cases hlm : k < n2
      · have k2 : k < m.length := by rw [HN2.out]; exact hlm
        have hI2 : decide ((n2 : Int) ≤ (k : Int)) = false := decide_eq_false (by omega)
        obtain ⟨B2, o2, rfl, g0, g1, g2, g3⟩ := SetR.at (h2.ext hx.1) k2
        have hcall := fun W => HC.out W l[k] m[k]
        have hst : cf l[k] m[k] = 0 → cmpL cf (l.drop (k + 1)) (m.drop (k + 1)) = cmpL cf l m := fun h => by rw [← cmpL_step k1 k2 h, hcm.out]
        have hsp : cf l[k] m[k] ≠ 0 → cmpL cf l m = cf l[k] m[k] := fun h => by rw [← hcm.out, cmpL_stop k1 k2 h]
        generalize l[k] = x at *
        generalize m[k] = y at *
        have hxb : ∀ o : Obj, Grew w (wr.alloc o) := fun o => hx.alloc o
        have q0 := ((Ext.refl wr).alloc (.cells #[.int .i64 x.k, .int .i64 x.n, .string (strOf x.s), .bool x.b] 80)).cell g0
        have q1 := ((Ext.refl wr).alloc (.cells #[.int .i64 x.k, .int .i64 x.n, .string (strOf x.s), .bool x.b] 80)).cell g1
        have q2 := ((Ext.refl wr).alloc (.cells #[.int .i64 x.k, .int .i64 x.n, .string (strOf x.s), .bool x.b] 80)).cell g2
        have q3 := ((Ext.refl wr).alloc (.cells #[.int .i64 x.k, .int .i64 x.n, .string (strOf x.s), .bool x.b] 80)).cell g3
        by_cases hz : cf x y = 0
        · have hres := Lib.hid (hst hz)
          rw [hz] at hcall
          have HCALL := Lib.hid hcall
          clear hz hst hsp hcall
          go_wp2_with (go_at_fn g; refine (HCALL.out _).mono ?_; rintro e w3 ⟨rfl, hx3⟩)
          go_roundw
          case rel => exact ⟨k + 1, hlt, hlm, by go_num, hres, (((hx.alloc _).alloc _).trans hx3)⟩
          case measure => simp [intOf]; omega
        · have hres := Lib.hid (hsp hz)
          have hd : (cf x y != 0) = true := by simp [hz]
          have hd1 := beq_int_ne hz
          generalize cf x y = r at *
          have HCALL := Lib.hid hcall
          clear hz hst hsp hcall
          go_wp2_with (go_at_fn g; refine (HCALL.out _).mono ?_; rintro e w3 ⟨rfl, hx3⟩)
          go_ret
          exact ⟨by rw [hres.out]; rfl, (((hx.alloc _).alloc _).trans hx3)⟩
      · obtain rfl : k = n2 := by omega
        have hI2 : decide ((k : Int) ≤ (k : Int)) = true := decide_eq_true (by omega)
        have hres : Hid (cmpL cf l m = 1) := by show _ = _; rw [← hcm.out, cmpL_more k1 (by rw [HN2.out]; omega)]
        generalize l[k] = x at *
        go_wp2_with fail
        go_ret
        exact ⟨by rw [hres.out]; rfl, hx.alloc _⟩
    · obtain rfl : k = n1 := by omega
      have hI : decide ((k : Int) < (k : Int)) = false := decide_eq_false (by omega)
      by_cases hlm : k < n2
      · have hI2 : decide ((k : Int) < (n2 : Int)) = true := decide_eq_true (by omega)
        have hres : Hid (cmpL cf l m = -1) := by show _ = _; rw [← hcm.out, cmpL_less (by rw [HN1.out]; omega) (by rw [HN2.out]; exact hlm)]
        go_wp2_with fail
        go_ret
        exact ⟨by rw [hres.out]; rfl, hx⟩
      · have hI2 : decide ((k : Int) < (n2 : Int)) = false := decide_eq_false (by omega)
        have hres : Hid (cmpL cf l m = 0) := by show _ = _; rw [← hcm.out, cmpL_same (by rw [HN1.out]; omega) (by rw [HN2.out]; omega)]
        go_wp2_with fail
        go_ret
        exact ⟨by rw [hres.out]; rfl, hx⟩
end Go.Proofs.YtaklnpjpndkccaaGreat
