/- pred.Normal.
What slices.DeleteFunc's loop keeps. (Of any program.)
A range over a function: its record, its rounds (a body that may leave by a return), and what stays beside.
slices.IndexFunc and DeleteFunc at parts of predicates (08).
An index of predicates (08): what an event's attributes are asked; the closures that ask.
An index of predicates (08): New, Add.
One cell of a row of the call's own is set. (Of any program.)
slices.IndexFunc and DeleteFunc at ints; the closures of an index of predicates (08). -/
import Derived.RangeFuncNested
import Derived.RangeFuncBound
import Derived.RangeFuncCalls
import Derived.RangeFuncLeaves
import Derived.Shelf.Abstract
import Derived.Shelf.RegionOpen
import Derived.WalkKit
import Derived.OwnWalkIn
import Derived.TacticsInMore
import Derived.LoopNIn
import Derived.LoopIn
import Derived.Deep.CutBlock
import Derived.Lib.Hide
import Derived.Deep.QuietTactic
import Derived.BigQuiet
import Derived.Deep.RegionLaw
import Derived.Test.YtckigoeomkphhaaGreatPk9
import Derived.Test.YtckigoeomkphhaaGreatPk6
import Derived.Test.YtckigoeomkphhaaGreatPk2
import Derived.Test.YtckigoeomkphhaaGreatPk4
import Derived.Test.YtckigoeomkphhaaGreatPk3
import Derived.Test.YtckigoeomkphhaaGreatPk5
import Derived.Test.YtckigoeomkphhaaGreatPk7
import Derived.Test.YtckigoeomkphhaaGreatPk8
namespace Go.Proofs.YtckigoeomkphhaaGreat
open Go.RowKit Go.Sort

theorem sortSet (w w2 : World) (v : Value) (l : List V) (hx : Ext w w2) (ho : w2.ownsRow w.heap.size 49 4 v l.length (l.flatMap vC)) (hl : l.length ≤ 1000000) :
    Calls Tryz.prog 50 #[v, .func (.func 51) #[] #[]] w2 fun e w' => e = .returned (.tuple #[]) ∧ ∃ l' : List V, (l'.Perm l ∧ (l'.Pairwise fun a b => cmpV a b ≤ 0)) ∧ w'.ownsRow w.heap.size 49 4 v l'.length (l'.flatMap vC) ∧ Ext w w' := by
  refine (sortV_any w2 _ v l ho hl).mono ?_
  rintro e w' ⟨rfl, l', p1, p2, p3, p4⟩
  exact ⟨rfl, l', ⟨p1, p2⟩, by rw [p1.length_eq]; exact p3, hx.grown_none p4 (own_base ho)⟩
theorem compSet (w w2 : World) (v : Value) (c : C) (l : List V) (hc : mayC c = true) (hx : Ext w w2) (ho : w2.ownsRow w.heap.size 49 4 v l.length (l.flatMap vC)) (hp : l.Perm c.set ∧ (l.Pairwise fun a b => cmpV a b ≤ 0)) :
    Calls Tryz.prog 52 #[v] w2 fun e w' => ∃ v', e = .returned v' ∧ w'.ownsRow w.heap.size 49 4 v' (normC c).set.length ((normC c).set.flatMap vC) ∧ Ext w w' := by
  have hlen := hp.1.length_eq
  have hs := may_set hc
  have hi := set_inj hc
  have he : compE l = (normC c).set := compL_sorted wo_V hp.1 hp.2 hi fun a ha b hb => ⟨fun h => by rw [of_decide_eq_true h]; exact wo_V.refl b, fun h => decide_eq_true (hi a ha b hb h)⟩
  refine (compactV_any w2 _ v l ho (by omega)).mono ?_
  rintro e w' ⟨v', rfl, p1, p2, p3⟩
  rw [he] at p1
  exact ⟨v', rfl, p1, hx.grown_none p2 (own_base ho)⟩

theorem grown_setCell (w : World) (a : Addr) (v : Value) : w.grownBy (w.setCell a v) (some a.block) := by
  have h := Below.setCell (Below.refl a.block w) (Nat.le_refl _) v
  refine ⟨h.os, h.tape, h.output, by rw [World.size_setCell]; exact Nat.le_refl _, fun k hk hne => ?_⟩
  have hne2 : k ≠ a.block := fun e => hne (by rw [e])
  show (w.heap.modify a.block _)[k]? = w.heap[k]?
  rw [Array.getElem?_modify, if_neg (fun e => hne2 e.symm)]
theorem addRow (w : World) (x : CS) : Row (w.alloc (.cells (csC x).toArray 52)) 7 (.slice (some ⟨w.heap.size, 0, none⟩) 1 1) 1 (csC x) :=
  Row.of_own (World.ownsRow_lit (base := w.heap.size) (e := 52) (size := 7) w (csC x).toArray 1 (Nat.le_refl _) (by decide) rfl)

set_option maxRecDepth 100000 in
set_option maxHeartbeats 2000000 in
theorem normal_no (w : World) (v : Value) (p : List C) (hp : PredR w v p) (hm : mayP p = false) : Calls Tryz.prog 28 #[v] w fun e w' => e = .returned (.tuple #[.slice none 0 0, .int .i64 30]) ∧ Ext w w' := by
  have hc := pmay_any w v p hp
  rw [hm] at hc
  obtain ⟨a, cap, rfl, _, _⟩ := hp.shape
  clear hm hp
  go_enter Tryz.func28, Tryz.ntmps28
  go_wp2_with (go_at_call 22; refine hc.mono ?_; rintro e w' ⟨rfl, hx⟩)
  go_ret2
  exact ⟨rfl, hx⟩

set_option maxRecDepth 100000 in
set_option maxHeartbeats 4000000 in
theorem normal_yes (w : World) (v : Value) (p : List C) (hp : PredR w v p) (hm : mayP p = true) : Calls Tryz.prog 28 #[v] w fun e w' => ∃ (v' : Value) (us : List CS), e = .returned (.tuple #[v', .int .i64 0]) ∧ us.map CS.c = normP p ∧ w'.ownsRow w.heap.size 52 7 v' us.length (us.flatMap csC) ∧ (∀ x ∈ us, SetO w.heap.size w' x) ∧ Ext w w' := by
  have hc := pmay_any w v p hp
  rw [hm] at hc
  have hl6 := may_len hm
  have hall := Lib.hid (may_all hm)
  obtain ⟨a, cap, rfl, _, _⟩ := hp.shape
  have HP := Lib.hid hp
  clear hm hp
  obtain ⟨n, hn⟩ : ∃ n, n = p.length := ⟨_, rfl⟩
  have HN := Lib.hid hn
  rw [← hn] at hc ⊢ HP hl6
  clear hn
  go_enter Tryz.func28, Tryz.ntmps28
  go_wp2_with (go_at_call 22; refine hc.mono ?_; rintro e w1 ⟨rfl, hx1⟩)
  clear hc
  go_loopw [4, 6, 7, 15] (fun l4 _ _ i wr => ∃ (k : Nat) (us : List CS), k ≤ n ∧ i = .int .i64 k ∧ Hid (us.length = k) ∧ Hid (us.map CS.c = (p.take k).map normC) ∧ Hid (wr.ownsRow w.heap.size 52 7 l4 us.length (us.flatMap csC)) ∧ Hid (∀ x ∈ us, SetO w.heap.size wr x) ∧ Hid (us = [] → l4 = .slice none 0 0) ∧ Ext w wr) (fun _ _ _ i _ => n - (intOf i).toNat)
  case atStart => exact ⟨0, [], Nat.zero_le _, rfl, rfl, rfl, ⟨rfl, .inl ⟨rfl, rfl⟩⟩, fun _ h => (by cases h), fun _ => rfl, hx1⟩
  case round =>
    obtain ⟨k, us, hk, rfl, hlen, hus, hown, hset, hnil, hx⟩ := hrel
    by_cases hlt : k < n
    · have hI : decide ((k : Int) < (n : Int)) = true := decide_eq_true (by omega)
      have k1 : k < p.length := by have := HN.out; omega
      obtain ⟨B, o, sa, sc, rfl, f0, f1, f2, f3, f4, f5, f6, fs⟩ := (HP.out.ext hx).at k1
      have hmc := Lib.hid (hall.out p[k] (List.getElem_mem k1))
      have htk : (p.take (k + 1)).map normC = (p.take k).map normC ++ [normC p[k]] := by rw [List.take_succ_eq_append_getElem k1, List.map_append]; rfl
      have HTK := Lib.hid htk
      clear htk
      generalize p[k] = c at *
      have hsl := may_set hmc.out
      have hxW : Ext wr (wr.alloc (.cells #[.string (strOf c.name), .int .i64 c.op, .int .i64 c.v.k, .int .i64 c.v.n, .string (strOf c.v.s), .bool c.v.b, .slice sa c.set.length sc] 52)) := (Ext.refl wr).alloc _
      have hB : (wr.alloc (.cells #[.string (strOf c.name), .int .i64 c.op, .int .i64 c.v.k, .int .i64 c.v.n, .string (strOf c.v.s), .bool c.v.b, .slice sa c.set.length sc] 52)).heap[wr.heap.size]? = some (.cells #[.string (strOf c.name), .int .i64 c.op, .int .i64 c.v.k, .int .i64 c.v.n, .string (strOf c.v.s), .bool c.v.b, .slice sa c.set.length sc] 52 (0, 0)) := heap_alloc_new _ _
      have hcl := cloneV_any _ _ c.set (fs.ext hxW) (by omega)
      have hsz : (wr.alloc (.cells #[.string (strOf c.name), .int .i64 c.op, .int .i64 c.v.k, .int .i64 c.v.n, .string (strOf c.v.s), .bool c.v.b, .slice sa c.set.length sc] 52)).heap.size = wr.heap.size + 1 := World.size_alloc _ _
      go_wp2_with fail
      generalize wr.alloc (.cells #[.string (strOf c.name), .int .i64 c.op, .int .i64 c.v.k, .int .i64 c.v.n, .string (strOf c.v.s), .bool c.v.b, .slice sa c.set.length sc] 52) = W at *
      refine hcl.mono ?_
      rintro e w2 ⟨v2, rfl, ho2, hx2⟩
      have HO2 := Lib.hid ho2
      have HX2 := Lib.hid hx2
      clear hcl ho2 hx2 f0 f1 f2 f3 f4 f5 f6 fs
      go_wp2_with fail
      refine (sortSet W w2 v2 c.set HX2.out HO2.out (by omega)).mono ?_
      rintro e w3 ⟨rfl, l', h3⟩
      have H3 := Lib.hid h3
      clear h3
      go_wp2_with fail
      refine (compSet W w3 v2 c l' hmc.out H3.out.2.2 H3.out.2.1 H3.out.1).mono ?_
      rintro e w4 ⟨v4, rfl, h4⟩
      have hB4 : w4.heap[wr.heap.size]? = some (.cells #[.string (strOf c.name), .int .i64 c.op, .int .i64 c.v.k, .int .i64 c.v.n, .string (strOf c.v.s), .bool c.v.b, .slice sa c.set.length sc] 52 (0, 0)) := by
        rw [h4.2.block _ (Array.getElem?_eq_some_iff.1 hB).1]; exact hB
      have H4 := Lib.hid h4
      clear h4 hB HO2 HX2 H3
      have c0 := cell_of_row _ _ 0 _ _ _ hB4
      have c1 := cell_of_row _ _ 1 _ _ _ hB4
      have c2 := cell_of_row _ _ 2 _ _ _ hB4
      have c3 := cell_of_row _ _ 3 _ _ _ hB4
      have c4 := cell_of_row _ _ 4 _ _ _ hB4
      have c5 := cell_of_row _ _ 5 _ _ _ hB4
      have c6 := cell_of_row _ _ 6 _ _ _ hB4
      have z6 : w4.frozen? ⟨wr.heap.size, 6, none⟩ = false := by simp [World.frozen?, hB4]
      clear hB4
      obtain ⟨a4, cap4, rfl, _, _⟩ := Row.shape (Row.of_own H4.out.1)
      have hx5 : Ext wr (w4.setCell ⟨wr.heap.size, 6, none⟩ (.slice a4 (normC c).set.length cap4)) := (hxW.trans H4.out.2).setCell (Nat.le_refl _) _
      have hlt4 : wr.heap.size < w4.heap.size := by have := H4.out.2.size; omega
      have hset4 : SetO w.heap.size (w4.setCell ⟨wr.heap.size, 6, none⟩ (.slice a4 (normC c).set.length cap4)) ⟨normC c, .slice a4 (normC c).set.length cap4⟩ :=
        own_keep (own_low H4.out.1 (by have := hx.size; omega)) (grown_setCell w4 ⟨wr.heap.size, 6, none⟩ _) fun q hq e => by
          have := own_base H4.out.1 q hq
          have e2 : wr.heap.size = q := Option.some.inj e
          omega
      have hrow := addRow (w4.setCell ⟨wr.heap.size, 6, none⟩ (.slice a4 (normC c).set.length cap4)) ⟨normC c, .slice a4 (normC c).set.length cap4⟩
      have hs5 : (w4.setCell ⟨wr.heap.size, 6, none⟩ (.slice a4 (normC c).set.length cap4)).heap.size = w4.heap.size := World.size_setCell _ _ _
      rw [hs5] at hrow
      clear hs5
      have hx6 : Ext wr ((w4.setCell ⟨wr.heap.size, 6, none⟩ (.slice a4 (normC c).set.length cap4)).alloc (.cells #[.string (strOf c.name), .int .i64 c.op, .int .i64 c.v.k, .int .i64 c.v.n, .string (strOf c.v.s), .bool c.v.b, .slice a4 (normC c).set.length cap4] 52)) := hx5.alloc _
      have hset6 := hset4.ext ((Ext.refl _).alloc (.cells #[.string (strOf c.name), .int .i64 c.op, .int .i64 c.v.k, .int .i64 c.v.n, .string (strOf c.v.s), .bool c.v.b, .slice a4 (normC c).set.length cap4] 52))
      have hown6 := own_ext hown.out hx6
      have hone := csC_one [⟨normC c, .slice a4 (normC c).set.length cap4⟩] (fun y hy => by rw [List.mem_singleton.1 hy]; rfl)
      rw [List.flatMap_singleton] at hone
      have hlen2 : us.length ≤ 6 := by have := hlen.out; omega
      have hbase : w.heap.size ≤ ((w4.setCell ⟨wr.heap.size, 6, none⟩ (.slice a4 (normC c).set.length cap4)).alloc (.cells #[.string (strOf c.name), .int .i64 c.op, .int .i64 c.v.k, .int .i64 c.v.n, .string (strOf c.v.s), .bool c.v.b, .slice a4 (normC c).set.length cap4] 52)).heap.size := (hx.trans hx6).size
      have HSET6 := Lib.hid hset6
      have HOWN6 := Lib.hid hown6
      have HROW := Lib.hid hrow
      have HONE := Lib.hid hone
      have HX6 := Lib.hid hx6
      have HB := Lib.hid hbase
      clear hset6 hown6 hrow hone hx6 hx5 hset4 hbase hsz
      go_wp2_with (at_builtin; refine wpList_append_row 97 52 (.tmp 27) (.tmp 29) rfl w.heap.size _ 7 88 Tryz.underlying97 info31t rfl (by decide) rfl _ us.length (us.flatMap csC) rfl HOWN6.out 1 (csC ⟨normC c, .slice a4 (normC c).set.length cap4⟩) HROW.out HONE.out (by omega) (by unfold maxLen; omega) HB.out ?_; intro v' w7 hown7 hgrow; have HOWN7 := Lib.hid hown7; have HG := Lib.hid hgrow; clear hown7 hgrow)
      go_roundw
      case rel =>
        refine ⟨k + 1, us ++ [⟨normC c, .slice a4 (normC c).set.length cap4⟩], hlt, by go_num, ?_, ?_, ?_, ?_, ?_, ?_⟩
        · show _ = _; rw [List.length_append, List.length_singleton, hlen.out]
        · show _ = _; rw [HTK.out, ← hus.out, List.map_append]; rfl
        · show World.ownsRow _ _ _ _ _ _ _
          rw [List.length_append, List.length_singleton, List.flatMap_append, List.flatMap_singleton]
          exact HOWN7.out
        · show ∀ x ∈ us ++ [_], _
          intro x hxm
          rcases List.mem_append.1 hxm with hxm | hxm
          · exact ((hset.out x hxm).ext HX6.out).keep HOWN6.out HG.out
          · rw [List.mem_singleton.1 hxm]; exact HSET6.out.keep HOWN6.out HG.out
        · show us ++ [_] = [] → _
          intro h; simp at h
        · exact (hx.trans HX6.out).grown_none HG.out (own_base HOWN6.out)
      case measure => simp [intOf]; omega
    · obtain rfl : k = n := by omega
      have hI : decide ((k : Int) < (k : Int)) = false := decide_eq_false (by omega)
      have hus2 : Hid (us.map CS.c = p.map normC) := by
        have h := hus.out
        rw [List.take_of_length_le (by rw [← HN.out]; exact Nat.le_refl _)] at h
        exact h
      have hxF : Ext wr (wr.alloc (.cells #[.func (.func 53) #[] #[], .func (.func 54) #[] #[]] 101)) := (Ext.refl wr).alloc _
      have hF := heap_alloc_new wr (.cells #[.func (.func 53) #[] #[], .func (.func 54) #[] #[]] 101)
      have F1 := cell_of_row _ _ 1 _ _ _ hF
      have hlen2 : us.length ≤ 12 := by have := hlen.out; omega
      have hso := sorted_any _ w.heap.size u4 us (Row.of_own (own_ext hown.out hxF)) hlen2 (fun x hx => (hset.out x hx).ext hxF) hnil.out
      have HSO := Lib.hid hso
      have HXF := Lib.hid (hx.trans hxF)
      clear hso hF hxF
      go_wp2_with fail
      refine wp_loop_rounds 3 ?_
      rw [rounds_succ]
      go_wp2_with fail
      generalize wr.alloc (.cells #[.func (.func 53) #[] #[], .func (.func 54) #[] #[]] 101) = wf at *
      refine HSO.out.mono ?_
      rintro e w2 ⟨v2, us2, rfl, h2⟩
      have G1 := h2.2.2.2.2.1.cell F1
      have hlen3 : us2.length ≤ 12 := by rw [h2.1.length_eq]; exact hlen2
      have hon := once_any w2 w.heap.size v2 us2 (Row.of_own h2.2.2.1) hlen3 h2.2.2.2.1
      have HON := Lib.hid hon
      have H2 := Lib.hid h2
      clear h2 hon HSO F1
      go_wp2_with fail
      rw [rounds_succ]
      go_wp2_with fail
      refine HON.out.mono ?_
      rintro e w3 ⟨v3, rfl, h3⟩
      have H3 := Lib.hid h3
      clear h3 HON G1
      go_wp2_with fail
      rw [rounds_succ]
      go_wp2_with fail
      go_ret2
      refine ⟨v3, compF CS.c us2, rfl, ?_, own_low H3.out.1 ((HXF.out.trans H2.out.2.2.2.2.1).size), H3.out.2.1, HXF.out.trans (H2.out.2.2.2.2.1.trans H3.out.2.2)⟩
      rw [map_compF CS.c _ us2 (Nat.le_refl _)]
      refine compL_sorted wo_C (l := p.map normC) ?_ ?_ (fun a _ b _ => order_zero) (fun a _ b _ => ⟨fun h => by rw [of_decide_eq_true h]; exact wo_C.refl b, fun h => decide_eq_true (order_zero h)⟩)
      · rw [← hus2.out]; exact H2.out.1.map _
      · rw [List.pairwise_map]; exact H2.out.2.1
end Go.Proofs.YtckigoeomkphhaaGreat

namespace Go.Proofs.YtckigoeomkphhaaGreat
open Go.RowKit Go.Sort

section
variable {α : Type} (p : α → Bool)
/-- i elements have been looked at, k are kept at the row's head; what has not been looked at stands. -/
structure DelInv (l r : List α) (k i : Nat) : Prop where
  len : r.length = l.length
  le : k + 1 ≤ i
  hi : i ≤ l.length
  tk : r.take k = (l.take i).filter fun x => !p x
  dr : r.drop i = l.drop i
theorem filter_take {l : List α} {i : Nat} (hi : i < l.length) : (l.take (i + 1)).filter (fun x => !p x) = if p l[i] then (l.take i).filter (fun x => !p x) else (l.take i).filter (fun x => !p x) ++ [l[i]] := by
  rw [List.take_succ_eq_append_getElem hi, List.filter_append]
  cases h : p l[i] <;> simp [h]
theorem DelInv.start {l : List α} {k : Nat} (h : k < l.length) (hc : ∀ x ∈ l.take k, p x = false) (e : p l[k] = true) : DelInv p l l k (k + 1) := by
  refine ⟨rfl, Nat.le_refl _, h, ?_, rfl⟩
  rw [filter_take p h, if_pos e]
  exact (List.filter_eq_self.2 fun x hx => by rw [hc x hx]; rfl).symm
variable {p}
theorem DelInv.at {l r : List α} {k i : Nat} (h : DelInv p l r k i) (hi : i < l.length) : ∃ h1 : i < r.length, r[i] = l[i] := by
  have hn := h.len
  refine ⟨by omega, ?_⟩
  have := congrArg (fun x => x[0]?) h.dr
  simp only [List.getElem?_drop, Nat.add_zero] at this
  rw [List.getElem?_eq_getElem (by omega), List.getElem?_eq_getElem (by omega)] at this
  exact Option.some.inj this
theorem DelInv.drop {l r : List α} {k i : Nat} (h : DelInv p l r k i) : r.drop (i + 1) = l.drop (i + 1) := by
  have := congrArg (fun x => x.drop 1) h.dr
  simp only [List.drop_drop] at this
  exact this
theorem DelInv.skip {l r : List α} {k i : Nat} (h : DelInv p l r k i) (hi : i < l.length) (e : p l[i] = true) : DelInv p l r k (i + 1) := by
  have hl := h.le
  refine ⟨h.len, by omega, hi, ?_, h.drop⟩
  rw [filter_take p hi, if_pos e]; exact h.tk
theorem DelInv.keep {l r : List α} {k i : Nat} (h : DelInv p l r k i) (hi : i < l.length) (e : p l[i] = false) : DelInv p l (r.set k l[i]) (k + 1) (i + 1) := by
  have hl := h.le
  have hn := h.len
  refine ⟨by rw [List.length_set]; exact hn, by omega, hi, ?_, ?_⟩
  · rw [filter_take p hi, if_neg (by rw [e]; decide), ← h.tk]
    have hk : k < r.length := by omega
    rw [List.take_succ_eq_append_getElem (by rw [List.length_set]; exact hk), List.getElem_set_self, List.take_set_of_le (Nat.le_refl k)]
  · rw [List.drop_set_of_lt (by omega)]
    exact h.drop
theorem DelInv.done {l r : List α} {k : Nat} (h : DelInv p l r k l.length) : r.take k = l.filter (fun x => !p x) ∧ (l.filter fun x => !p x).length = k := by
  have := h.tk
  rw [List.take_length] at this
  refine ⟨this, ?_⟩
  rw [← this, List.length_take]
  have := h.le; have := h.len; have := h.hi
  omega
theorem idx_start {l : List α} {i : Nat} (h : l.findIdx? p = some i) : ∃ hi : i < l.length, p l[i] = true ∧ ∀ x ∈ l.take i, p x = false := by
  obtain ⟨hi, h1, h2⟩ := List.findIdx?_eq_some_iff_getElem.1 h
  refine ⟨hi, h1, fun x hx => ?_⟩
  obtain ⟨j, hj, rfl⟩ := List.getElem_of_mem hx
  have hj2 : j < i := by simp at hj; omega
  rw [List.getElem_take]
  simpa using h2 j hj2
theorem del_none {l : List α} (h : l.findIdx? p = none) : l.filter (fun x => !p x) = l := by
  rw [List.filter_eq_self]
  intro x hx
  have := List.findIdx?_eq_none_iff.1 h x hx
  simpa using this
end
end Go.Proofs.YtckigoeomkphhaaGreat

namespace Go.Proofs.YtckigoeomkphhaaGreat
open Go.RowKit Go.Shelf
attribute [local go_sem] Oper.semAt_some

/-- The blocks of S alone may turn. -/
structure Keeps (S : Nat → Prop) (W W' : World) : Prop where
  os : W'.os = W.os
  tape : W'.tape = W.tape
  output : W'.output = W.output
  size : W.heap.size ≤ W'.heap.size
  block : ∀ k, k < W.heap.size → ¬ S k → W'.heap[k]? = W.heap[k]?
theorem Keeps.refl (S : Nat → Prop) (W : World) : Keeps S W W := ⟨rfl, rfl, rfl, Nat.le_refl _, fun _ _ _ => rfl⟩
theorem Keeps.trans {S : Nat → Prop} {A B C : World} (h : Keeps S A B) (k : Keeps S B C) : Keeps S A C :=
  ⟨k.os.trans h.os, k.tape.trans h.tape, k.output.trans h.output, Nat.le_trans h.size k.size, fun i hi hs => (k.block i (Nat.lt_of_lt_of_le hi h.size) hs).trans (h.block i hi hs)⟩
theorem Keeps.of_grown {S : Nat → Prop} {W W' : World} {row : Option Nat} (hg : W.grownBy W' row) (h : ∀ k, row = some k → S k) : Keeps S W W' :=
  ⟨hg.os, hg.tape, hg.output, hg.size, fun k hk hs => hg.block k hk (fun e => hs (h k e.symm))⟩
theorem Keeps.of_ext {S : Nat → Prop} {W W' : World} (h : Ext W W') : Keeps S W W' := ⟨h.os, h.tape, h.output, h.size, fun k hk _ => h.block k hk⟩
theorem Keeps.ext {S : Nat → Prop} {w W W' : World} (h : Keeps S W W') (hx : Ext w W) (hS : ∀ k, S k → w.heap.size ≤ k) : Ext w W' :=
  ⟨h.os.trans hx.os, h.tape.trans hx.tape, h.output.trans hx.output, Nat.le_trans hx.size h.size, fun k hk => (h.block k (Nat.lt_of_lt_of_le hk hx.size) (fun e => by have := hS k e; omega)).trans (hx.block k hk)⟩
theorem Keeps.heap {S : Nat → Prop} {W W' : World} (h : Keeps S W W') {k : Nat} {o : Obj} (ho : W.heap[k]? = some o) (hS : ¬ S k) : W'.heap[k]? = some o :=
  (h.block k (Array.getElem?_eq_some_iff.1 ho).1 hS).trans ho
theorem Keeps.mono {S T : Nat → Prop} {W W' : World} (h : Keeps S W W') (hST : ∀ k, S k → T k) : Keeps T W W' :=
  ⟨h.os, h.tape, h.output, h.size, fun k hk hs => h.block k hk (fun e => hs (hST k e))⟩
theorem own_mono {W : World} {base base' : Nat} {e : TypeId} {size n : Nat} {v : Value} {xs : List Value} (h : W.ownsRow base e size v n xs) (hb : base' ≤ base) : W.ownsRow base' e size v n xs := by
  obtain ⟨h1, h2⟩ := h
  refine ⟨h1, ?_⟩
  rcases h2 with h2 | ⟨g, cap, cur, hv, hg, r⟩
  · exact .inl h2
  · exact .inr ⟨g, cap, cur, hv, Nat.le_trans hb hg, r⟩
theorem own_keeps {S : Nat → Prop} {W W' : World} {base : Nat} {e : TypeId} {size n : Nat} {v : Value} {xs : List Value} (h : W.ownsRow base e size v n xs) (hk : Keeps S W W') (hS : ∀ k, S k → v.ownBlock ≠ some k) : W'.ownsRow base e size v n xs := by
  obtain ⟨h1, h2⟩ := h
  refine ⟨h1, ?_⟩
  rcases h2 with h2 | ⟨g, cap, cur, hv, hg, hh, r⟩
  · exact .inl h2
  · exact .inr ⟨g, cap, cur, hv, hg, hk.heap hh (fun e => hS g e (by rw [hv]; rfl)), r⟩
theorem Keeps.put (S : Nat → Prop) (W : World) (l : Nat) (o : Obj) (h : S l) : Keeps S W (W.putObj l o) := Keeps.of_grown (grownBy_putObj' W l o) (fun k e => by cases e; exact h)
theorem Keeps.cell (S : Nat → Prop) (W : World) (l : Nat) (x : Value) (h : S l) : Keeps S W (W.setCell ⟨l, 0, none⟩ x) := Keeps.of_grown (grownBy_setCell' W l x) (fun k e => by cases e; exact h)
theorem Keeps.row (S : Nat → Prop) (W : World) (l : Nat) (cs : Array Value) (h : S l) : Keeps S W (W.setRow l cs) :=
  ⟨rfl, rfl, rfl, by unfold World.setRow; simp, fun k _ hs => setRow_other W l k cs (fun e => hs (e ▸ h))⟩

/-- The record of a range over a function, in a state, no jump pending. -/
def recOf (fn : FuncId) (tmps : Array Value) (ps : Array Tmp) (assign body : Code) (D : Nat) (st : LoopState) : Loop :=
  { state := st, pending := none, fn, tmps, params := ps, assign, body, defers := D }
/-- The same, to return. -/
def recRet (rc : LoopState → Loop) (st : LoopState) : Loop := { rc st with pending := some .ret }

/-- A range over a function whose body may leave by a return. -/
theorem range_law {n : Nat} {P : Program} {g : Operand} {ps : Array Tmp} {assign body : Code} {Q : Exit → Act → World → Prop} {a : Act} {w : World} {gf : Nat} {lb : Array Value}
    (hg : a.eval g = .func (.func gf) #[] lb) (eg : ∀ args w, (callFunc gf args).run P w = .ok (.enter gf args) w)
    (h : ∀ fn rc, rc = recOf fn a.tmps ps assign body w.heap.size → CallsIn Fence.wide (n - 1) P gf (#[.func (.yield (w.heap.size + 1)) #[] #[]] ++ lb) ((w.alloc (.deferred (some []))).alloc (.loop (rc .ready))) fun e W =>
      (∃ v, e = .returned v) ∧ ((W.heap[w.heap.size + 1]? = some (.loop (rc .ready)) ∧
        Q .normal { a with defers := { target := .collected w.heap.size, args := #[] } :: a.defers } (W.putObj (w.heap.size + 1) (.loop (rc .exhausted)))) ∨
        (W.heap[w.heap.size + 1]? = some (.loop (recRet rc .done)) ∧
        Q .ret { a with defers := { target := .collected w.heap.size, args := #[] } :: a.defers } (W.putObj (w.heap.size + 1) (.loop (recRet rc .exhausted)))))) :
    (Code.rangeFunc g ps assign body).wpIn Fence.wide n P Q a w := by
  refine wpIn_rangeFunc ?_
  intro fn hfn
  have h := h fn _ rfl
  refine ⟨w.heap.size + 1, [{ target := .collected w.heap.size, args := #[] }], (w.alloc (.deferred (some []))).alloc (.loop (recOf fn a.tmps ps assign body w.heap.size .ready)), { target := .fn (.func gf) lb, args := #[.func (.yield (w.heap.size + 1)) #[] #[]] }, (w.alloc (.deferred (some []))).alloc (.loop (recOf fn a.tmps ps assign body w.heap.size .ready)), gf,
    #[.func (.yield (w.heap.size + 1)) #[] #[]] ++ lb, (w.alloc (.deferred (some []))).alloc (.loop (recOf fn a.tmps ps assign body w.heap.size .ready)), ?_, ?_, ?_, ?_, (fun h => by cases h), ?_⟩
  · exact run_enterLoop_outer _ _ _ _ _
  · simp only [resolve, hg]
    simp [go_sem]
  · intro f' hf'; trivial
  · simp [invoke, go_sem, eg]
  · refine h.mono ?_
    rintro e W ⟨⟨v, rfl⟩, ⟨hl, hq⟩ | ⟨hl, hq⟩⟩
    · exact ⟨none, _, run_endLoop hl (by simp [recOf]), hq⟩
    · exact ⟨some .ret, _, run_endLoop hl (by simp [recOf, recRet]), wpIn_ret hq⟩

/-- How a body ends that may leave by a return. -/
def bodyEnd (l : Nat) (r : LoopState → Loop) (R : Ending → World → Prop) : Exit → Act → World → Prop
  | .normal, _, W2 => W2.heap[l]? = some (.loop (r .busy)) ∧ R (.returned (.bool true)) (W2.putObj l (.loop (r .ready)))
  | .ret, _, W2 => W2.heap[l]? = some (.loop (r .busy)) ∧ R (.returned (.bool false)) (W2.putObj l (.loop (recRet r .done)))
  | _, _, _ => False

theorem round_law {n l : Nat} {P : Program} {args : Array Value} {W : World} {R : Ending → World → Prop} {fn : FuncId} {tmps : Array Value} {ps : Array Tmp} {assign body : Code} {D : Nat} {rc : LoopState → Loop} (hrc : rc = recOf fn tmps ps assign body D)
    (hl : W.heap[l]? = some (.loop (rc .ready))) (hs : args.size = ps.size)
    (h : assign.wpIn (Fence.wide.inRound l) n P (Exit.then (fun a₁ w₁ => w₁.heap[l]? = some (.loop (rc .ready)) ∧
      body.wpIn (Fence.wide.inRound l) n P (bodyEnd l rc R) a₁ (w₁.putObj l (.loop (rc .busy)))) (fun _ _ _ => False))
      { tmps := (ps.zip args).foldl (fun tmps (t, a) => tmps.setIfInBounds t a) tmps, defers := [] } W) :
    YieldAt Fence.wide n P l args W R := by
  subst hrc
  refine ⟨fn, _, assign, body, run_yield hl hs, roundIn_of_wpIn trivial (wpIn_mono h ?_)⟩
  rintro e a1 w1 hp
  cases e with
  | normal =>
    obtain ⟨hl1, hb⟩ := hp
    refine ⟨_, run_beginRound hl1 rfl, wpIn_mono hb ?_⟩
    rintro e2 a2 w2 hq
    cases e2 with
    | normal => exact ⟨_, _, run_endRound none hq.1, hq.2⟩
    | ret => exact ⟨_, _, run_endRound (some .ret) hq.1, hq.2⟩
    | exit id => exact hq.elim
    | goto t => exact hq.elim
    | panic c => exact hq.elim
    | outgrown => exact hq.elim
  | ret => exact hp.elim
  | exit id => exact hp.elim
  | goto t => exact hp.elim
  | panic c => exact hp.elim
  | outgrown => exact hp.elim
end Go.Proofs.YtckigoeomkphhaaGreat

namespace Go.Proofs.YtckigoeomkphhaaGreat
open Go.RowKit Go.Sort

def PtR (w : World) (v : Value) (l : List PC) : Prop := Row w 8 v l.length (l.flatMap ptC) ∧ ∀ x ∈ l, SetR w x.x.h x.x.c.set
theorem PtR.ext {w w' : World} {v : Value} {l : List PC} (h : PtR w v l) (hx : Ext w w') : PtR w' v l := ⟨h.1.ext hx, fun x hm => (h.2 x hm).ext hx⟩
theorem PtR.at {w : World} {a : Option Addr} {n cap : Nat} {l : List PC} (h : PtR w (.slice a n cap) l) {k : Nat} (hk : k < l.length) :
    ∃ B o sa sc, a = some ⟨B, o, none⟩ ∧ l[k].x.h = .slice sa l[k].x.c.set.length sc ∧ w.cell? ⟨B, o + k * 8, none⟩ = some (.int .i64 l[k].id) ∧ w.cell? ⟨B, o + k * 8 + 1, none⟩ = some (.string (strOf l[k].x.c.name)) ∧ w.cell? ⟨B, o + k * 8 + 2, none⟩ = some (.int .i64 l[k].x.c.op) ∧ w.cell? ⟨B, o + k * 8 + 3, none⟩ = some (.int .i64 l[k].x.c.v.k) ∧ w.cell? ⟨B, o + k * 8 + 4, none⟩ = some (.int .i64 l[k].x.c.v.n) ∧ w.cell? ⟨B, o + k * 8 + 5, none⟩ = some (.string (strOf l[k].x.c.v.s)) ∧ w.cell? ⟨B, o + k * 8 + 6, none⟩ = some (.bool l[k].x.c.v.b) ∧ w.cell? ⟨B, o + k * 8 + 7, none⟩ = some (.slice sa l[k].x.c.set.length sc) ∧ SetR w (.slice sa l[k].x.c.set.length sc) l[k].x.c.set := by
  have gg := fun j hj => flat_get ptC 8 ptC_len l k hk j hj
  have hs := h.2 _ (List.getElem_mem hk)
  obtain ⟨sa, sc, e, _, _⟩ := Row.shape hs
  obtain ⟨B, o, rfl⟩ := Row.base h.1 (by omega) (by decide)
  have q := fun j u hj (e : (ptC l[k])[j]? = some u) => Row.cellAt h.1 ((gg j hj).trans e) (by omega)
  have q7 := q 7 _ (by decide) rfl
  rw [e] at hs q7
  simp only [← Nat.add_assoc] at q q7
  exact ⟨B, o, sa, sc, rfl, e, q 0 _ (by decide) rfl, q 1 _ (by decide) rfl, q 2 _ (by decide) rfl, q 3 _ (by decide) rfl, q 4 _ (by decide) rfl, q 5 _ (by decide) rfl, q 6 _ (by decide) rfl, q7, hs⟩
theorem ptC_one {l : List PC} (h : ∀ x ∈ l, ∃ a n c, x.x.h = .slice a n c) : ∀ u ∈ l.flatMap ptC, u.oneCell' = true := by
  intro u hu
  obtain ⟨x, hx, hu⟩ := List.mem_flatMap.1 hu
  obtain ⟨a, n, c, e⟩ := h x hx
  simp only [ptC, csC, List.mem_cons, List.not_mem_nil, or_false, e] at hu
  rcases hu with rfl | rfl | rfl | rfl | rfl | rfl | rfl | rfl <;> rfl

set_option maxRecDepth 100000 in
set_option maxHeartbeats 2000000 in
theorem idxPt_any (w : World) (v : Value) (l : List PC) (h : PtR w v l) (g : Nat) (cb : Array Value) (p : PC → Bool) (eg : ∀ args w, (callFunc g args).run Tryz.prog w = .ok (.enter g args) w)
    (hc : ∀ (W : World) (x : PC) (sa : Option Addr) (sc : Nat), Ext w W → x ∈ l → x.x.h = .slice sa x.x.c.set.length sc → SetR W (.slice sa x.x.c.set.length sc) x.x.c.set → Calls Tryz.prog g (#[.agg #[.int .i64 x.id, .string (strOf x.x.c.name), .int .i64 x.x.c.op, .int .i64 x.x.c.v.k, .int .i64 x.x.c.v.n, .string (strOf x.x.c.v.s), .bool x.x.c.v.b, .slice sa x.x.c.set.length sc]] ++ cb) W fun e W' => e = .returned (.bool (p x)) ∧ Ext W W') :
    Calls Tryz.prog 55 #[v, .func (.func g) #[] cb] w fun e w' => e = .returned (.int .i64 (idxP p l)) ∧ Ext w w' := by
  obtain ⟨a, cap, rfl, hcc, hm⟩ := Row.shape h.1
  unfold maxLen at hm
  generalize hn : l.length = n at *
  have HN := Lib.hid hn
  clear hn
  have HC := Lib.hid hc
  clear hc
  go_enter Tryz.func55, Tryz.ntmps55
  go_wp2_with fail
  go_loopw [5, 8] (fun _ i wr => ∃ k : Nat, k ≤ n ∧ i = .int .i64 k ∧ Hid (∀ x ∈ l.take k, p x = false) ∧ Ext w wr) (fun _ i _ => n - (intOf i).toNat)
  case atStart => exact ⟨0, Nat.zero_le _, rfl, (by show ∀ x ∈ l.take 0, _; simp), Ext.refl w⟩
  case round =>
    obtain ⟨k, hk, rfl, hall, hx⟩ := hrel
    by_cases hlt : k < n
    · have k1 : k < l.length := by rw [HN.out]; exact hlt
      have hI : decide ((k : Int) < (n : Int)) = true := decide_eq_true (by omega)
      have hext := h.ext hx
      obtain ⟨B1, o1, sa, sc, rfl, he, f0, f1, f2, f3, f4, f5, f6, f7, hs⟩ := PtR.at hext k1
      have hcall := HC.out _ l[k] sa sc hx (List.getElem_mem k1) he hs
      clear he hs
      have hhit : p l[k] = true → idxP p l = k := fun e => idxP_hit k1 hall.out e
      have hnext : p l[k] = false → ∀ x ∈ l.take (k + 1), p x = false := fun e x hx => by
        rw [List.take_succ_eq_append_getElem k1] at hx
        rcases List.mem_append.1 hx with hx | hx
        · exact hall.out x hx
        · rw [List.mem_singleton.1 hx]; exact e
      generalize l[k] = x at *
      have HCALL := Lib.hid hcall
      clear hcall
      cases hq : p x with
      | true =>
        have hres := Lib.hid (hhit hq)
        have HQ := Lib.hid hq
        clear hhit hnext hq
        go_wp2_with (go_at_fn g; refine HCALL.out.mono ?_; rw [HQ.out]; rintro e w2 ⟨rfl, hx2⟩)
        go_ret
        exact ⟨by rw [hres.out]; rfl, hx.trans hx2⟩
      | false =>
        have hres := Lib.hid (hnext hq)
        have HQ := Lib.hid hq
        clear hhit hnext hq
        go_wp2_with (go_at_fn g; refine HCALL.out.mono ?_; rw [HQ.out]; rintro e w2 ⟨rfl, hx2⟩)
        go_roundw
        case rel => exact ⟨k + 1, hlt, by go_num, hres.out, hx.trans hx2⟩
        case measure => simp [intOf]; omega
    · obtain rfl : k = n := by omega
      have hI : decide ((k : Int) < (k : Int)) = false := decide_eq_false (by omega)
      have hres : Hid (idxP p l = -1) := by
        show _ = _
        refine idxP_miss fun x hx => hall.out x ?_
        rw [List.take_of_length_le (by rw [HN.out]; exact Nat.le_refl _)]; exact hx
      go_wp2_with fail
      go_ret
      exact ⟨by rw [hres.out]; rfl, hx⟩

theorem size_part : (Tryz.prog.info? 77).map (·.size) = some 8 := by kernel_rfl
theorem zero_part : ∀ w, (zeroValue 77).run Tryz.prog w = .ok (.agg #[.int .i64 0, .string ⟨#[]⟩, .int .i64 0, .int .i64 0, .int .i64 0, .string ⟨#[]⟩, .bool false, .slice none 0 0]) w := fun _ => by kernel_rfl
theorem grown_refl (w : World) (row : Option Nat) : w.grownBy w row := ⟨rfl, rfl, rfl, Nat.le_refl _, fun _ _ _ => rfl⟩

set_option maxRecDepth 100000 in
set_option maxHeartbeats 8000000 in
theorem deletePt_any (w : World) (base : Nat) (v : Value) (l : List PC) (ho : w.ownsRow base 77 8 v l.length (l.flatMap ptC)) (hs : ∀ x ∈ l, SetR w x.x.h x.x.c.set) (hkeep : ∀ W, w.grownBy W v.ownBlock → ∀ x ∈ l, SetR W x.x.h x.x.c.set) (hl : l.length ≤ 1000000) (G : Nat) (cb : Array Value) (p : PC → Bool)
    (eg : ∀ args w, (callFunc G args).run Tryz.prog w = .ok (.enter G args) w)
    (hc : ∀ (W : World) (x : PC) (sa : Option Addr) (sc : Nat), w.grownBy W v.ownBlock → x ∈ l → x.x.h = .slice sa x.x.c.set.length sc → Calls Tryz.prog G (#[.agg #[.int .i64 x.id, .string (strOf x.x.c.name), .int .i64 x.x.c.op, .int .i64 x.x.c.v.k, .int .i64 x.x.c.v.n, .string (strOf x.x.c.v.s), .bool x.x.c.v.b, .slice sa x.x.c.set.length sc]] ++ cb) W fun e W' => e = .returned (.bool (p x)) ∧ Ext W W') :
    Calls Tryz.prog 29 #[v, .func (.func G) #[] cb] w fun e w' => ∃ v', e = .returned v' ∧ v'.ownBlock = v.ownBlock ∧ w'.ownsRow base 77 8 v' (l.filter fun x => !p x).length ((l.filter fun x => !p x).flatMap ptC) ∧ w.grownBy w' v.ownBlock := by
  have hidx := idxPt_any w v l ⟨Row.of_own ho, hs⟩ G cb p eg (fun W x sa sc hx hm he _ => hc W x sa sc (grown_ext (grown_refl w _) hx) hm he)
  have HKP := Lib.hid hkeep
  clear hs hkeep
  obtain ⟨ix, hix⟩ : ∃ ix, ix = idxP p l := ⟨_, rfl⟩
  rw [← hix] at hidx
  cases hf : l.findIdx? p with
  | none =>
    have hix1 : ix = -1 := by rw [hix]; unfold idxP; rw [hf]
    subst hix1
    have hres := del_none hf
    have HR := Lib.hid hres
    have HO := Lib.hid ho
    have HI := Lib.hid hidx
    obtain ⟨a, cap, rfl, hc2, hm⟩ := Row.shape (Row.of_own ho)
    clear hix hres ho hidx hc hf eg
    generalize hnn : l.length = n at *
    have HNN := Lib.hid hnn
    clear hnn
    go_enter Tryz.func29, Tryz.ntmps29
    go_wp2_with (go_at_call 55; refine HI.out.mono ?_; rintro e w1 ⟨rfl, hx1⟩)
    go_ret
    refine ⟨_, rfl, rfl, ?_, grown_ext (grown_refl w _) hx1⟩
    rw [HR.out, HNN.out]
    exact own_ext HO.out hx1
  | some i =>
    obtain ⟨hi, hpi, hpre⟩ := idx_start hf
    have hix1 : ix = i := by rw [hix]; unfold idxP; rw [hf]
    subst hix1
    have hst := DelInv.start p hi hpre hpi
    rcases ho.2 with ⟨_, e0⟩ | ⟨g, cap, cur, rfl, hb, hg, hn, hm, hs, ht⟩
    · omega
    clear cur hg hs ht hb
    unfold maxLen at hm
    have hne : ((i : Int) == -1) = false := beq_eq_false_iff_ne.2 (by omega)
    have HO := Lib.hid ho
    have HI := Lib.hid hidx
    have HST := Lib.hid hst
    have HC := Lib.hid hc
    clear hidx hst hc hix hf hpre hpi ho
    generalize hN : l.length = n at *
    have HN := Lib.hid hN
    clear hN
    go_enter Tryz.func29, Tryz.ntmps29
    go_wp2_with (go_at_call 55; refine HI.out.mono ?_; rintro e w1 ⟨rfl, hx1⟩)
    go_loopw [5, 6] (fun ii jj wr => ∃ (k j : Nat) (r : List PC), ii = .int .i64 k ∧ jj = .int .i64 j ∧ k + 1 ≤ j ∧ j ≤ n ∧ Hid (DelInv p l r k j) ∧ Hid (wr.ownsRow base 77 8 (.slice (some ⟨g, 0, none⟩) n cap) n (r.flatMap ptC)) ∧ Hid (w.grownBy wr (some g))) (fun _ jj _ => n - (intOf jj).toNat)
    case atStart => exact ⟨i, i + 1, l, rfl, by go_num, Nat.le_refl _, by omega, HST, own_ext HO.out hx1, grown_ext (grown_refl w _) hx1⟩
    case round =>
      obtain ⟨k, j, r, rfl, rfl, hkj, hj, hinv, hown, hgr⟩ := hrel
      by_cases hlt : j < n
      · have hI : decide ((j : Int) < (n : Int)) = true := decide_eq_true (by omega)
        have hjl : j < l.length := by rw [HN.out]; exact hlt
        obtain ⟨r1, er⟩ := hinv.out.at hjl
        have hrl : r.length = n := by rw [hinv.out.len, HN.out]
        have hmem : l[j] ∈ l := List.getElem_mem hjl
        obtain ⟨sa, sc, hxe, _, _⟩ := Row.shape (HKP.out wr hgr.out _ hmem)
        have gg := fun i hi => flat_get ptC 8 ptC_len r j r1 i hi
        have gq := fun i u hi (e : (ptC r[j])[i]? = some u) => Row.cellAt (Row.of_own hown.out) ((gg i hi).trans e) (by omega)
        simp only [Nat.zero_add] at gq
        rw [er] at gq
        have f0 := gq 0 _ (by decide) rfl
        have f1 := gq 1 _ (by decide) rfl
        have f2 := gq 2 _ (by decide) rfl
        have f3 := gq 3 _ (by decide) rfl
        have f4 := gq 4 _ (by decide) rfl
        have f5 := gq 5 _ (by decide) rfl
        have f6 := gq 6 _ (by decide) rfl
        have f7 := gq 7 _ (by decide) rfl
        rw [hxe] at f7
        rw [Nat.add_zero] at f0
        clear gg gq
        have hsk := fun h => hinv.out.skip hjl h
        have hke := fun h => hinv.out.keep hjl h
        have HSK := Lib.hid hsk
        have HKE := Lib.hid hke
        clear hsk hke er r1 hinv
        generalize l[j] = x at *
        have hcall := HC.out (wr.alloc (.cells #[.int .i64 x.id, .string (strOf x.x.c.name), .int .i64 x.x.c.op, .int .i64 x.x.c.v.k, .int .i64 x.x.c.v.n, .string (strOf x.x.c.v.s), .bool x.x.c.v.b, .slice sa x.x.c.set.length sc] 77)) x sa sc (grown_ext hgr.out ((Ext.refl wr).alloc _)) hmem hxe
        obtain ⟨hxa, hX⟩ := boxes1 wr (.cells #[.int .i64 x.id, .string (strOf x.x.c.name), .int .i64 x.x.c.op, .int .i64 x.x.c.v.k, .int .i64 x.x.c.v.n, .string (strOf x.x.c.v.s), .bool x.x.c.v.b, .slice sa x.x.c.set.length sc] 77)
        have x0 := cell_of_row _ _ 0 _ _ _ hX
        have x1 := cell_of_row _ _ 1 _ _ _ hX
        have x2 := cell_of_row _ _ 2 _ _ _ hX
        have x3 := cell_of_row _ _ 3 _ _ _ hX
        have x4 := cell_of_row _ _ 4 _ _ _ hX
        have x5 := cell_of_row _ _ 5 _ _ _ hX
        have x6 := cell_of_row _ _ 6 _ _ _ hX
        have x7 := cell_of_row _ _ 7 _ _ _ hX
        have HXE := Lib.hid hxe
        have hown1 := Lib.hid (own_ext hown.out hxa)
        have hgr1 := Lib.hid (grown_ext hgr.out hxa)
        have HCALL := Lib.hid hcall
        clear hcall hX hmem hxe
        cases hE : p x with
        | true =>
          have HE := Lib.hid hE
          have hinv2 := Lib.hid (HSK.out hE)
          clear hE HSK HKE
          go_wp2_with (go_at_fn G; refine HCALL.out.mono ?_; rw [HE.out]; rintro e w2 ⟨rfl, hx2⟩)
          go_roundw
          case rel => exact ⟨k, j + 1, r, rfl, by go_num, by omega, hlt, hinv2, own_ext hown1.out hx2, grown_ext hgr1.out hx2⟩
          case measure => simp [intOf]; omega
        | false =>
          have HE := Lib.hid hE
          have hinv2 := Lib.hid (HKE.out hE)
          clear hE HSK HKE
          have hkr : k < r.length := by omega
          have hkn : k < n := by omega
          go_upto_region 9 with (go_at_fn G; refine HCALL.out.mono ?_; rw [HE.out]; rintro e w2 ⟨rfl, hx2⟩)
          have hown2 := own_ext hown1.out hx2
          have hth := own_there hown2 k 8 (by omega)
          have hset3 := own_set ptC ptC_len hown2 k hkr x
          have y0 := hx2.cell x0
          have y1 := hx2.cell x1
          have y2 := hx2.cell x2
          have y3 := hx2.cell x3
          have y4 := hx2.cell x4
          have y5 := hx2.cell x5
          have y6 := hx2.cell x6
          have y7 := hx2.cell x7
          have hgr2 := Lib.hid (grown_ext hgr1.out hx2)
          obtain ⟨wz, hwz⟩ : ∃ wz, w2.setCells g (k * 8) (ptC x) = wz := ⟨_, rfl⟩
          rw [hwz] at hset3
          have HS3 := Lib.hid hset3.1
          have HG3 := Lib.hid hset3.2
          have hwz2 : w2.setCells g (k * 8) [.int .i64 x.id, .string (strOf x.x.c.name), .int .i64 x.x.c.op, .int .i64 x.x.c.v.k, .int .i64 x.x.c.v.n, .string (strOf x.x.c.v.s), .bool x.x.c.v.b, .slice sa x.x.c.set.length sc] = wz := by rw [← HXE.out]; exact hwz
          have HWZ := Lib.hid hwz2
          clear hwz hwz2 hset3 hown2 hx2 x0 x1 x2 x3 x4 x5 x6 x7
          go_wp2_with (refine wpList_store_mid rfl 77 (.tmp 33) (.tmp 32) rfl g (k * 8) #[.int .i64 x.id, .string (strOf x.x.c.name), .int .i64 x.x.c.op, .int .i64 x.x.c.v.k, .int .i64 x.x.c.v.n, .string (strOf x.x.c.v.s), .bool x.x.c.v.b, .slice sa x.x.c.set.length sc] rfl rfl hth size_part (by simp [Value.oneCell']) ?_; rw [show w2.setCells g (k * 8) (#[.int .i64 x.id, .string (strOf x.x.c.name), .int .i64 x.x.c.op, .int .i64 x.x.c.v.k, .int .i64 x.x.c.v.n, .string (strOf x.x.c.v.s), .bool x.x.c.v.b, .slice sa x.x.c.set.length sc] : Array Value).toList = wz from HWZ.out])
          go_roundw
          case rel => exact ⟨k + 1, j + 1, r.set k x, by go_num, by go_num, by omega, hlt, hinv2, HS3.out, hgr2.out.trans HG3.out⟩
          case measure => simp [intOf]; omega
      · obtain rfl : j = n := by omega
        have hI : decide ((j : Int) < (j : Int)) = false := decide_eq_false (by omega)
        have hdone := hinv.out
        rw [← HN.out] at hdone
        obtain ⟨ht, hlen⟩ := hdone.done
        have hkn : k < j := by omega
        have hkc : ¬ cap = k := by omega
        have hkc2 : k ≤ cap := by omega
        have hcl := run_clear_tail hown.out 75 (.agg #[.int .i64 0, .string ⟨#[]⟩, .int .i64 0, .int .i64 0, .int .i64 0, .string ⟨#[]⟩, .bool false, .slice none 0 0]) rfl (by simp [Value.cells, Value.oneCell']) Tryz.underlying75 zero_part k (cap - k) hkn
        have hfin := own_clear_tail hown.out (Nat.le_of_lt hkn) (.agg #[.int .i64 0, .string ⟨#[]⟩, .int .i64 0, .int .i64 0, .int .i64 0, .string ⟨#[]⟩, .bool false, .slice none 0 0]) rfl
        have hres : Hid ((r.flatMap ptC).take (k * 8) = (l.filter fun x => !p x).flatMap ptC) := by show _ = _; rw [flat_take ptC 8 ptC_len, ht]
        have HL := Lib.hid hlen
        have HF := Lib.hid hfin
        generalize wr.setCells g (k * 8) (Builtin.zeroCells (Value.agg #[.int .i64 0, .string ⟨#[]⟩, .int .i64 0, .int .i64 0, .int .i64 0, .string ⟨#[]⟩, .bool false, .slice none 0 0]).cells (j - k)).toList = wz at *
        clear ht hlen hfin hinv hdone
        go_wp2_with fail
        go_ret
        refine ⟨_, rfl, rfl, ?_, hgr.out.trans HF.out.2⟩
        rw [HL.out, ← hres.out]
        exact HF.out.1

end Go.Proofs.YtckigoeomkphhaaGreat

namespace Go.Proofs.YtckigoeomkphhaaGreat
open Go.RowKit Go.MapKept

theorem wpList_putX {P : Program} {ops : Array Oper} {Q : Exit → Act → World → Prop} {a : Act} {w : World} {rest : List Oper} {o : Oper} (hg : o.guard = none) (m x v : Operand) (t : TypeId) (hop : o.op = .mapUpdate t m x v)
    {k e : TypeId} {d : TypeDesc} (ht : P.underlying t = some (.map k e)) (hd : P.underlying k = some d) {b : Nat} {E : List (Value × Value)} (key val : Value) (hm : a.eval m = .map (some b)) (hx : a.eval x = key) (hv : a.eval v = val) (h : MapE w b d E) (hk : IsKey d key)
    (hK : ∀ w', But b w w' → (((∀ p ∈ E, p.1 ≠ key) ∧ MapE w' b d (E ++ [(key, val)])) ∨ ∃ (j : Nat) (u : Value), E[j]? = some (key, u) ∧ MapE w' b d (E.set j (key, val))) → wpList P ops Q rest (a.put o.dst undef) w') :
    wpList P ops Q (o :: rest) a w := by
  subst hx; subst hv
  exact wpList_put hg m x v t hop ht hd hm h hk hK
theorem grown_thru {a b c : World} {row : Option Nat} (h : Ext a b) (k : b.grownBy c row) (hr : ∀ q, row = some q → a.heap.size ≤ q) : Ext a c :=
  ⟨k.os.trans h.os, k.tape.trans h.tape, k.output.trans h.output, Nat.le_trans h.size k.size, fun i hi => (k.block i (Nat.lt_of_lt_of_le hi h.size) fun e => by have := hr i e.symm; omega).trans (h.block i hi)⟩

/-! The names that have come up. -/
def eN (F : List AT) : List (Value × Value) := F.map fun a => (.string (strOf a.1), .int .i64 1)
theorem eN_none {F : List AT} {nm : List UInt8} (h : F.any (fun b => decide (b.1 = nm)) = false) : ∀ p ∈ eN F, p.1 ≠ Value.string (strOf nm) := fun p hp e => by
  obtain ⟨a, ha, rfl⟩ := List.mem_map.1 hp
  have h1 := List.any_eq_false.1 h a ha
  exact h1 (decide_eq_true (str_inj e))
theorem seen_look {W : World} {sb : Nat} {F : List AT} (h : MapE W sb .string (eN F)) (nm : List UInt8) :
    (Instr.lookup 105 (.map (some sb)) (.string (strOf nm)) false).run Tryz.prog W = .ok (.int .i64 (if F.any (fun b => decide (b.1 = nm)) then 1 else 0)) W := by
  cases hF : F.any (fun b => decide (b.1 = nm)) with
  | false => exact (h.unknown (P := Tryz.prog) Tryz.underlying105 Tryz.underlying9 (z := .int .i64 0) (by kernel_rfl) (key := .string (strOf nm)) trivial (eN_none hF)).1
  | true =>
    obtain ⟨a, ha, he⟩ := List.any_eq_true.1 hF
    have he := of_decide_eq_true he
    subst he
    exact (h.known (P := Tryz.prog) Tryz.underlying105 Tryz.underlying9 (z := .int .i64 0) (by kernel_rfl) (List.mem_map.2 ⟨a, ha, rfl⟩)).1
theorem seen_put {W : World} {sb : Nat} {F : List AT} {a : AT} (hF : F.any (fun b => decide (b.1 = a.1)) = false)
    (h : ((∀ p ∈ eN F, p.1 ≠ Value.string (strOf a.1)) ∧ MapE W sb .string (eN F ++ [(Value.string (strOf a.1), .int .i64 1)])) ∨ ∃ (j : Nat) (u : Value), (eN F)[j]? = some (Value.string (strOf a.1), u) ∧ MapE W sb .string ((eN F).set j (Value.string (strOf a.1), .int .i64 1))) : MapE W sb .string (eN (F ++ [a])) := by
  rcases h with ⟨_, h⟩ | ⟨j, u, h, _⟩
  · unfold eN at h ⊢; rw [List.map_append]; exact h
  · exact absurd rfl (eN_none hF _ (List.mem_of_getElem? h))
theorem take_pairs {S : List (Int × List C)} {F : List AT} {a : AT} (l : List PC) (hl : l.map pcK = partsOf S a.1) : pairsF S (F ++ [a]) = pairsF S F ++ l.map fun x => (pcK x, a.2) := by
  rw [pairsF_snoc, ← hl, List.map_map]; rfl
theorem firsts_prefix (l : List AT) (k : Nat) : ∃ r, firstsA l = firstsA (l.take k) ++ r := by
  have key : ∀ (m : List AT) (acc : List AT), ∃ r, m.foldl firstStep acc = acc ++ r := by
    intro m
    induction m with
    | nil => exact fun acc => ⟨[], (List.append_nil _).symm⟩
    | cons a m ih =>
      intro acc
      obtain ⟨r, hr⟩ := ih (firstStep acc a)
      rw [List.foldl_cons, hr]
      unfold firstStep
      split
      · exact ⟨r, rfl⟩
      · exact ⟨a :: r, by rw [List.append_assoc]; rfl⟩
  have h := key (l.drop k) (firstsA (l.take k))
  unfold firstsA at h ⊢
  rwa [← List.foldl_append, List.take_append_drop] at h
/-- What has been asked, with one more, is no more than all. -/
theorem pairs_lt {S : List (Int × List C)} {l : List AT} {k : Nat} {a : AT} {r : List AT} (hf : firstsA l = firstsA (l.take k) ++ (a :: r)) {x : List ((Int × C) × V)} {j : Nat} (hx : (partsOf S a.1).map (fun y => (y, a.2)) = x) (hj : j < x.length) : (pairsF S (firstsA (l.take k)) ++ x.take j).length < (pairsOf S l).length := by
  unfold pairsOf
  rw [hf]
  have e : firstsA (l.take k) ++ (a :: r) = (firstsA (l.take k) ++ [a]) ++ r := by rw [List.append_assoc]; rfl
  rw [e]
  have e2 : pairsF S ((firstsA (l.take k) ++ [a]) ++ r) = pairsF S (firstsA (l.take k) ++ [a]) ++ pairsF S r := by unfold pairsF; rw [List.flatMap_append]
  rw [e2, pairsF_snoc, hx, List.length_append, List.length_append, List.length_append, List.length_take]
  omega

set_option maxRecDepth 100000 in
set_option maxHeartbeats 8000000 in
theorem asked_any (w0 w : World) (base b bp bq : Nat) (S : List PE) (Q : List PQ) (hi : IdxR w0 base b bp bq S Q) (hx0 : Ext w0 w) (key : List UInt8) (va : Value) (l : List AT) (hv : AttrR w0 va l) (G : Nat) (cb : Array Value) (hb : Nat) (hb0 : w0.heap.size ≤ hb) (hb1 : hb < w.heap.size)
    (J : List ((Int × C) × V) → World → Prop) (eg : ∀ args w, (callFunc G args).run Tryz.prog w = .ok (.enter G args) w) (hJ0 : J [] w)
    (hst : ∀ d W W', J d W → (∀ k, k < w.heap.size → W'.heap[k]? = W.heap[k]?) → J d W')
    (hc : ∀ (d : List ((Int × C) × V)) (W : World) (id : Int) (c : C) (sa : Option Addr) (sc : Nat) (v : V), J d W → Ext w0 W → SetR W (.slice sa c.set.length sc) c.set → d.length < (pairsOf (sS S) l).length →
      Calls Tryz.prog G (#[.agg #[.int .i64 id, .string (strOf c.name), .int .i64 c.op, .int .i64 c.v.k, .int .i64 c.v.n, .string (strOf c.v.s), .bool c.v.b, .slice sa c.set.length sc], .agg #[.int .i64 v.k, .int .i64 v.n, .string (strOf v.s), .bool v.b]] ++ cb) W fun e W' => e = .returned (.tuple #[]) ∧ J (d ++ [((id, c), v)]) W' ∧ W.grownBy W' (some hb)) :
    Calls Tryz.prog 31 #[.pointer (some ⟨b, 0, none⟩), .agg #[.string (strOf key), va], .func (.func G) #[] cb] w fun e w' => e = .returned (.tuple #[]) ∧ J (pairsOf (sS S) l) w' ∧ Ext w0 w' := by
  obtain ⟨a, cap, rfl, hcc, hmm⟩ := Row.shape hv
  unfold maxLen at hmm
  obtain ⟨n, hn⟩ : ∃ n, n = l.length := ⟨_, rfl⟩
  have HN := Lib.hid hn
  rw [← hn] at hv hcc ⊢
  have HI := Lib.hid hi
  have HV := Lib.hid hv
  have HST := Lib.hid hst
  have HC := Lib.hid hc
  obtain ⟨hxe, hbe⟩ := boxes1 w (.cells #[.string (strOf key), .slice a n cap] 34)
  have e1 := cell_of_row _ _ 1 _ _ _ hbe
  have HX := Lib.hid (hx0.trans hxe)
  have hj0 : J [] (w.alloc (.cells #[.string (strOf key), .slice a n cap] 34)) := HST.out _ w _ hJ0 (fun k hk => hxe.block k hk)
  have HJ := Lib.hid hj0
  have HB1 : Hid (hb < (w.alloc (.cells #[.string (strOf key), .slice a n cap] 34)).heap.size) := Nat.lt_of_lt_of_le hb1 hxe.size
  have HWS : Hid (w.heap.size ≤ (w.alloc (.cells #[.string (strOf key), .slice a n cap] 34)).heap.size) := hxe.size
  clear hn hi hv hst hc hJ0 hx0 hxe hbe hb1 hj0
  go_enter Tryz.func31, Tryz.ntmps31
  go_upto_region 2 with fail
  generalize w.alloc (.cells #[.string (strOf key), .slice a n cap] 34) = w1 at *
  have hmk : (Instr.makeMap 105 none).run Tryz.prog w1 = .ok (.map (some w1.heap.size)) (w1.alloc (.map #[] 0)) := run_makeMap (P := Tryz.prog) 105 w1
  go_upto_region 3 with fail
  clear hmk
  have hsb : MapE (w1.alloc (.map #[] 0)) w1.heap.size .string (eN (firstsA (l.take 0))) := MapE.made w1 .string
  have hxs : Ext w1 (w1.alloc (.map #[] 0)) := (Ext.refl w1).alloc _
  have e2 := hxs.cell e1
  have HX2 := Lib.hid (HX.out.trans hxs)
  have hj1 : J (pairsF (sS S) (firstsA (l.take 0))) (w1.alloc (.map #[] 0)) := HST.out _ w1 _ HJ.out (fun k hk => hxs.block k (Nat.lt_of_lt_of_le hk HWS.out))
  have HJ1 := Lib.hid hj1
  have HSB := Lib.hid hsb
  obtain ⟨sb, hsbe⟩ : ∃ sb, sb = w1.heap.size := ⟨_, rfl⟩
  have hbs : hb < sb := by rw [hsbe]; exact HB1.out
  have hss : w0.heap.size ≤ sb := by rw [hsbe]; exact HX.out.size
  have hws : w.heap.size ≤ sb := by rw [hsbe]; exact HWS.out
  rw [← hsbe] at HSB ⊢
  clear hsb hxs e1 hj1 HX HJ HB1 HWS hsbe
  generalize w1.alloc (.map #[] 0) = w2 at *
  go_wp2_with fail
  go_loopw [17] (fun i wr => ∃ k : Nat, k ≤ n ∧ i = .int .i64 k ∧ Hid (J (pairsF (sS S) (firstsA (l.take k))) wr) ∧ Hid (MapE wr sb .string (eN (firstsA (l.take k)))) ∧ Hid (Ext w0 wr)) (fun i _ => n - (intOf i).toNat)
  case atStart => exact ⟨0, Nat.zero_le _, rfl, HJ1.out, HSB.out, HX2.out⟩
  case round =>
    clear HJ1 HSB HX2
    obtain ⟨k, hk, rfl, hJ, hS, hX⟩ := hrel
    by_cases hlt : k < n
    · have hI : decide ((k : Int) < (n : Int)) = true := decide_eq_true (by omega)
      have hkN : (k : Int) < (n : Int) := by omega
      have hkl : k < l.length := by have := HN.out; omega
      obtain ⟨B, o, rfl, f0, f1, f2, f3, f4⟩ := (HV.out.ext hX.out).at hkl
      have hft := firstsA_take l k hkl
      have hpre := firsts_prefix l (k + 1)
      rw [hft] at hpre
      have HPRE := Lib.hid hpre
      have HFT := Lib.hid hft
      clear hft hpre
      generalize l[k] = x at *
      obtain ⟨F, hF⟩ : ∃ F, F = firstsA (l.take k) := ⟨_, rfl⟩
      have HF := Lib.hid hF
      rw [← hF] at hJ hS HPRE HFT
      clear hF
      go_upto_region 6 with fail
      obtain ⟨hxa, hba⟩ := boxes1 wr (.cells #[.string (strOf x.1), .int .i64 x.2.k, .int .i64 x.2.n, .string (strOf x.2.s), .bool x.2.b] 66)
      have q0 := cell_of_row _ _ 0 _ _ _ hba
      have q1 := cell_of_row _ _ 1 _ _ _ hba
      have q2 := cell_of_row _ _ 2 _ _ _ hba
      have q3 := cell_of_row _ _ 3 _ _ _ hba
      have q4 := cell_of_row _ _ 4 _ _ _ hba
      have hsz : wr.heap.size < (wr.alloc (.cells #[.string (strOf x.1), .int .i64 x.2.k, .int .i64 x.2.n, .string (strOf x.2.s), .bool x.2.b] 66)).heap.size := by rw [World.size_alloc]; exact Nat.lt_succ_self _
      have hsA := hS.out.ext hxa
      have hjA : J (pairsF (sS S) F) (wr.alloc (.cells #[.string (strOf x.1), .int .i64 x.2.k, .int .i64 x.2.n, .string (strOf x.2.s), .bool x.2.b] 66)) := HST.out _ wr _ hJ.out (fun k hk => hxa.block k (by have := hS.out.lt; omega))
      have HJA := Lib.hid hjA
      have HSA := Lib.hid hsA
      have HXA := Lib.hid (hX.out.trans hxa)
      have hbx : w0.heap.size ≤ wr.heap.size := hX.out.size
      have hnb : wr.heap.size ≠ hb := by have := hS.out.lt; omega
      have hns : wr.heap.size ≠ sb := by have := hS.out.lt; omega
      have hlook := seen_look hsA x.1
      clear hjA hsA hxa hJ hS hX f0 f1 f2 f3 f4
      generalize hbxn : wr.heap.size = bx at *
      clear hbxn
      generalize wr.alloc (.cells #[.string (strOf x.1), .int .i64 x.2.k, .int .i64 x.2.n, .string (strOf x.2.s), .bool x.2.b] 66) = wa at *
      cases hany : F.any (fun b => decide (b.1 = x.1)) with
      | true =>
        rw [hany, if_pos rfl] at hlook
        have hft2 : firstsA (l.take (k + 1)) = F := by rw [HFT.out]; unfold firstStep; rw [if_pos hany]
        have HFT2 := Lib.hid hft2
        clear hft2 hany q1 q2 q3 q4 hba
        go_wp2_with fail
        go_roundw
        case rel => exact ⟨k + 1, hlt, by go_num, by rw [HFT2.out]; exact HJA.out, by rw [HFT2.out]; exact HSA.out, HXA.out⟩
        case measure => simp [intOf]; omega
      | false =>
        rw [hany, if_neg (by decide)] at hlook
        have hft2 : firstsA (l.take (k + 1)) = F ++ [x] := by rw [HFT.out]; unfold firstStep; rw [if_neg (by rw [hany]; decide)]
        have HFT2 := Lib.hid hft2
        have HANY := Lib.hid hany
        have HBA := Lib.hid hba
        have hpr : ∃ r, firstsA l = F ++ x :: r := by
          obtain ⟨r, hr⟩ := HPRE.out
          unfold firstStep at hr
          rw [if_neg (by rw [hany]; decide), List.append_assoc] at hr
          exact ⟨r, hr⟩
        have HPR := Lib.hid hpr
        clear hft2 hany hba hpr HPRE HFT
        go_upto_region 8 with (refine wpList_putX rfl (.tmp 26) (.tmp 28) (.const (.int .i64 1)) 105 rfl Tryz.underlying105 Tryz.underlying9 (.string (strOf x.1)) (.int .i64 1) rfl rfl rfl HSA.out trivial ?_; intro w5 hbut hput; have HBUT := Lib.hid hbut; have HPUT := Lib.hid hput; clear hbut hput)
        have hs5 : MapE w5 sb .string (eN (F ++ [x])) := seen_put HANY.out HPUT.out
        have hj5 : J (pairsF (sS S) F) w5 := HST.out _ wa _ HJA.out (fun k hk => HBUT.out.block k (by omega))
        have hx5 : Ext w0 w5 := HBUT.out.ext HXA.out hss
        have hb5 : w5.heap[bx]? = some (.cells #[.string (strOf x.1), .int .i64 x.2.k, .int .i64 x.2.n, .string (strOf x.2.s), .bool x.2.b] 66 (0, 0)) := (HBUT.out.block bx hns).trans HBA.out
        have HS5 := Lib.hid hs5
        have HJ5 := Lib.hid hj5
        have HX5 := Lib.hid hx5
        have HB5 := Lib.hid hb5
        clear hs5 hj5 hx5 hb5 q0 q1 q2 q3 q4 hlook HSA HJA HXA HBA HBUT HPUT
        have q0 := cell_of_row _ _ 0 _ _ _ HB5.out
        have ib1 := cell_of_row _ _ 1 _ _ _ (HI.out.ext HX5.out).box
        obtain ⟨P, hP⟩ : ∃ P, P = lookQ Q x.1 := ⟨_, rfl⟩
        have hrow := valQ_row HI.out.parts x.1
        have hsets := valQ_sets HI.out.parts x.1
        rw [← hP] at hrow hsets
        obtain ⟨pa, pc, hpv, hpc, hpm⟩ := own_shape hrow
        have HLK : Hid (∀ W, Ext w5 W → (Instr.lookup 70 (.map (some bq)) (.string (strOf x.1)) false).run Tryz.prog W = .ok (.slice pa P.length pc) W) := fun W hW => by
          rw [← hpv]; exact (HI.out.parts.ext (HX5.out.trans hW)).look x.1
        have hpt : PtR w0 (.slice pa P.length pc) P := by rw [← hpv]; exact ⟨Row.of_own hrow, fun y hy => (hsets y hy).set⟩
        have HPT := Lib.hid hpt
        have HPK : Hid (P.map pcK = partsOf (sS S) x.1) := by show _ = _; rw [hP]; exact HI.out.cont x.1
        unfold maxLen at hpm
        obtain ⟨pn, hpn⟩ : ∃ pn, pn = P.length := ⟨_, rfl⟩
        have HPN := Lib.hid hpn
        rw [← hpn] at HLK HPT hpc
        clear hP hrow hsets hpv hpt hpn
        refine wp_region_facts [Fact.eq (.pointer (some ⟨b, 0, none⟩)),
            Fact.eq (.pointer (some ⟨b, 0, none⟩)),
            Fact.eq (.pointer (some ⟨b, 1, none⟩)),
            Fact.eq (.map (some bq)),
            Fact.eq (.pointer (some ⟨bx, 0, none⟩)),
            Fact.eq (.string (strOf x.1)),
            Fact.eq (.slice pa pn pc),
            Fact.eq (.int .i64 pn),
            Fact.eq (.int .i64 0)]
          [[], [(0, 29)], [(1, 30)], [(2, 31)], [], [(4, 33)], [(3, 32), (5, 34)], [(6, 35)], []]
          [(0, 29), (1, 30), (2, 31), (3, 32), (4, 33), (5, 34), (6, 35), (7, 36), (8, 37)] (by kernel_rfl) (by kernel_rfl) ?_ ?_
        · refine ⟨?_, ?_, ?_, ?_, ?_, ?_, ?_, ?_, ?_, trivial⟩
          · intro w1 hx1; change wpList _ _ _ _ _ _; exact ob_move rfl rfl rfl rfl rfl
          · intro w1 hx1; rintro _ rfl; change wpList _ _ _ _ _ _; go_wp2_with fail; exact ⟨rfl, Ext.refl _, rfl, rfl⟩
          · intro w1 hx1; rintro _ rfl; change wpList _ _ _ _ _ _; go_wp2_with fail; exact ⟨rfl, Ext.refl _, rfl, rfl⟩
          · intro w1 hx1; rintro _ rfl; change wpList _ _ _ _ _ _; have m0 := hx1.cell ib1; go_wp2_with fail; exact ⟨rfl, Ext.refl _, rfl, rfl⟩
          · intro w1 hx1; change wpList _ _ _ _ _ _; go_wp2_with fail; exact ⟨rfl, Ext.refl _, rfl, rfl⟩
          · intro w1 hx1; rintro _ rfl; change wpList _ _ _ _ _ _; have m0 := hx1.cell q0; go_wp2_with fail; exact ⟨rfl, Ext.refl _, rfl, rfl⟩
          · intro w1 hx1; rintro _ rfl; rintro _ rfl; change wpList _ _ _ _ _ _; have k1 := HLK.out w1 hx1; go_wp2_with fail; exact ⟨rfl, Ext.refl _, rfl, rfl⟩
          · intro w1 hx1; rintro _ rfl; change wpList _ _ _ _ _ _; go_wp2_with fail; exact ⟨rfl, Ext.refl _, rfl, rfl⟩
          · intro w1 hx1; change wpList _ _ _ _ _ _; exact ob_move rfl rfl rfl rfl rfl
        · intro w1 hx1; rintro _ rfl; rintro _ rfl; rintro _ rfl; rintro _ rfl; rintro _ rfl; rintro _ rfl; rintro _ rfl; rintro _ rfl; rintro _ rfl; refine depsThen_nil ?_; dsimp only; simp only [Act.put, List.setIfInBounds_toArray, List.set_cons_zero, List.set_cons_succ]
          have HX6 := Lib.hid (HX5.out.trans hx1)
          have HJ6 : Hid (J (pairsF (sS S) F ++ (((P.map pcK).map fun y => (y, x.2)).take 0)) w1) := by
            show J _ _
            rw [List.take_zero, List.append_nil]
            exact HST.out _ w5 _ HJ5.out (fun k hk => hx1.block k (by have := HS5.out.lt; omega))
          have HS6 := Lib.hid (HS5.out.ext hx1)
          have HB6 := Lib.hid (block_later HB5.out hx1)
          clear hx1 HX5 HJ5 HS5 HB5 q0 ib1 HLK
          go_wp2_with fail
          go_loopw [37] (fun i wr => ∃ j : Nat, j ≤ pn ∧ i = .int .i64 j ∧ Hid (J (pairsF (sS S) F ++ (((P.map pcK).map fun y => (y, x.2)).take j)) wr) ∧ Hid (MapE wr sb .string (eN (F ++ [x]))) ∧ Hid (Ext w0 wr) ∧ Hid (wr.heap[bx]? = some (.cells #[.string (strOf x.1), .int .i64 x.2.k, .int .i64 x.2.n, .string (strOf x.2.s), .bool x.2.b] 66 (0, 0)))) (fun i _ => pn - (intOf i).toNat)
          case atStart => exact ⟨0, Nat.zero_le _, rfl, HJ6.out, HS6.out, HX6.out, HB6.out⟩
          case round =>
            clear HJ6 HS6 HX6 HB6
            obtain ⟨j, hj, rfl, hJ, hS, hX, hB⟩ := hrel
            by_cases hltj : j < pn
            · have hIj : decide ((j : Int) < (pn : Int)) = true := decide_eq_true (by omega)
              have hjN : (j : Int) < (pn : Int) := by omega
              have hjl : j < P.length := by have := HPN.out; omega
              obtain ⟨B2, o2, sa, sc, rfl, he, g0, g1, g2, g3, g4, g5, g6, g7, gs⟩ := (HPT.out.ext hX.out).at hjl
              have hstep : ((P.map pcK).map fun y => (y, x.2)).take (j + 1) = ((P.map pcK).map fun y => (y, x.2)).take j ++ [((P[j].id, P[j].x.c), x.2)] := by
                rw [List.take_succ_eq_append_getElem (by rw [List.length_map, List.length_map]; exact hjl), List.getElem_map, List.getElem_map]; rfl
              have hltp : (pairsF (sS S) F ++ ((P.map pcK).map fun y => (y, x.2)).take j).length < (pairsOf (sS S) l).length := by
                obtain ⟨r, hr⟩ := HPR.out
                rw [HF.out] at hr ⊢
                exact pairs_lt hr (by rw [HPK.out]) (by rw [List.length_map, List.length_map]; exact hjl)
              have HSTEP := Lib.hid hstep
              have HLT := Lib.hid hltp
              clear hstep hltp he
              generalize P[j] = y at *
              obtain ⟨yid, ⟨yc, yh⟩⟩ := y
              dsimp only at *
              obtain ⟨hxa, hbp⟩ := boxes1 wr (.cells #[.int .i64 yid, .string (strOf yc.name), .int .i64 yc.op, .int .i64 yc.v.k, .int .i64 yc.v.n, .string (strOf yc.v.s), .bool yc.v.b, .slice sa yc.set.length sc] 77)
              have r0 := cell_of_row _ _ 0 _ _ _ hbp
              have r1 := cell_of_row _ _ 1 _ _ _ hbp
              have r2 := cell_of_row _ _ 2 _ _ _ hbp
              have r3 := cell_of_row _ _ 3 _ _ _ hbp
              have r4 := cell_of_row _ _ 4 _ _ _ hbp
              have r5 := cell_of_row _ _ 5 _ _ _ hbp
              have r6 := cell_of_row _ _ 6 _ _ _ hbp
              have r7 := cell_of_row _ _ 7 _ _ _ hbp
              have hba := block_later hB.out hxa
              have t1 := cell_of_row _ _ 1 _ _ _ hba
              have t2 := cell_of_row _ _ 2 _ _ _ hba
              have t3 := cell_of_row _ _ 3 _ _ _ hba
              have t4 := cell_of_row _ _ 4 _ _ _ hba
              have hjA := HST.out _ wr _ hJ.out (fun k hk => hxa.block k (by have := hS.out.lt; omega))
              have hcall := HC.out _ _ yid yc sa sc x.2 hjA (hX.out.trans hxa) (gs.ext hxa) HLT.out
              have HCALL := Lib.hid hcall
              have HXA := Lib.hid (hX.out.trans hxa)
              have HSA := Lib.hid (hS.out.ext hxa)
              have HBA := Lib.hid hba
              clear hjA hcall hba hbp gs hxa hJ hS hX hB
              go_wp2_with (go_at_fn G; refine HCALL.out.mono ?_; rintro e w7 ⟨rfl, hj7, hg7⟩; have HJ7 := Lib.hid hj7; have HG7 := Lib.hid hg7; clear hj7 hg7)
              have hj8 : J (pairsF (sS S) F ++ ((P.map pcK).map fun y => (y, x.2)).take (j + 1)) w7 := by rw [HSTEP.out, ← List.append_assoc]; exact HJ7.out
              have hS8 : MapE w7 sb .string (eN (F ++ [x])) := by
                obtain ⟨es, clock, h1, h2⟩ := HSA.out
                exact ⟨es, clock, (HG7.out.block sb (Array.getElem?_eq_some_iff.1 h1).1 (fun e => by have := Option.some.inj e; omega)).trans h1, h2⟩
              have hX8 : Ext w0 w7 := grown_thru HXA.out HG7.out fun q hq => by have := Option.some.inj hq; omega
              have hB8 := (HG7.out.block bx (Array.getElem?_eq_some_iff.1 HBA.out).1 (fun e => by have := Option.some.inj e; omega)).trans HBA.out
              have HJ8 := Lib.hid hj8
              have HS8 := Lib.hid hS8
              have HX8 := Lib.hid hX8
              have HB8 := Lib.hid hB8
              clear hj8 hS8 hX8 hB8 HJ7 HG7 HBA HSA HXA r0 r1 r2 r3 r4 r5 r6 r7 t1 t2 t3 t4 g0 g1 g2 g3 g4 g5 g6 g7
              go_roundw
              case rel => exact ⟨j + 1, hltj, by go_num, HJ8.out, HS8.out, HX8.out, HB8.out⟩
              case measure => simp [intOf]; omega
            · obtain rfl : j = pn := by omega
              have hIj : decide ((j : Int) < (j : Int)) = false := decide_eq_false (by omega)
              have hall : ((P.map pcK).map fun y => (y, x.2)).take j = (P.map pcK).map fun y => (y, x.2) := List.take_of_length_le (by rw [List.length_map, List.length_map]; have := HPN.out; omega)
              rw [hall] at hJ
              have hJ9 : J (pairsF (sS S) (firstsA (l.take (k + 1)))) wr := by
                rw [HFT2.out, pairsF_snoc, ← HPK.out]; exact hJ.out
              have HJ9 := Lib.hid hJ9
              have HS9 : Hid (MapE wr sb .string (eN (firstsA (l.take (k + 1))))) := by rw [HFT2.out]; exact hS.out
              have HX9 := Lib.hid hX.out
              clear hall hJ hJ9 hS hX hB
              go_wp2_with fail
              go_roundw
              case rel => exact ⟨k + 1, hlt, by go_num, HJ9.out, HS9.out, HX9.out⟩
              case measure => simp [intOf]; omega
    · obtain rfl : k = n := by omega
      have hI : decide ((k : Int) < (k : Int)) = false := decide_eq_false (by omega)
      have hall : l.take k = l := List.take_of_length_le (by have := HN.out; omega)
      rw [hall] at hJ
      go_wp2_with fail
      go_end0
      exact ⟨rfl, hJ.out, hX.out⟩
end Go.Proofs.YtckigoeomkphhaaGreat

namespace Go.Proofs.YtckigoeomkphhaaGreat
open Go.RowKit Go.MapKept

def Fact.csV (c : C) : Fact := ⟨fun v w => ∃ sa sc, v = .agg #[.string (strOf c.name), .int .i64 c.op, .int .i64 c.v.k, .int .i64 c.v.n, .string (strOf c.v.s), .bool c.v.b, .slice sa c.set.length sc] ∧ SetR w (.slice sa c.set.length sc) c.set, fun _ _ _ hx ⟨sa, sc, h1, h2⟩ => ⟨sa, sc, h1, h2.ext hx⟩⟩
def nfT (p : List C) : List C := if mayP p then normP p else []
def erT (p : List C) : Int := if mayP p then 0 else 30
theorem normal_bothT (w : World) (v : Value) (p : List C) (hp : PredR w v p) :
    Calls Tryz.prog 28 #[v] w fun e w' => ∃ (a : Option Addr) (cap : Nat) (us : List CS), e = .returned (.tuple #[.slice a us.length cap, .int .i64 (erT p)]) ∧ us.length ≤ cap ∧ cap ≤ maxLen ∧ us.map CS.c = nfT p ∧ w'.ownsRow w.heap.size 52 7 (.slice a us.length cap) us.length (us.flatMap csC) ∧ (∀ x ∈ us, SetO w.heap.size w' x) ∧ Ext w w' := by
  by_cases hm : mayP p = true
  · refine (normal_yes w v p hp hm).mono ?_
    rintro e w' ⟨v', us, rfl, h1, h2, h3, h4⟩
    obtain ⟨a, cap, rfl, h5, h6⟩ := own_shape h2
    exact ⟨a, cap, us, by unfold erT; rw [if_pos hm], h5, h6, by unfold nfT; rw [if_pos hm]; exact h1, h2, h3, h4⟩
  · refine (normal_no w v p hp (Bool.eq_false_iff.2 hm)).mono ?_
    rintro e w' ⟨rfl, h4⟩
    exact ⟨none, 0, [], by unfold erT; rw [if_neg hm]; rfl, Nat.le_refl _, by decide, by unfold nfT; rw [if_neg hm]; rfl, own_none _ _ _ _, (fun _ h => by cases h), h4⟩

def findS (S : List PE) (id : Int) : Option PE := S.find? fun k => decide (k.id = id)
def valS (S : List PE) (id : Int) : Value := match findS S id with | none => .slice none 0 0 | some k => k.h
def predS (S : List PE) (id : Int) : List C := match findS S id with | none => [] | some k => k.p
theorem findS_some {S : List PE} {id : Int} {k : PE} (h : findS S id = some k) : k ∈ S ∧ k.id = id := ⟨List.mem_of_find?_eq_some h, by have := List.find?_some h; exact of_decide_eq_true this⟩
theorem hasS_find (S : List PE) (id : Int) : hasS (sS S) id = (findS S id).isSome := by
  rw [Bool.eq_iff_iff, hasS_iff, findS, List.find?_isSome]
  constructor
  · rintro ⟨x, hx, e⟩
    obtain ⟨k, hk, rfl⟩ := List.mem_map.1 hx
    exact ⟨k, hk, decide_eq_true e⟩
  · rintro ⟨k, hk, e⟩
    exact ⟨(k.id, k.p), List.mem_map.2 ⟨k, hk, rfl⟩, of_decide_eq_true e⟩
theorem eS_none {S : List PE} {id : Int} (h : ∀ x ∈ eS S, x.1 ≠ Value.int .i64 id) : findS S id = none := List.find?_eq_none.2 fun k hk => by
  have h1 := h _ (List.mem_map.2 ⟨k, hk, rfl⟩)
  intro e
  exact h1 (by rw [of_decide_eq_true e])
theorem eS_at {S : List PE} {id : Int} {j : Nat} {v : Value} (h : (eS S)[j]? = some (Value.int .i64 id, v)) : ∃ hj : j < S.length, S[j].id = id ∧ v = S[j].h := by
  unfold eS at h
  rw [List.getElem?_map] at h
  cases ht : S[j]? with
  | none => rw [ht] at h; cases h
  | some u =>
    obtain ⟨hj, rfl⟩ := List.getElem?_eq_some_iff.1 ht
    rw [ht] at h
    simp only [Option.map_some, Option.some.injEq, Prod.mk.injEq] at h
    exact ⟨hj, by simpa using h.1, h.2.symm⟩
theorem eS_ids {S : List PE} (h : ((eS S).map (·.1)).Nodup) : (S.map PE.id).Nodup := by
  have e : (eS S).map (·.1) = (S.map PE.id).map (Value.int .i64) := by unfold eS; rw [List.map_map, List.map_map]; rfl
  rw [e] at h
  exact List.Pairwise.of_map _ (fun a b hne e => hne (by rw [e])) h
theorem findS_at {S : List PE} (hn : (S.map PE.id).Nodup) {j : Nat} (hj : j < S.length) : findS S S[j].id = some S[j] := by
  induction S generalizing j with
  | nil => cases hj
  | cons x r ih =>
    have h1 := List.nodup_cons.1 hn
    unfold findS
    rw [List.find?_cons]
    cases j with
    | zero => simp
    | succ j =>
      have hj2 : j < r.length := by simpa using hj
      have : x.id ≠ r[j].id := fun e => h1.1 (by rw [show x.id = r[j].id from e]; exact List.mem_map.2 ⟨r[j], List.getElem_mem hj2, rfl⟩)
      simp only [List.getElem_cons_succ, this, decide_false]
      exact ih h1.2 hj2
theorem mp_look {w : World} {bp : Nat} {S : List PE} (h : MapE w bp (.int .i64) (eS S)) (id : Int) :
    (Instr.lookup 69 (.map (some bp)) (.int .i64 id) true).run Tryz.prog w = .ok (.tuple #[valS S id, .bool (hasS (sS S) id)]) w ∧ (Instr.lookup 69 (.map (some bp)) (.int .i64 id) false).run Tryz.prog w = .ok (valS S id) w := by
  rw [hasS_find]
  rcases h.look (P := Tryz.prog) Tryz.underlying69 Tryz.underlying3 (z := .slice none 0 0) (by kernel_rfl) (key := .int .i64 id) rfl with ⟨h1, h2, h3⟩ | ⟨j, v, h1, h2, h3⟩
  · rw [h2, h3]; unfold valS; rw [eS_none h1]; exact ⟨rfl, rfl⟩
  · obtain ⟨hj, hn, rfl⟩ := eS_at h1
    rw [h2, h3]; unfold valS; rw [← hn, findS_at (eS_ids h.keys.2) hj]; exact ⟨rfl, rfl⟩
variable {w w1 w2 w' : World} {base b bp bq : Nat} {S : List PE} {Q : List PQ}
theorem IdxR.val (h : IdxR w base b bp bq S Q) (id : Int) : PredT base w (valS S id) (predS S id) := by
  unfold valS predS
  cases hf : findS S id with
  | none => exact PredT.none _ _
  | some k => exact h.preds k (findS_some hf).1
theorem IdxR.ids (h : IdxR w base b bp bq S Q) : (S.map PE.id).Nodup := eS_ids h.mp.keys.2
def Two2 (bp bq : Nat) (k : Nat) : Prop := k = bp ∨ k = bq
abbrev TurnX (base bp bq : Nat) := TurnT (Two2 bp bq) 77 base
theorem IdxR.maps (h : IdxR w base b bp bq S Q) : ∀ q, Two2 bp bq q → ∃ es c, w.heap[q]? = some (.map es c) := by
  rintro q (rfl | rfl)
  · obtain ⟨es, c, h, _⟩ := h.mp; exact ⟨es, c, h⟩
  · obtain ⟨es, c, h, _⟩ := h.parts.mq; exact ⟨es, c, h⟩
theorem eqmap_nil (w : World) (r : Nat) : (binOp .eql 69 (.map (some r)) (.map none)).run Tryz.prog w = .ok (.bool false) w := by
  have := run_eql_map_nil (P := Tryz.prog) w 69 3 28 (some r) Tryz.underlying69
  simpa using this
theorem new08_any (w : World) : Calls Tryz.prog 7 #[] w fun e w' => ∃ b bp bq, e = .returned (.pointer (some ⟨b, 0, none⟩)) ∧ IdxR w' w.heap.size b bp bq [] [] ∧ w.heap.size ≤ b ∧ w.heap.size ≤ bp ∧ w.heap.size ≤ bq ∧ bp ≠ bq ∧ b < w'.heap.size ∧ Ext w w' := by
  have hmk1 : (Instr.makeMap 69 none).run Tryz.prog w = .ok (.map (some w.heap.size)) (w.alloc (.map #[] 0)) := run_makeMap (P := Tryz.prog) 69 w
  have hmk2 : (Instr.makeMap 70 none).run Tryz.prog (w.alloc (.map #[] 0)) = .ok (.map (some (w.alloc (.map #[] 0)).heap.size)) ((w.alloc (.map #[] 0)).alloc (.map #[] 0)) := run_makeMap (P := Tryz.prog) 70 _
  rw [World.size_alloc] at hmk2
  go_enter Tryz.func7, Tryz.ntmps7
  go_wp2
  go_ret
  have h0 := MapE.made w (.int .i64)
  have h1 := MapE.made (w.alloc (.map #[] 0)) .string
  rw [World.size_alloc] at h1
  have x1 : Ext (w.alloc (.map #[] 0)) ((w.alloc (.map #[] 0)).alloc (.map #[] 0)) := (Ext.refl _).alloc _
  have x2 := (Ext.refl ((w.alloc (.map #[] 0)).alloc (.map #[] 0))).alloc (.cells #[.map (some w.heap.size), .map (some (w.heap.size + 1))] 72)
  refine ⟨w.heap.size + 1 + 1, w.heap.size, w.heap.size + 1, rfl, ⟨?_, h0.ext (x1.trans x2), fun _ h => (by cases h), ⟨h1.ext x2, fun _ h => (by cases h), fun _ h => (by cases h), fun i j hi => absurd hi (Nat.not_lt_zero _)⟩, fun nm => rfl⟩, by omega, Nat.le_refl _, by omega, by omega, by rw [World.size_alloc, World.size_alloc, World.size_alloc]; omega, ((Ext.refl w).alloc _).trans (x1.trans x2)⟩
  have := heap_alloc_new ((w.alloc (.map #[] 0)).alloc (.map #[] 0)) (.cells #[.map (some w.heap.size), .map (some (w.heap.size + 1))] 72)
  rwa [World.size_alloc, World.size_alloc] at this
theorem parts_le {R : SP} {m : Nat} (h : ∀ k ∈ R, k.2.length ≤ m) (nm : List UInt8) : (partsOf R nm).length ≤ R.length * m := by
  induction R with
  | nil => simp [partsOf]
  | cons k R ih =>
    have e : (partsOf (k :: R) nm).length = (k.2.filter fun c => decide (c.name = nm)).length + (partsOf R nm).length := by
      show (partsOf ([k] ++ R) nm).length = _
      rw [partsOf_append, partsOf_one, List.length_append, List.length_map]
    have h1 := List.length_filter_le (fun c : C => decide (c.name = nm)) k.2
    have h2 := h k List.mem_cons_self
    have h3 := ih fun x hx => h x (List.mem_cons_of_mem _ hx)
    rw [e, List.length_cons, Nat.succ_mul]
    omega
theorem info_part : (Tryz.prog.info? 77).map (fun i => (i.zero, i.size, i.bytes)) = some (some (.agg #[.int .i64 0, .string ⟨#[]⟩, .int .i64 0, .int .i64 0, .int .i64 0, .string ⟨#[]⟩, .bool false, .slice none 0 0]), 8, 96) := by kernel_rfl
theorem pt_row (w : World) (id : Int) (c : C) (sa : Option Addr) (sc : Nat) : Row (w.alloc (.cells #[.int .i64 id, .string (strOf c.name), .int .i64 c.op, .int .i64 c.v.k, .int .i64 c.v.n, .string (strOf c.v.s), .bool c.v.b, .slice sa c.set.length sc] 77)) 8 (.slice (some ⟨w.heap.size, 0, none⟩) 1 1) 1 [.int .i64 id, .string (strOf c.name), .int .i64 c.op, .int .i64 c.v.k, .int .i64 c.v.n, .string (strOf c.v.s), .bool c.v.b, .slice sa c.set.length sc] :=
  Row.of_own (World.ownsRow_lit (base := w.heap.size) (e := 77) (size := 8) w #[.int .i64 id, .string (strOf c.name), .int .i64 c.op, .int .i64 c.v.k, .int .i64 c.v.n, .string (strOf c.v.s), .bool c.v.b, .slice sa c.set.length sc] 1 (Nat.le_refl _) (by decide) rfl)
theorem pt_one (id : Int) (c : C) (sa : Option Addr) (sc : Nat) : ∀ u ∈ ([.int .i64 id, .string (strOf c.name), .int .i64 c.op, .int .i64 c.v.k, .int .i64 c.v.n, .string (strOf c.v.s), .bool c.v.b, .slice sa c.set.length sc] : List Value), u.oneCell' = true := fun u hu => by
  simp only [List.mem_cons, List.not_mem_nil, or_false] at hu
  rcases hu with rfl | rfl | rfl | rfl | rfl | rfl | rfl | rfl <;> rfl
/-- All but the two maps and the rows of parts. -/
theorem IdxR.turnP (h : IdxR w base b bp bq S Q) (hx : TurnX base bp bq w w') : (w'.heap[b]? = some (.cells #[.map (some bp), .map (some bq)] 72 (0, 0))) ∧ ∀ k ∈ S, PredT base w' k.h k.p := by
  refine ⟨hx.box h.box (fun hm => ?_) (by decide), fun k hk => (h.preds k hk).turn hx (fun q hq => .inl (h.maps q hq)) (by decide) (by decide)⟩
  obtain ⟨es, c, hh⟩ := h.maps b hm
  have := h.box
  rw [hh] at this; cases this

end Go.Proofs.YtckigoeomkphhaaGreat

namespace Go.Proofs.YtckigoeomkphhaaGreat
open Go.RowKit Go.Sort

theorem setCell_block_far (w : World) (a : Addr) (v : Value) (k : Nat) (h : k ≠ a.block) : (w.setCell a v).heap[k]? = w.heap[k]? := by
  show (w.heap.modify a.block _)[k]? = w.heap[k]?
  rw [Array.getElem?_modify, if_neg (fun e => h e.symm)]
theorem cell_far (w : World) (g j h k : Nat) (u : Value) (hne : g ≠ h) : (w.setCell ⟨g, j, none⟩ u).cell? ⟨h, k, none⟩ = w.cell? ⟨h, k, none⟩ := by
  unfold World.cell?
  rw [setCell_block_far w ⟨g, j, none⟩ u h (Ne.symm hne)]
theorem own_set1 {w : World} {base g n cap k : Nat} {e : TypeId} {xs : List Value} (h : w.ownsRow base e k (.slice (some ⟨g, 0, none⟩) n cap) n xs) {j : Nat} (hj : j < xs.length) (u : Value) :
    (w.setCell ⟨g, j, none⟩ u).ownsRow base e k (.slice (some ⟨g, 0, none⟩) n cap) n (xs.set j u) ∧ w.grownBy (w.setCell ⟨g, j, none⟩ u) (some g) := by
  obtain ⟨cur, hg, hb, hn, hm, hs, hlt, hH⟩ := own_holds h
  have h1 := setCells_putRow w g 0 [u] j xs.toArray (by simp; omega)
  rw [putRow_self id w g 0 _ hH, Nat.zero_add] at h1
  have e1 : w.setCells g j [u] = w.setCell ⟨g, j, none⟩ u := rfl
  rw [e1] at h1
  have e3 : setMany xs.toArray j [u] = (xs.set j u).toArray := by simp [setMany]
  rw [e3] at h1
  have e2 : putRow id w g 0 (xs.set j u).toArray = grow (putRow id (Sort.ahead w 0) g 0 (xs.set j u).toArray) #[] := by rw [grow_empty, Sort.ahead_zero]
  rw [h1, e2]
  exact ⟨own_put h (by simp), grownBy_row _⟩
end Go.Proofs.YtckigoeomkphhaaGreat

namespace Go.Proofs.YtckigoeomkphhaaGreat
open Go.RowKit Go.Sort Go.MapKept

def iC1 (x : Int) : List Value := [.int .i64 x]
theorem iC1_len (x : Int) : (iC1 x).length = 1 := rfl
theorem flat_iC1 (l : List Int) : l.flatMap iC1 = l.map (Value.int .i64) := by
  induction l with
  | nil => rfl
  | cons x l ih => rw [List.flatMap_cons, ih]; rfl
def IntR (w : World) (v : Value) (l : List Int) : Prop := Row w 1 v l.length (l.flatMap iC1)
theorem IntR.ext {w w' : World} {v : Value} {l : List Int} (h : IntR w v l) (hx : Ext w w') : IntR w' v l := Row.ext h hx
theorem IntR.at {w : World} {a : Option Addr} {n cap : Nat} {l : List Int} (h : IntR w (.slice a n cap) l) {k : Nat} (hk : k < l.length) : ∃ B o, a = some ⟨B, o, none⟩ ∧ w.cell? ⟨B, o + k, none⟩ = some (.int .i64 l[k]) := by
  obtain ⟨B, o, rfl⟩ := Row.base h (by omega) (by decide)
  have q := Row.cellAt h ((flat_get iC1 1 iC1_len l k hk 0 (by decide)).trans (rfl : (iC1 l[k])[0]? = some (.int .i64 l[k]))) (by omega)
  rw [Nat.mul_one, Nat.add_zero] at q
  exact ⟨B, o, rfl, q⟩
set_option maxRecDepth 100000 in
set_option maxHeartbeats 2000000 in
theorem idxI_any (w : World) (v : Value) (l : List Int) (h : IntR w v l) (g : Nat) (cb : Array Value) (p : Int → Bool) (eg : ∀ args w, (callFunc g args).run Tryz.prog w = .ok (.enter g args) w)
    (hc : ∀ (W : World) (x : Int), Ext w W → x ∈ l → Calls Tryz.prog g (#[.int .i64 x] ++ cb) W fun e W' => e = .returned (.bool (p x)) ∧ Ext W W') :
    Calls Tryz.prog 57 #[v, .func (.func g) #[] cb] w fun e w' => e = .returned (.int .i64 (idxP p l)) ∧ Ext w w' := by
  obtain ⟨a, cap, rfl, hcc, hm⟩ := Row.shape h
  unfold maxLen at hm
  generalize hn : l.length = n at *
  have HN := Lib.hid hn
  clear hn
  have HC := Lib.hid hc
  clear hc
  go_enter Tryz.func57, Tryz.ntmps57
  go_wp2_with fail
  go_loopw [5, 8] (fun _ i wr => ∃ k : Nat, k ≤ n ∧ i = .int .i64 k ∧ Hid (∀ x ∈ l.take k, p x = false) ∧ Ext w wr) (fun _ i _ => n - (intOf i).toNat)
  case atStart => exact ⟨0, Nat.zero_le _, rfl, (by show ∀ x ∈ l.take 0, _; simp), Ext.refl w⟩
  case round =>
    obtain ⟨k, hk, rfl, hall, hx⟩ := hrel
    by_cases hlt : k < n
    · have k1 : k < l.length := by rw [HN.out]; exact hlt
      have hI : decide ((k : Int) < (n : Int)) = true := decide_eq_true (by omega)
      have hext := h.ext hx
      obtain ⟨B1, o1, rfl, f0⟩ := IntR.at hext k1
      have hcall := HC.out _ l[k] hx (List.getElem_mem k1)
      have hhit : p l[k] = true → idxP p l = k := fun e => idxP_hit k1 hall.out e
      have hnext : p l[k] = false → ∀ x ∈ l.take (k + 1), p x = false := fun e x hx => by
        rw [List.take_succ_eq_append_getElem k1] at hx
        rcases List.mem_append.1 hx with hx | hx
        · exact hall.out x hx
        · rw [List.mem_singleton.1 hx]; exact e
      generalize l[k] = x at *
      have HCALL := Lib.hid hcall
      clear hcall
      cases hq : p x with
      | true =>
        have hres := Lib.hid (hhit hq)
        have HQ := Lib.hid hq
        clear hhit hnext hq
        go_wp2_with (go_at_fn g; refine HCALL.out.mono ?_; rw [HQ.out]; rintro e w2 ⟨rfl, hx2⟩)
        go_ret
        exact ⟨by rw [hres.out]; rfl, hx.trans hx2⟩
      | false =>
        have hres := Lib.hid (hnext hq)
        have HQ := Lib.hid hq
        clear hhit hnext hq
        go_wp2_with (go_at_fn g; refine HCALL.out.mono ?_; rw [HQ.out]; rintro e w2 ⟨rfl, hx2⟩)
        go_roundw
        case rel => exact ⟨k + 1, hlt, by go_num, hres.out, hx.trans hx2⟩
        case measure => simp [intOf]; omega
    · obtain rfl : k = n := by omega
      have hI : decide ((k : Int) < (k : Int)) = false := decide_eq_false (by omega)
      have hres : Hid (idxP p l = -1) := by
        show _ = _
        refine idxP_miss fun x hx => hall.out x ?_
        rw [List.take_of_length_le (by rw [HN.out]; exact Nat.le_refl _)]; exact hx
      go_wp2_with fail
      go_ret
      exact ⟨by rw [hres.out]; rfl, hx⟩

theorem zero_int : ∀ w, (zeroValue 3).run Tryz.prog w = .ok (.int .i64 0) w := fun _ => by kernel_rfl
set_option maxRecDepth 100000 in
set_option maxHeartbeats 8000000 in
theorem deleteI_any (w : World) (base : Nat) (v : Value) (l : List Int) (ho : w.ownsRow base 3 1 v l.length (l.flatMap iC1)) (hl : l.length ≤ 1000000) (G : Nat) (cb : Array Value) (p : Int → Bool)
    (eg : ∀ args w, (callFunc G args).run Tryz.prog w = .ok (.enter G args) w)
    (hc : ∀ (W : World) (x : Int), w.grownBy W v.ownBlock → x ∈ l → Calls Tryz.prog G (#[.int .i64 x] ++ cb) W fun e W' => e = .returned (.bool (p x)) ∧ Ext W W') :
    Calls Tryz.prog 34 #[v, .func (.func G) #[] cb] w fun e w' => ∃ v', e = .returned v' ∧ w'.ownsRow base 3 1 v' (l.filter fun x => !p x).length ((l.filter fun x => !p x).flatMap iC1) ∧ w.grownBy w' v.ownBlock := by
  have hidx := idxI_any w v l (Row.of_own ho) G cb p eg (fun W x hx hm => hc W x (grown_ext (grown_refl w _) hx) hm)
  obtain ⟨ix, hix⟩ : ∃ ix, ix = idxP p l := ⟨_, rfl⟩
  rw [← hix] at hidx
  cases hf : l.findIdx? p with
  | none =>
    have hix1 : ix = -1 := by rw [hix]; unfold idxP; rw [hf]
    subst hix1
    have hres := del_none hf
    have HR := Lib.hid hres
    have HO := Lib.hid ho
    have HI := Lib.hid hidx
    obtain ⟨a, cap, rfl, hc2, hm⟩ := Row.shape (Row.of_own ho)
    clear hix hres ho hidx hc hf eg
    generalize hnn : l.length = n at *
    have HNN := Lib.hid hnn
    clear hnn
    go_enter Tryz.func34, Tryz.ntmps34
    go_wp2_with (go_at_call 57; refine HI.out.mono ?_; rintro e w1 ⟨rfl, hx1⟩)
    go_ret
    refine ⟨_, rfl, ?_, grown_ext (grown_refl w _) hx1⟩
    rw [HR.out, HNN.out]
    exact own_ext HO.out hx1
  | some i =>
    obtain ⟨hi, hpi, hpre⟩ := idx_start hf
    have hix1 : ix = i := by rw [hix]; unfold idxP; rw [hf]
    subst hix1
    have hst := DelInv.start p hi hpre hpi
    rcases ho.2 with ⟨_, e0⟩ | ⟨g, cap, cur, rfl, hb, hg, hn, hm, hs, ht⟩
    · omega
    clear cur hg hs ht hb
    unfold maxLen at hm
    have hne : ((i : Int) == -1) = false := beq_eq_false_iff_ne.2 (by omega)
    have HO := Lib.hid ho
    have HI := Lib.hid hidx
    have HST := Lib.hid hst
    have HC := Lib.hid hc
    clear hidx hst hc hix hf hpre hpi ho
    generalize hN : l.length = n at *
    have HN := Lib.hid hN
    clear hN
    go_enter Tryz.func34, Tryz.ntmps34
    go_wp2_with (go_at_call 57; refine HI.out.mono ?_; rintro e w1 ⟨rfl, hx1⟩)
    go_loopw [5, 6] (fun ii jj wr => ∃ (k j : Nat) (r : List Int), ii = .int .i64 k ∧ jj = .int .i64 j ∧ k + 1 ≤ j ∧ j ≤ n ∧ Hid (DelInv p l r k j) ∧ Hid (wr.ownsRow base 3 1 (.slice (some ⟨g, 0, none⟩) n cap) n (r.flatMap iC1)) ∧ Hid (w.grownBy wr (some g))) (fun _ jj _ => n - (intOf jj).toNat)
    case atStart => exact ⟨i, i + 1, l, rfl, by go_num, Nat.le_refl _, by omega, HST, own_ext HO.out hx1, grown_ext (grown_refl w _) hx1⟩
    case round =>
      obtain ⟨k, j, r, rfl, rfl, hkj, hj, hinv, hown, hgr⟩ := hrel
      by_cases hlt : j < n
      · have hI : decide ((j : Int) < (n : Int)) = true := decide_eq_true (by omega)
        have hjl : j < l.length := by rw [HN.out]; exact hlt
        obtain ⟨r1, er⟩ := hinv.out.at hjl
        have hrl : r.length = n := by rw [hinv.out.len, HN.out]
        obtain ⟨B9, o9, e9, f0⟩ := IntR.at (by unfold IntR; rw [hrl]; exact Row.of_own hown.out) r1
        cases e9
        rw [er, Nat.zero_add] at f0
        have hmem : l[j] ∈ l := List.getElem_mem hjl
        have hsk := fun h => hinv.out.skip hjl h
        have hke := fun h => hinv.out.keep hjl h
        have HSK := Lib.hid hsk
        have HKE := Lib.hid hke
        clear hsk hke er r1 hinv
        generalize l[j] = x at *
        have hcall := HC.out wr x hgr.out hmem
        have hown1 := hown
        have hgr1 := hgr
        have HCALL := Lib.hid hcall
        clear hcall hmem
        cases hE : p x with
        | true =>
          have HE := Lib.hid hE
          have hinv2 := Lib.hid (HSK.out hE)
          clear hE HSK HKE
          go_wp2_with (go_at_fn G; refine HCALL.out.mono ?_; rw [HE.out]; rintro e w2 ⟨rfl, hx2⟩)
          go_roundw
          case rel => exact ⟨k, j + 1, r, rfl, by go_num, by omega, hlt, hinv2, own_ext hown1.out hx2, grown_ext hgr1.out hx2⟩
          case measure => simp [intOf]; omega
        | false =>
          have HE := Lib.hid hE
          have hinv2 := Lib.hid (HKE.out hE)
          clear hE HSK HKE
          have hkr : k < r.length := by omega
          have hkn : k < n := by omega
          go_upto_region 9 with (go_at_fn G; refine HCALL.out.mono ?_; rw [HE.out]; rintro e w2 ⟨rfl, hx2⟩)
          have hown2 := own_ext hown1.out hx2
          have hth := own_there hown2 k 1 (by omega)
          obtain ⟨hu8, hz9⟩ := hth 0 (by decide)
          obtain ⟨u9, hu9⟩ := Option.isSome_iff_exists.1 hu8
          clear hu8
          rw [Nat.mul_one, Nat.add_zero] at hu9 hz9
          have hset3 := own_set iC1 iC1_len hown2 k hkr x
          have e3 : w2.setCells g (k * 1) (iC1 x) = w2.setCell ⟨g, k, none⟩ (.int .i64 x) := by rw [Nat.mul_one]; rfl
          rw [e3] at hset3
          have hgr2 := Lib.hid (grown_ext hgr1.out hx2)
          have HS3 := Lib.hid hset3.1
          have HG3 := Lib.hid hset3.2
          clear hset3 hown2 hx2 e3 hth
          go_wp2_with fail
          go_roundw
          case rel => exact ⟨k + 1, j + 1, r.set k x, by go_num, by go_num, by omega, hlt, hinv2, HS3.out, hgr2.out.trans HG3.out⟩
          case measure => simp [intOf]; omega
      · obtain rfl : j = n := by omega
        have hI : decide ((j : Int) < (j : Int)) = false := decide_eq_false (by omega)
        have hdone := hinv.out
        rw [← HN.out] at hdone
        obtain ⟨ht, hlen⟩ := hdone.done
        have hkn : k < j := by omega
        have hkc : ¬ cap = k := by omega
        have hkc2 : k ≤ cap := by omega
        have hcl := run_clear_tail hown.out 30 (.int .i64 0) rfl (by simp [Value.cells, Value.oneCell']) Tryz.underlying30 zero_int k (cap - k) hkn
        rw [Nat.mul_one] at hcl
        have hfin := own_clear_tail hown.out (Nat.le_of_lt hkn) (.int .i64 0) rfl
        have hres : Hid ((r.flatMap iC1).take k = (l.filter fun x => !p x).flatMap iC1) := by
          have h := flat_take iC1 1 iC1_len r k
          rw [Nat.mul_one] at h
          show _ = _; rw [h, ht]
        rw [Nat.mul_one] at hfin
        have HL := Lib.hid hlen
        have HF := Lib.hid hfin
        generalize wr.setCells g k (Builtin.zeroCells (Value.int .i64 0).cells (j - k)).toList = wz at *
        clear ht hlen hfin hinv hdone
        go_wp2_with fail
        go_ret
        refine ⟨_, rfl, ?_, hgr.out.trans HF.out.2⟩
        rw [HL.out, ← hres.out]
        exact HF.out.1
end Go.Proofs.YtckigoeomkphhaaGreat
