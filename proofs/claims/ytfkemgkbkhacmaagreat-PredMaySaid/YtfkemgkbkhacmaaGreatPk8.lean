/- pred.Normal.
The law's small makers N, S, E, A; what literals hold; awake.
One cell of a row of the call's own is set. (Of any program.) -/
import Derived.Test.YtfkemgkbkhacmaaGreatPk6
import Derived.Test.YtfkemgkbkhacmaaGreatPk7
import Derived.Test.YtfkemgkbkhacmaaGreatPk4
import Derived.Test.YtfkemgkbkhacmaaGreatPk3
namespace Go.Proofs.YtfkemgkbkhacmaaGreat
open Go.RowKit Go.Sort

theorem sortSet (w w2 : World) (v : Value) (l : List V) (hx : Ext w w2) (ho : w2.ownsRow w.heap.size 34 4 v l.length (l.flatMap vC)) (hl : l.length ≤ 1000000) :
    Calls Tryz.prog 18 #[v, .func (.func 19) #[] #[]] w2 fun e w' => e = .returned (.tuple #[]) ∧ ∃ l' : List V, (l'.Perm l ∧ (l'.Pairwise fun a b => cmpV a b ≤ 0)) ∧ w'.ownsRow w.heap.size 34 4 v l'.length (l'.flatMap vC) ∧ Ext w w' := by
  refine (sortV_any w2 _ v l ho hl).mono ?_
  rintro e w' ⟨rfl, l', p1, p2, p3, p4⟩
  exact ⟨rfl, l', ⟨p1, p2⟩, by rw [p1.length_eq]; exact p3, hx.grown_none p4 (own_base ho)⟩
theorem compSet (w w2 : World) (v : Value) (c : C) (l : List V) (hc : mayC c = true) (hx : Ext w w2) (ho : w2.ownsRow w.heap.size 34 4 v l.length (l.flatMap vC)) (hp : l.Perm c.set ∧ (l.Pairwise fun a b => cmpV a b ≤ 0)) :
    Calls Tryz.prog 20 #[v] w2 fun e w' => ∃ v', e = .returned v' ∧ w'.ownsRow w.heap.size 34 4 v' (normC c).set.length ((normC c).set.flatMap vC) ∧ Ext w w' := by
  have hlen := hp.1.length_eq
  have hs := may_set hc
  have hi := set_inj hc
  have he : compE l = (normC c).set := compL_sorted wo_V hp.1 hp.2 hi fun a ha b hb => ⟨fun h => by rw [of_decide_eq_true h]; exact wo_V.refl b, fun h => decide_eq_true (hi a ha b hb h)⟩
  refine (compactV_any w2 _ v l ho (by omega)).mono ?_
  rintro e w' ⟨v', rfl, p1, p2, p3⟩
  rw [he] at p1
  exact ⟨v', rfl, p1, hx.grown_none p2 (own_base ho)⟩

theorem grown_setCell (w : World) (a : Addr) (v : Value) : w.grownBy (w.setCell a v) (some a.block) := by
  have h := Below.setCell (Below.refl a.block w) (Nat.le_refl _) v
  refine ⟨h.os, h.tape, h.output, by rw [World.size_setCell]; exact Nat.le_refl _, fun k hk hne => ?_⟩
  have hne2 : k ≠ a.block := fun e => hne (by rw [e])
  show (w.heap.modify a.block _)[k]? = w.heap[k]?
  rw [Array.getElem?_modify, if_neg (fun e => hne2 e.symm)]
theorem addRow (w : World) (x : CS) : Row (w.alloc (.cells (csC x).toArray 37)) 7 (.slice (some ⟨w.heap.size, 0, none⟩) 1 1) 1 (csC x) :=
  Row.of_own (World.ownsRow_lit (base := w.heap.size) (e := 37) (size := 7) w (csC x).toArray 1 (Nat.le_refl _) (by decide) rfl)

set_option maxRecDepth 100000 in
set_option maxHeartbeats 2000000 in
theorem normal_no (w : World) (v : Value) (p : List C) (hp : PredR w v p) (hm : mayP p = false) : Calls Tryz.prog 5 #[v] w fun e w' => e = .returned (.tuple #[.slice none 0 0, .int .i64 30]) ∧ Ext w w' := by
  have hc := pmay_any w v p hp
  rw [hm] at hc
  obtain ⟨a, cap, rfl, _, _⟩ := hp.shape
  clear hm hp
  go_enter Tryz.func5, Tryz.ntmps5
  go_wp2_with (go_at_call 8; refine hc.mono ?_; rintro e w' ⟨rfl, hx⟩)
  go_ret2
  exact ⟨rfl, hx⟩

set_option maxRecDepth 100000 in
set_option maxHeartbeats 4000000 in
theorem normal_yes (w : World) (v : Value) (p : List C) (hp : PredR w v p) (hm : mayP p = true) : Calls Tryz.prog 5 #[v] w fun e w' => ∃ (v' : Value) (us : List CS), e = .returned (.tuple #[v', .int .i64 0]) ∧ us.map CS.c = normP p ∧ w'.ownsRow w.heap.size 37 7 v' us.length (us.flatMap csC) ∧ (∀ x ∈ us, SetO w.heap.size w' x) ∧ Ext w w' := by
  have hc := pmay_any w v p hp
  rw [hm] at hc
  have hl6 := may_len hm
  have hall := Lib.hid (may_all hm)
  obtain ⟨a, cap, rfl, _, _⟩ := hp.shape
  have HP := Lib.hid hp
  clear hm hp
  obtain ⟨n, hn⟩ : ∃ n, n = p.length := ⟨_, rfl⟩
  have HN := Lib.hid hn
  rw [← hn] at hc ⊢ HP hl6
  clear hn
  go_enter Tryz.func5, Tryz.ntmps5
  go_wp2_with (go_at_call 8; refine hc.mono ?_; rintro e w1 ⟨rfl, hx1⟩)
  clear hc
  go_loopw [4, 6, 7, 15] (fun l4 _ _ i wr => ∃ (k : Nat) (us : List CS), k ≤ n ∧ i = .int .i64 k ∧ Hid (us.length = k) ∧ Hid (us.map CS.c = (p.take k).map normC) ∧ Hid (wr.ownsRow w.heap.size 37 7 l4 us.length (us.flatMap csC)) ∧ Hid (∀ x ∈ us, SetO w.heap.size wr x) ∧ Hid (us = [] → l4 = .slice none 0 0) ∧ Ext w wr) (fun _ _ _ i _ => n - (intOf i).toNat)
  case atStart => exact ⟨0, [], Nat.zero_le _, rfl, rfl, rfl, ⟨rfl, .inl ⟨rfl, rfl⟩⟩, fun _ h => (by cases h), fun _ => rfl, hx1⟩
  case round =>
    obtain ⟨k, us, hk, rfl, hlen, hus, hown, hset, hnil, hx⟩ := hrel
    by_cases hlt : k < n
    · have hI : decide ((k : Int) < (n : Int)) = true := decide_eq_true (by omega)
      have k1 : k < p.length := by have := HN.out; omega
      obtain ⟨B, o, sa, sc, rfl, f0, f1, f2, f3, f4, f5, f6, fs⟩ := (HP.out.ext hx).at k1
      have hmc := Lib.hid (hall.out p[k] (List.getElem_mem k1))
      have htk : (p.take (k + 1)).map normC = (p.take k).map normC ++ [normC p[k]] := by rw [List.take_succ_eq_append_getElem k1, List.map_append]; rfl
      have HTK := Lib.hid htk
      clear htk
      generalize p[k] = c at *
      have hsl := may_set hmc.out
      have hxW : Ext wr (wr.alloc (.cells #[.string (strOf c.name), .int .i64 c.op, .int .i64 c.v.k, .int .i64 c.v.n, .string (strOf c.v.s), .bool c.v.b, .slice sa c.set.length sc] 37)) := (Ext.refl wr).alloc _
      have hB : (wr.alloc (.cells #[.string (strOf c.name), .int .i64 c.op, .int .i64 c.v.k, .int .i64 c.v.n, .string (strOf c.v.s), .bool c.v.b, .slice sa c.set.length sc] 37)).heap[wr.heap.size]? = some (.cells #[.string (strOf c.name), .int .i64 c.op, .int .i64 c.v.k, .int .i64 c.v.n, .string (strOf c.v.s), .bool c.v.b, .slice sa c.set.length sc] 37 (0, 0)) := heap_alloc_new _ _
      have hcl := cloneV_any _ _ c.set (fs.ext hxW) (by omega)
      have hsz : (wr.alloc (.cells #[.string (strOf c.name), .int .i64 c.op, .int .i64 c.v.k, .int .i64 c.v.n, .string (strOf c.v.s), .bool c.v.b, .slice sa c.set.length sc] 37)).heap.size = wr.heap.size + 1 := World.size_alloc _ _
      go_wp2_with fail
      generalize wr.alloc (.cells #[.string (strOf c.name), .int .i64 c.op, .int .i64 c.v.k, .int .i64 c.v.n, .string (strOf c.v.s), .bool c.v.b, .slice sa c.set.length sc] 37) = W at *
      refine hcl.mono ?_
      rintro e w2 ⟨v2, rfl, ho2, hx2⟩
      have HO2 := Lib.hid ho2
      have HX2 := Lib.hid hx2
      clear hcl ho2 hx2 f0 f1 f2 f3 f4 f5 f6 fs
      go_wp2_with fail
      refine (sortSet W w2 v2 c.set HX2.out HO2.out (by omega)).mono ?_
      rintro e w3 ⟨rfl, l', h3⟩
      have H3 := Lib.hid h3
      clear h3
      go_wp2_with fail
      refine (compSet W w3 v2 c l' hmc.out H3.out.2.2 H3.out.2.1 H3.out.1).mono ?_
      rintro e w4 ⟨v4, rfl, h4⟩
      have hB4 : w4.heap[wr.heap.size]? = some (.cells #[.string (strOf c.name), .int .i64 c.op, .int .i64 c.v.k, .int .i64 c.v.n, .string (strOf c.v.s), .bool c.v.b, .slice sa c.set.length sc] 37 (0, 0)) := by
        rw [h4.2.block _ (Array.getElem?_eq_some_iff.1 hB).1]; exact hB
      have H4 := Lib.hid h4
      clear h4 hB HO2 HX2 H3
      have c0 := cell_of_row _ _ 0 _ _ _ hB4
      have c1 := cell_of_row _ _ 1 _ _ _ hB4
      have c2 := cell_of_row _ _ 2 _ _ _ hB4
      have c3 := cell_of_row _ _ 3 _ _ _ hB4
      have c4 := cell_of_row _ _ 4 _ _ _ hB4
      have c5 := cell_of_row _ _ 5 _ _ _ hB4
      have c6 := cell_of_row _ _ 6 _ _ _ hB4
      have z6 : w4.frozen? ⟨wr.heap.size, 6, none⟩ = false := by simp [World.frozen?, hB4]
      clear hB4
      obtain ⟨a4, cap4, rfl, _, _⟩ := Row.shape (Row.of_own H4.out.1)
      have hx5 : Ext wr (w4.setCell ⟨wr.heap.size, 6, none⟩ (.slice a4 (normC c).set.length cap4)) := (hxW.trans H4.out.2).setCell (Nat.le_refl _) _
      have hlt4 : wr.heap.size < w4.heap.size := by have := H4.out.2.size; omega
      have hset4 : SetO w.heap.size (w4.setCell ⟨wr.heap.size, 6, none⟩ (.slice a4 (normC c).set.length cap4)) ⟨normC c, .slice a4 (normC c).set.length cap4⟩ :=
        own_keep (own_low H4.out.1 (by have := hx.size; omega)) (grown_setCell w4 ⟨wr.heap.size, 6, none⟩ _) fun q hq e => by
          have := own_base H4.out.1 q hq
          have e2 : wr.heap.size = q := Option.some.inj e
          omega
      have hrow := addRow (w4.setCell ⟨wr.heap.size, 6, none⟩ (.slice a4 (normC c).set.length cap4)) ⟨normC c, .slice a4 (normC c).set.length cap4⟩
      have hs5 : (w4.setCell ⟨wr.heap.size, 6, none⟩ (.slice a4 (normC c).set.length cap4)).heap.size = w4.heap.size := World.size_setCell _ _ _
      rw [hs5] at hrow
      clear hs5
      have hx6 : Ext wr ((w4.setCell ⟨wr.heap.size, 6, none⟩ (.slice a4 (normC c).set.length cap4)).alloc (.cells #[.string (strOf c.name), .int .i64 c.op, .int .i64 c.v.k, .int .i64 c.v.n, .string (strOf c.v.s), .bool c.v.b, .slice a4 (normC c).set.length cap4] 37)) := hx5.alloc _
      have hset6 := hset4.ext ((Ext.refl _).alloc (.cells #[.string (strOf c.name), .int .i64 c.op, .int .i64 c.v.k, .int .i64 c.v.n, .string (strOf c.v.s), .bool c.v.b, .slice a4 (normC c).set.length cap4] 37))
      have hown6 := own_ext hown.out hx6
      have hone := csC_one [⟨normC c, .slice a4 (normC c).set.length cap4⟩] (fun y hy => by rw [List.mem_singleton.1 hy]; rfl)
      rw [List.flatMap_singleton] at hone
      have hlen2 : us.length ≤ 6 := by have := hlen.out; omega
      have hbase : w.heap.size ≤ ((w4.setCell ⟨wr.heap.size, 6, none⟩ (.slice a4 (normC c).set.length cap4)).alloc (.cells #[.string (strOf c.name), .int .i64 c.op, .int .i64 c.v.k, .int .i64 c.v.n, .string (strOf c.v.s), .bool c.v.b, .slice a4 (normC c).set.length cap4] 37)).heap.size := (hx.trans hx6).size
      have HSET6 := Lib.hid hset6
      have HOWN6 := Lib.hid hown6
      have HROW := Lib.hid hrow
      have HONE := Lib.hid hone
      have HX6 := Lib.hid hx6
      have HB := Lib.hid hbase
      clear hset6 hown6 hrow hone hx6 hx5 hset4 hbase hsz
      go_wp2_with (at_builtin; refine wpList_append_row 41 37 (.tmp 27) (.tmp 29) rfl w.heap.size _ 7 88 Tryz.underlying41 info31t rfl (by decide) rfl _ us.length (us.flatMap csC) rfl HOWN6.out 1 (csC ⟨normC c, .slice a4 (normC c).set.length cap4⟩) HROW.out HONE.out (by omega) (by unfold maxLen; omega) HB.out ?_; intro v' w7 hown7 hgrow; have HOWN7 := Lib.hid hown7; have HG := Lib.hid hgrow; clear hown7 hgrow)
      go_roundw
      case rel =>
        refine ⟨k + 1, us ++ [⟨normC c, .slice a4 (normC c).set.length cap4⟩], hlt, by go_num, ?_, ?_, ?_, ?_, ?_, ?_⟩
        · show _ = _; rw [List.length_append, List.length_singleton, hlen.out]
        · show _ = _; rw [HTK.out, ← hus.out, List.map_append]; rfl
        · show World.ownsRow _ _ _ _ _ _ _
          rw [List.length_append, List.length_singleton, List.flatMap_append, List.flatMap_singleton]
          exact HOWN7.out
        · show ∀ x ∈ us ++ [_], _
          intro x hxm
          rcases List.mem_append.1 hxm with hxm | hxm
          · exact ((hset.out x hxm).ext HX6.out).keep HOWN6.out HG.out
          · rw [List.mem_singleton.1 hxm]; exact HSET6.out.keep HOWN6.out HG.out
        · show us ++ [_] = [] → _
          intro h; simp at h
        · exact (hx.trans HX6.out).grown_none HG.out (own_base HOWN6.out)
      case measure => simp [intOf]; omega
    · obtain rfl : k = n := by omega
      have hI : decide ((k : Int) < (k : Int)) = false := decide_eq_false (by omega)
      have hus2 : Hid (us.map CS.c = p.map normC) := by
        have h := hus.out
        rw [List.take_of_length_le (by rw [← HN.out]; exact Nat.le_refl _)] at h
        exact h
      have hxF : Ext wr (wr.alloc (.cells #[.func (.func 21) #[] #[], .func (.func 22) #[] #[]] 45)) := (Ext.refl wr).alloc _
      have hF := heap_alloc_new wr (.cells #[.func (.func 21) #[] #[], .func (.func 22) #[] #[]] 45)
      have F1 := cell_of_row _ _ 1 _ _ _ hF
      have hlen2 : us.length ≤ 12 := by have := hlen.out; omega
      have hso := sorted_any _ w.heap.size u4 us (Row.of_own (own_ext hown.out hxF)) hlen2 (fun x hx => (hset.out x hx).ext hxF) hnil.out
      have HSO := Lib.hid hso
      have HXF := Lib.hid (hx.trans hxF)
      clear hso hF hxF
      go_wp2_with fail
      refine wp_loop_rounds 3 ?_
      rw [rounds_succ]
      go_wp2_with fail
      generalize wr.alloc (.cells #[.func (.func 21) #[] #[], .func (.func 22) #[] #[]] 45) = wf at *
      refine HSO.out.mono ?_
      rintro e w2 ⟨v2, us2, rfl, h2⟩
      have G1 := h2.2.2.2.2.1.cell F1
      have hlen3 : us2.length ≤ 12 := by rw [h2.1.length_eq]; exact hlen2
      have hon := once_any w2 w.heap.size v2 us2 (Row.of_own h2.2.2.1) hlen3 h2.2.2.2.1
      have HON := Lib.hid hon
      have H2 := Lib.hid h2
      clear h2 hon HSO F1
      go_wp2_with fail
      rw [rounds_succ]
      go_wp2_with fail
      refine HON.out.mono ?_
      rintro e w3 ⟨v3, rfl, h3⟩
      have H3 := Lib.hid h3
      clear h3 HON G1
      go_wp2_with fail
      rw [rounds_succ]
      go_wp2_with fail
      go_ret2
      refine ⟨v3, compF CS.c us2, rfl, ?_, own_low H3.out.1 ((HXF.out.trans H2.out.2.2.2.2.1).size), H3.out.2.1, HXF.out.trans (H2.out.2.2.2.2.1.trans H3.out.2.2)⟩
      rw [map_compF CS.c _ us2 (Nat.le_refl _)]
      refine compL_sorted wo_C (l := p.map normC) ?_ ?_ (fun a _ b _ => order_zero) (fun a _ b _ => ⟨fun h => by rw [of_decide_eq_true h]; exact wo_C.refl b, fun h => decide_eq_true (order_zero h)⟩)
      · rw [← hus2.out]; exact H2.out.1.map _
      · rw [List.pairwise_map]; exact H2.out.2.1
end Go.Proofs.YtfkemgkbkhacmaaGreat

namespace Go.Proofs.YtfkemgkbkhacmaaGreat
open Go.RowKit Go.Sort

theorem set_lit (w : World) (l : List V) (hm : l.length ≤ maxLen) : SetR (w.alloc (.cells (l.flatMap vC).toArray 34)) (.slice (some ⟨w.heap.size, 0, none⟩) l.length l.length) l :=
  Row.of_own (World.ownsRow_lit (base := w.heap.size) (e := 34) (size := 4) w (l.flatMap vC).toArray l.length (Nat.le_refl _) hm (by simp only [List.size_toArray]; exact flat_len vC 4 vC_len l))
theorem pred_lit (w : World) (us : List CS) (hm : us.length ≤ maxLen) (hs : ∀ x ∈ us, SetR w x.h x.c.set) : PredR (w.alloc (.cells (us.flatMap csC).toArray 37)) (.slice (some ⟨w.heap.size, 0, none⟩) us.length us.length) (us.map CS.c) :=
  PredR.mk us (Row.of_own (World.ownsRow_lit (base := w.heap.size) (e := 37) (size := 7) w (us.flatMap csC).toArray us.length (Nat.le_refl _) hm (by simp only [List.size_toArray]; exact flat_len csC 7 csC_len us))) fun x hx => (hs x hx).ext ((Ext.refl w).alloc _)
theorem attr_lit (w : World) (l : List (List UInt8 × V)) (hm : l.length ≤ maxLen) : AttrR (w.alloc (.cells (l.flatMap aC).toArray 59)) (.slice (some ⟨w.heap.size, 0, none⟩) l.length l.length) l :=
  Row.of_own (World.ownsRow_lit (base := w.heap.size) (e := 59) (size := 5) w (l.flatMap aC).toArray l.length (Nat.le_refl _) hm (by simp only [List.size_toArray]; exact flat_len aC 5 aC_len l))

set_option maxRecDepth 100000 in
theorem lawN_any (w : World) (n : Int) : Calls Tryz.prog 34 #[.int .i64 n] w fun e w' => e = .returned (.agg #[.int .i64 1, .int .i64 n, .string ⟨#[]⟩, .bool false]) ∧ Ext w w' := by
  go_enter Tryz.func34, Tryz.ntmps34
  go_wp2
  have hR := heap_alloc_new w (.cells #[.int .i64 1, .int .i64 n, .string ⟨#[]⟩, .bool false] 34)
  have r0 := cell_of_row _ _ 0 _ _ _ hR
  have r1 := cell_of_row _ _ 1 _ _ _ hR
  have r2 := cell_of_row _ _ 2 _ _ _ hR
  have r3 := cell_of_row _ _ 3 _ _ _ hR
  refine bodyPost_ret (v := .agg #[.int .i64 1, .int .i64 n, .string ⟨#[]⟩, .bool false]) (by simp [results, Tryz.results34, go_sem, r0, r1, r2, r3]) rfl ⟨rfl, (Ext.refl w).alloc _⟩
set_option maxRecDepth 100000 in
theorem lawS_any (w : World) (s : ByteArray) : Calls Tryz.prog 38 #[.string s] w fun e w' => e = .returned (.agg #[.int .i64 2, .int .i64 0, .string s, .bool false]) ∧ Ext w w' := by
  go_enter Tryz.func38, Tryz.ntmps38
  go_wp2
  have hR := heap_alloc_new w (.cells #[.int .i64 2, .int .i64 0, .string s, .bool false] 34)
  have r0 := cell_of_row _ _ 0 _ _ _ hR
  have r1 := cell_of_row _ _ 1 _ _ _ hR
  have r2 := cell_of_row _ _ 2 _ _ _ hR
  have r3 := cell_of_row _ _ 3 _ _ _ hR
  refine bodyPost_ret (v := .agg #[.int .i64 2, .int .i64 0, .string s, .bool false]) (by simp [results, Tryz.results38, go_sem, r0, r1, r2, r3]) rfl ⟨rfl, (Ext.refl w).alloc _⟩
set_option maxRecDepth 100000 in
theorem lawE_any (w : World) (a : Option Addr) (n c : Nat) : Calls Tryz.prog 36 #[.slice a n c] w fun e w' => e = .returned (.agg #[.string ⟨#[]⟩, .slice a n c]) ∧ Ext w w' := by
  go_enter Tryz.func36, Tryz.ntmps36
  go_wp2
  have hR := heap_alloc_new w (.cells #[.string ⟨#[]⟩, .slice a n c] 56)
  have r0 := cell_of_row _ _ 0 _ _ _ hR
  have r1 := cell_of_row _ _ 1 _ _ _ hR
  refine bodyPost_ret (v := .agg #[.string ⟨#[]⟩, .slice a n c]) (by simp [results, Tryz.results36, go_sem, r0, r1]) rfl ⟨rfl, (Ext.refl w).alloc _⟩
set_option maxRecDepth 100000 in
theorem lawA_any (w : World) (s t : ByteArray) (k n : Int) (b : Bool) : Calls Tryz.prog 37 #[.string s, .agg #[.int .i64 k, .int .i64 n, .string t, .bool b]] w fun e w' => e = .returned (.agg #[.string s, .int .i64 k, .int .i64 n, .string t, .bool b]) ∧ Ext w w' := by
  go_enter Tryz.func37, Tryz.ntmps37
  go_wp2
  have hR := heap_alloc_new (w.alloc (.cells #[.int .i64 k, .int .i64 n, .string t, .bool b] 34)) (.cells #[.string s, .int .i64 k, .int .i64 n, .string t, .bool b] 59)
  rw [World.size_alloc] at hR
  have r0 := cell_of_row _ _ 0 _ _ _ hR
  have r1 := cell_of_row _ _ 1 _ _ _ hR
  have r2 := cell_of_row _ _ 2 _ _ _ hR
  have r3 := cell_of_row _ _ 3 _ _ _ hR
  have r4 := cell_of_row _ _ 4 _ _ _ hR
  refine bodyPost_ret (v := .agg #[.string s, .int .i64 k, .int .i64 n, .string t, .bool b]) (by simp [results, Tryz.results37, go_sem, r0, r1, r2, r3, r4]) rfl ⟨rfl, ((Ext.refl w).alloc _).alloc _⟩

/-! awake -/
def vN1 (n : Int) : V := ⟨1, n, [], false⟩
def aP : List C := [⟨[97], 7, vN1 5, []⟩, ⟨[97], 4, vN1 9, []⟩]
def aQ : List C := [⟨[98], 1, ⟨0, 0, [], false⟩, []⟩, ⟨[97], 9, ⟨0, 0, [], false⟩, [vN1 2, vN1 1, vN1 2]⟩, ⟨[98], 1, ⟨0, 0, [], false⟩, []⟩]
def aR : List C := [⟨[97], 9, ⟨0, 0, [], false⟩, [vN1 1, vN1 2]⟩, ⟨[98], 1, ⟨0, 0, [], false⟩, []⟩]
theorem aQ_may : mayP aQ = true := by kernel_rfl
theorem aQ_norm : normP aQ = aR := by kernel_rfl
theorem aR_same : decide (cmpP (normP aQ) aR = 0) = true := by kernel_rfl
theorem aP1 : matchP aP [([97], vN1 5)] = true := by kernel_rfl
theorem aP2 : matchP aP [([97], vN1 9)] = false := by kernel_rfl
theorem aP3 : matchP aP [([97], ⟨2, 0, [53], false⟩)] = false := by kernel_rfl
theorem aP4 : matchP aP [] = false := by kernel_rfl

set_option maxRecDepth 100000 in
set_option maxHeartbeats 8000000 in
theorem awake_any (w : World) : Calls Tryz.prog 16 #[] w fun e w' => e = .returned (.bool true) ∧ Ext w w' := by
  go_enter Tryz.func16, Tryz.ntmps16
  have hw := Ext.refl w
  go_wp2_with fail
  refine (lawN_any _ 5).mono ?_
  rintro e w1 ⟨rfl, hx1⟩
  have hw := hw.trans hx1
  clear hx1
  go_wp2_with fail
  refine (lawN_any _ 9).mono ?_
  rintro e w2 ⟨rfl, hx2⟩
  have hw := hw.trans hx2
  clear hx2
  have hP : PredR (w2.alloc (.cells #[.string ⟨#[97]⟩, .int .i64 7, .int .i64 1, .int .i64 5, .string ⟨#[]⟩, .bool false, .slice none 0 0, .string ⟨#[97]⟩, .int .i64 4, .int .i64 1, .int .i64 9, .string ⟨#[]⟩, .bool false, .slice none 0 0] 37)) (.slice (some ⟨w2.heap.size, 0, none⟩) 2 2) aP := pred_lit w2 [⟨⟨[97], 7, vN1 5, []⟩, .slice none 0 0⟩, ⟨⟨[97], 4, vN1 9, []⟩, .slice none 0 0⟩] (by show (2 : Nat) ≤ maxLen; decide) (List.forall_mem_cons.2 ⟨SetR.nil _, (List.forall_mem_cons.2 ⟨SetR.nil _, (fun _ h => (by cases h))⟩)⟩)
  have hx3 : Ext w2 (w2.alloc (.cells #[.string ⟨#[97]⟩, .int .i64 7, .int .i64 1, .int .i64 5, .string ⟨#[]⟩, .bool false, .slice none 0 0, .string ⟨#[97]⟩, .int .i64 4, .int .i64 1, .int .i64 9, .string ⟨#[]⟩, .bool false, .slice none 0 0] 37)) := (Ext.refl w2).alloc _
  have hw := hw.trans hx3
  clear hx3
  go_wp2_with fail
  generalize w2.heap.size = b3 at *
  generalize w2.alloc (.cells #[.string ⟨#[97]⟩, .int .i64 7, .int .i64 1, .int .i64 5, .string ⟨#[]⟩, .bool false, .slice none 0 0, .string ⟨#[97]⟩, .int .i64 4, .int .i64 1, .int .i64 9, .string ⟨#[]⟩, .bool false, .slice none 0 0] 37) = w3 at *
  go_wp2_with fail
  refine (lawN_any _ 2).mono ?_
  rintro e w4 ⟨rfl, hx4⟩
  have hw := hw.trans hx4
  have hP := hP.ext hx4
  clear hx4
  go_wp2_with fail
  refine (lawN_any _ 1).mono ?_
  rintro e w5 ⟨rfl, hx5⟩
  have hw := hw.trans hx5
  have hP := hP.ext hx5
  clear hx5
  go_wp2_with fail
  refine (lawN_any _ 2).mono ?_
  rintro e w6 ⟨rfl, hx6⟩
  have hw := hw.trans hx6
  have hP := hP.ext hx6
  clear hx6
  have hS : SetR (w6.alloc (.cells #[.int .i64 1, .int .i64 2, .string ⟨#[]⟩, .bool false, .int .i64 1, .int .i64 1, .string ⟨#[]⟩, .bool false, .int .i64 1, .int .i64 2, .string ⟨#[]⟩, .bool false] 34)) (.slice (some ⟨w6.heap.size, 0, none⟩) 3 3) [vN1 2, vN1 1, vN1 2] := set_lit w6 [vN1 2, vN1 1, vN1 2] (by decide)
  have hQ : PredR ((w6.alloc (.cells #[.int .i64 1, .int .i64 2, .string ⟨#[]⟩, .bool false, .int .i64 1, .int .i64 1, .string ⟨#[]⟩, .bool false, .int .i64 1, .int .i64 2, .string ⟨#[]⟩, .bool false] 34)).alloc (.cells #[.string ⟨#[98]⟩, .int .i64 1, .int .i64 0, .int .i64 0, .string ⟨#[]⟩, .bool false, .slice none 0 0, .string ⟨#[97]⟩, .int .i64 9, .int .i64 0, .int .i64 0, .string ⟨#[]⟩, .bool false, .slice (some ⟨w6.heap.size, 0, none⟩) 3 3, .string ⟨#[98]⟩, .int .i64 1, .int .i64 0, .int .i64 0, .string ⟨#[]⟩, .bool false, .slice none 0 0] 37)) (.slice (some ⟨w6.heap.size + 1, 0, none⟩) 3 3) aQ := by
    have h := pred_lit (w6.alloc (.cells #[.int .i64 1, .int .i64 2, .string ⟨#[]⟩, .bool false, .int .i64 1, .int .i64 1, .string ⟨#[]⟩, .bool false, .int .i64 1, .int .i64 2, .string ⟨#[]⟩, .bool false] 34)) [⟨⟨[98], 1, ⟨0, 0, [], false⟩, []⟩, .slice none 0 0⟩, ⟨⟨[97], 9, ⟨0, 0, [], false⟩, [vN1 2, vN1 1, vN1 2]⟩, .slice (some ⟨w6.heap.size, 0, none⟩) 3 3⟩, ⟨⟨[98], 1, ⟨0, 0, [], false⟩, []⟩, .slice none 0 0⟩] (by show (3 : Nat) ≤ maxLen; decide) (List.forall_mem_cons.2 ⟨SetR.nil _, (List.forall_mem_cons.2 ⟨hS, (List.forall_mem_cons.2 ⟨SetR.nil _, (fun _ h => (by cases h))⟩)⟩)⟩)
    rw [World.size_alloc] at h
    exact h
  have hx7 : Ext w6 ((w6.alloc (.cells #[.int .i64 1, .int .i64 2, .string ⟨#[]⟩, .bool false, .int .i64 1, .int .i64 1, .string ⟨#[]⟩, .bool false, .int .i64 1, .int .i64 2, .string ⟨#[]⟩, .bool false] 34)).alloc (.cells #[.string ⟨#[98]⟩, .int .i64 1, .int .i64 0, .int .i64 0, .string ⟨#[]⟩, .bool false, .slice none 0 0, .string ⟨#[97]⟩, .int .i64 9, .int .i64 0, .int .i64 0, .string ⟨#[]⟩, .bool false, .slice (some ⟨w6.heap.size, 0, none⟩) 3 3, .string ⟨#[98]⟩, .int .i64 1, .int .i64 0, .int .i64 0, .string ⟨#[]⟩, .bool false, .slice none 0 0] 37)) := ((Ext.refl w6).alloc _).alloc _
  have hw := hw.trans hx7
  have hP := hP.ext hx7
  clear hx7
  clear hS
  go_wp2_with fail
  generalize (w6.alloc (.cells #[.int .i64 1, .int .i64 2, .string ⟨#[]⟩, .bool false, .int .i64 1, .int .i64 1, .string ⟨#[]⟩, .bool false, .int .i64 1, .int .i64 2, .string ⟨#[]⟩, .bool false] 34)).alloc (.cells #[.string ⟨#[98]⟩, .int .i64 1, .int .i64 0, .int .i64 0, .string ⟨#[]⟩, .bool false, .slice none 0 0, .string ⟨#[97]⟩, .int .i64 9, .int .i64 0, .int .i64 0, .string ⟨#[]⟩, .bool false, .slice (some ⟨w6.heap.size, 0, none⟩) 3 3, .string ⟨#[98]⟩, .int .i64 1, .int .i64 0, .int .i64 0, .string ⟨#[]⟩, .bool false, .slice none 0 0] 37) = w7 at *
  generalize w6.heap.size + 1 = b7 at *
  generalize w6.heap.size = bs7 at *
  refine (normal_yes _ _ aQ hQ aQ_may).mono ?_
  rintro e w8 ⟨vR, us, rfl, hu, ho, hs, hx8⟩
  have hR : PredR w8 vR (normP aQ) := by rw [← hu]; exact PredR.mk us (Row.of_own ho) (fun x hx => (hs x hx).set)
  clear hu ho hs hQ
  have hw := hw.trans hx8
  have hP := hP.ext hx8
  clear hx8
  go_wp2_with fail
  refine (lawN_any _ 5).mono ?_
  rintro e w9 ⟨rfl, hx9⟩
  have hw := hw.trans hx9
  have hP := hP.ext hx9
  have hR := hR.ext hx9
  clear hx9
  go_wp2_with fail
  refine (lawA_any _ _ _ _ _ _).mono ?_
  rintro e w10 ⟨rfl, hx10⟩
  have hw := hw.trans hx10
  have hP := hP.ext hx10
  have hR := hR.ext hx10
  clear hx10
  have hA : AttrR (w10.alloc (.cells #[.string ⟨#[97]⟩, .int .i64 1, .int .i64 5, .string ⟨#[]⟩, .bool false] 59)) (.slice (some ⟨w10.heap.size, 0, none⟩) 1 1) [([97], vN1 5)] := attr_lit w10 [([97], vN1 5)] (by decide)
  have hx11 : Ext w10 (w10.alloc (.cells #[.string ⟨#[97]⟩, .int .i64 1, .int .i64 5, .string ⟨#[]⟩, .bool false] 59)) := (Ext.refl w10).alloc _
  have hw := hw.trans hx11
  have hP := hP.ext hx11
  have hR := hR.ext hx11
  clear hx11
  go_wp2_with fail
  generalize w10.heap.size = b11 at *
  generalize w10.alloc (.cells #[.string ⟨#[97]⟩, .int .i64 1, .int .i64 5, .string ⟨#[]⟩, .bool false] 59) = w11 at *
  go_wp2_with fail
  refine (lawE_any _ _ _ _).mono ?_
  rintro e w12 ⟨rfl, hx12⟩
  have hw := hw.trans hx12
  have hP := hP.ext hx12
  have hR := hR.ext hx12
  have hA := hA.ext hx12
  clear hx12
  have hm := matches_any w12 _ aP [] _ _ hP hA
  rw [aP1] at hm
  clear hA
  go_wp2_with fail
  refine (hm).mono ?_
  rintro e w13 ⟨rfl, hx13⟩
  have hw := hw.trans hx13
  have hP := hP.ext hx13
  have hR := hR.ext hx13
  clear hx13
  clear hm
  go_wp2_with fail
  refine (lawN_any _ 9).mono ?_
  rintro e w14 ⟨rfl, hx14⟩
  have hw := hw.trans hx14
  have hP := hP.ext hx14
  have hR := hR.ext hx14
  clear hx14
  go_wp2_with fail
  refine (lawA_any _ _ _ _ _ _).mono ?_
  rintro e w15 ⟨rfl, hx15⟩
  have hw := hw.trans hx15
  have hP := hP.ext hx15
  have hR := hR.ext hx15
  clear hx15
  have hA : AttrR (w15.alloc (.cells #[.string ⟨#[97]⟩, .int .i64 1, .int .i64 9, .string ⟨#[]⟩, .bool false] 59)) (.slice (some ⟨w15.heap.size, 0, none⟩) 1 1) [([97], vN1 9)] := attr_lit w15 [([97], vN1 9)] (by decide)
  have hx16 : Ext w15 (w15.alloc (.cells #[.string ⟨#[97]⟩, .int .i64 1, .int .i64 9, .string ⟨#[]⟩, .bool false] 59)) := (Ext.refl w15).alloc _
  have hw := hw.trans hx16
  have hP := hP.ext hx16
  have hR := hR.ext hx16
  clear hx16
  go_wp2_with fail
  generalize w15.heap.size = b16 at *
  generalize w15.alloc (.cells #[.string ⟨#[97]⟩, .int .i64 1, .int .i64 9, .string ⟨#[]⟩, .bool false] 59) = w16 at *
  go_wp2_with fail
  refine (lawE_any _ _ _ _).mono ?_
  rintro e w17 ⟨rfl, hx17⟩
  have hw := hw.trans hx17
  have hP := hP.ext hx17
  have hR := hR.ext hx17
  have hA := hA.ext hx17
  clear hx17
  have hm := matches_any w17 _ aP [] _ _ hP hA
  rw [aP2] at hm
  clear hA
  go_wp2_with fail
  refine (hm).mono ?_
  rintro e w18 ⟨rfl, hx18⟩
  have hw := hw.trans hx18
  have hP := hP.ext hx18
  have hR := hR.ext hx18
  clear hx18
  clear hm
  go_wp2_with fail
  refine (lawS_any _ _).mono ?_
  rintro e w19 ⟨rfl, hx19⟩
  have hw := hw.trans hx19
  have hP := hP.ext hx19
  have hR := hR.ext hx19
  clear hx19
  go_wp2_with fail
  refine (lawA_any _ _ _ _ _ _).mono ?_
  rintro e w20 ⟨rfl, hx20⟩
  have hw := hw.trans hx20
  have hP := hP.ext hx20
  have hR := hR.ext hx20
  clear hx20
  have hA : AttrR (w20.alloc (.cells #[.string ⟨#[97]⟩, .int .i64 2, .int .i64 0, .string ⟨#[53]⟩, .bool false] 59)) (.slice (some ⟨w20.heap.size, 0, none⟩) 1 1) [([97], ⟨2, 0, [53], false⟩)] := attr_lit w20 [([97], ⟨2, 0, [53], false⟩)] (by decide)
  have hx21 : Ext w20 (w20.alloc (.cells #[.string ⟨#[97]⟩, .int .i64 2, .int .i64 0, .string ⟨#[53]⟩, .bool false] 59)) := (Ext.refl w20).alloc _
  have hw := hw.trans hx21
  have hP := hP.ext hx21
  have hR := hR.ext hx21
  clear hx21
  go_wp2_with fail
  generalize w20.heap.size = b21 at *
  generalize w20.alloc (.cells #[.string ⟨#[97]⟩, .int .i64 2, .int .i64 0, .string ⟨#[53]⟩, .bool false] 59) = w21 at *
  go_wp2_with fail
  refine (lawE_any _ _ _ _).mono ?_
  rintro e w22 ⟨rfl, hx22⟩
  have hw := hw.trans hx22
  have hP := hP.ext hx22
  have hR := hR.ext hx22
  have hA := hA.ext hx22
  clear hx22
  have hm := matches_any w22 _ aP [] _ _ hP hA
  rw [aP3] at hm
  clear hA
  go_wp2_with fail
  refine (hm).mono ?_
  rintro e w23 ⟨rfl, hx23⟩
  have hw := hw.trans hx23
  have hP := hP.ext hx23
  have hR := hR.ext hx23
  clear hx23
  clear hm
  go_wp2_with fail
  refine (lawE_any _ _ _ _).mono ?_
  rintro e w24 ⟨rfl, hx24⟩
  have hw := hw.trans hx24
  have hP := hP.ext hx24
  have hR := hR.ext hx24
  clear hx24
  have hm := matches_any w24 _ aP [] _ _ hP (AttrR.nil w24)
  rw [aP4] at hm
  go_wp2_with fail
  refine (hm).mono ?_
  rintro e w25 ⟨rfl, hx25⟩
  have hw := hw.trans hx25
  have hP := hP.ext hx25
  have hR := hR.ext hx25
  clear hx25
  clear hm
  go_wp2_with fail
  refine (lawN_any _ 1).mono ?_
  rintro e w26 ⟨rfl, hx26⟩
  have hw := hw.trans hx26
  have hP := hP.ext hx26
  have hR := hR.ext hx26
  clear hx26
  go_wp2_with fail
  refine (lawN_any _ 2).mono ?_
  rintro e w27 ⟨rfl, hx27⟩
  have hw := hw.trans hx27
  have hP := hP.ext hx27
  have hR := hR.ext hx27
  clear hx27
  have hS : SetR (w27.alloc (.cells #[.int .i64 1, .int .i64 1, .string ⟨#[]⟩, .bool false, .int .i64 1, .int .i64 2, .string ⟨#[]⟩, .bool false] 34)) (.slice (some ⟨w27.heap.size, 0, none⟩) 2 2) [vN1 1, vN1 2] := set_lit w27 [vN1 1, vN1 2] (by decide)
  have hQ : PredR ((w27.alloc (.cells #[.int .i64 1, .int .i64 1, .string ⟨#[]⟩, .bool false, .int .i64 1, .int .i64 2, .string ⟨#[]⟩, .bool false] 34)).alloc (.cells #[.string ⟨#[97]⟩, .int .i64 9, .int .i64 0, .int .i64 0, .string ⟨#[]⟩, .bool false, .slice (some ⟨w27.heap.size, 0, none⟩) 2 2, .string ⟨#[98]⟩, .int .i64 1, .int .i64 0, .int .i64 0, .string ⟨#[]⟩, .bool false, .slice none 0 0] 37)) (.slice (some ⟨w27.heap.size + 1, 0, none⟩) 2 2) aR := by
    have h := pred_lit (w27.alloc (.cells #[.int .i64 1, .int .i64 1, .string ⟨#[]⟩, .bool false, .int .i64 1, .int .i64 2, .string ⟨#[]⟩, .bool false] 34)) [⟨⟨[97], 9, ⟨0, 0, [], false⟩, [vN1 1, vN1 2]⟩, .slice (some ⟨w27.heap.size, 0, none⟩) 2 2⟩, ⟨⟨[98], 1, ⟨0, 0, [], false⟩, []⟩, .slice none 0 0⟩] (by show (2 : Nat) ≤ maxLen; decide) (List.forall_mem_cons.2 ⟨hS, (List.forall_mem_cons.2 ⟨SetR.nil _, (fun _ h => (by cases h))⟩)⟩)
    rw [World.size_alloc] at h
    exact h
  have hx28 : Ext w27 ((w27.alloc (.cells #[.int .i64 1, .int .i64 1, .string ⟨#[]⟩, .bool false, .int .i64 1, .int .i64 2, .string ⟨#[]⟩, .bool false] 34)).alloc (.cells #[.string ⟨#[97]⟩, .int .i64 9, .int .i64 0, .int .i64 0, .string ⟨#[]⟩, .bool false, .slice (some ⟨w27.heap.size, 0, none⟩) 2 2, .string ⟨#[98]⟩, .int .i64 1, .int .i64 0, .int .i64 0, .string ⟨#[]⟩, .bool false, .slice none 0 0] 37)) := ((Ext.refl w27).alloc _).alloc _
  have hw := hw.trans hx28
  have hP := hP.ext hx28
  have hR := hR.ext hx28
  clear hx28
  clear hS
  go_wp2_with fail
  generalize (w27.alloc (.cells #[.int .i64 1, .int .i64 1, .string ⟨#[]⟩, .bool false, .int .i64 1, .int .i64 2, .string ⟨#[]⟩, .bool false] 34)).alloc (.cells #[.string ⟨#[97]⟩, .int .i64 9, .int .i64 0, .int .i64 0, .string ⟨#[]⟩, .bool false, .slice (some ⟨w27.heap.size, 0, none⟩) 2 2, .string ⟨#[98]⟩, .int .i64 1, .int .i64 0, .int .i64 0, .string ⟨#[]⟩, .bool false, .slice none 0 0] 37) = w28 at *
  generalize w27.heap.size + 1 = b28 at *
  generalize w27.heap.size = bs28 at *
  have hm := psame_any w28 _ _ _ _ hR hQ
  rw [aR_same] at hm
  clear hP hR hQ
  refine hm.mono ?_
  rintro e w29 ⟨rfl, hx29⟩
  have hw := hw.trans hx29.1
  clear hx29 hm
  go_wp2_with fail
  go_ret
  exact ⟨rfl, hw⟩
end Go.Proofs.YtfkemgkbkhacmaaGreat

namespace Go.Proofs.YtfkemgkbkhacmaaGreat
open Go.RowKit Go.Sort

theorem setCell_block_far (w : World) (a : Addr) (v : Value) (k : Nat) (h : k ≠ a.block) : (w.setCell a v).heap[k]? = w.heap[k]? := by
  show (w.heap.modify a.block _)[k]? = w.heap[k]?
  rw [Array.getElem?_modify, if_neg (fun e => h e.symm)]
theorem cell_far (w : World) (g j h k : Nat) (u : Value) (hne : g ≠ h) : (w.setCell ⟨g, j, none⟩ u).cell? ⟨h, k, none⟩ = w.cell? ⟨h, k, none⟩ := by
  unfold World.cell?
  rw [setCell_block_far w ⟨g, j, none⟩ u h (Ne.symm hne)]
theorem own_set1 {w : World} {base g n cap k : Nat} {e : TypeId} {xs : List Value} (h : w.ownsRow base e k (.slice (some ⟨g, 0, none⟩) n cap) n xs) {j : Nat} (hj : j < xs.length) (u : Value) :
    (w.setCell ⟨g, j, none⟩ u).ownsRow base e k (.slice (some ⟨g, 0, none⟩) n cap) n (xs.set j u) ∧ w.grownBy (w.setCell ⟨g, j, none⟩ u) (some g) := by
  obtain ⟨cur, hg, hb, hn, hm, hs, hlt, hH⟩ := own_holds h
  have h1 := setCells_putRow w g 0 [u] j xs.toArray (by simp; omega)
  rw [putRow_self id w g 0 _ hH, Nat.zero_add] at h1
  have e1 : w.setCells g j [u] = w.setCell ⟨g, j, none⟩ u := rfl
  rw [e1] at h1
  have e3 : setMany xs.toArray j [u] = (xs.set j u).toArray := by simp [setMany]
  rw [e3] at h1
  have e2 : putRow id w g 0 (xs.set j u).toArray = grow (putRow id (Sort.ahead w 0) g 0 (xs.set j u).toArray) #[] := by rw [grow_empty, Sort.ahead_zero]
  rw [h1, e2]
  exact ⟨own_put h (by simp), grownBy_row _⟩
end Go.Proofs.YtfkemgkbkhacmaaGreat
