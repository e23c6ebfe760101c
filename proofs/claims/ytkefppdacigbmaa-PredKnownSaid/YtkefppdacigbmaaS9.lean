/- pred.Normal. -/
import Derived.Test.YtkefppdacigbmaaS8
import Derived.Test.YtkefppdacigbmaaS6
import Derived.Test.YtkefppdacigbmaaV6
namespace Go.Proofs.Ytkefppdacigbmaa
open Go.RowKit Go.Sort

theorem sortSet (w w2 : World) (v : Value) (l : List V) (hx : Ext w w2) (ho : w2.ownsRow w.heap.size 28 4 v l.length (l.flatMap vC)) (hl : l.length ≤ 1000000) :
    Calls Try.prog 59 #[v, .func (.func 23) #[] #[]] w2 fun e w' => e = .returned (.tuple #[]) ∧ ∃ l' : List V, (l'.Perm l ∧ (l'.Pairwise fun a b => cmpV a b ≤ 0)) ∧ w'.ownsRow w.heap.size 28 4 v l'.length (l'.flatMap vC) ∧ Ext w w' := by
  refine (sortV_any w2 _ v l ho hl).mono ?_
  rintro e w' ⟨rfl, l', p1, p2, p3, p4⟩
  exact ⟨rfl, l', ⟨p1, p2⟩, by rw [p1.length_eq]; exact p3, hx.grown_none p4 (own_base ho)⟩
theorem compSet (w w2 : World) (v : Value) (c : C) (l : List V) (hc : mayC c = true) (hx : Ext w w2) (ho : w2.ownsRow w.heap.size 28 4 v l.length (l.flatMap vC)) (hp : l.Perm c.set ∧ (l.Pairwise fun a b => cmpV a b ≤ 0)) :
    Calls Try.prog 60 #[v] w2 fun e w' => ∃ v', e = .returned v' ∧ w'.ownsRow w.heap.size 28 4 v' (normC c).set.length ((normC c).set.flatMap vC) ∧ Ext w w' := by
  have hlen := hp.1.length_eq
  have hs := may_set hc
  have hi := set_inj hc
  have he : compE l = (normC c).set := compL_sorted wo_V hp.1 hp.2 hi fun a ha b hb => ⟨fun h => by rw [of_decide_eq_true h]; exact wo_V.refl b, fun h => decide_eq_true (hi a ha b hb h)⟩
  refine (compactV_any w2 _ v l ho (by omega)).mono ?_
  rintro e w' ⟨v', rfl, p1, p2, p3⟩
  rw [he] at p1
  exact ⟨v', rfl, p1, hx.grown_none p2 (own_base ho)⟩

theorem grown_setCell (w : World) (a : Addr) (v : Value) : w.grownBy (w.setCell a v) (some a.block) := by
  have h := Below.setCell (Below.refl a.block w) (Nat.le_refl _) v
  refine ⟨h.os, h.tape, h.output, by rw [World.size_setCell]; exact Nat.le_refl _, fun k hk hne => ?_⟩
  have hne2 : k ≠ a.block := fun e => hne (by rw [e])
  show (w.heap.modify a.block _)[k]? = w.heap[k]?
  rw [Array.getElem?_modify, if_neg (fun e => hne2 e.symm)]
theorem addRow (w : World) (x : CS) : Row (w.alloc (.cells (csC x).toArray 31)) 7 (.slice (some ⟨w.heap.size, 0, none⟩) 1 1) 1 (csC x) :=
  Row.of_own (World.ownsRow_lit (base := w.heap.size) (e := 31) (size := 7) w (csC x).toArray 1 (Nat.le_refl _) (by decide) rfl)

set_option maxRecDepth 100000 in
set_option maxHeartbeats 2000000 in
theorem normal_no (w : World) (v : Value) (p : List C) (hp : PredR w v p) (hm : mayP p = false) : Calls Try.prog 18 #[v] w fun e w' => e = .returned (.tuple #[.slice none 0 0, .int .i64 30]) ∧ Ext w w' := by
  have hc := pmay_any w v p hp
  rw [hm] at hc
  obtain ⟨a, cap, rfl, _, _⟩ := hp.shape
  clear hm hp
  go_enter Try.func18, Try.ntmps18
  go_wp2_with (go_at_call 19; refine hc.mono ?_; rintro e w' ⟨rfl, hx⟩)
  go_ret2
  exact ⟨rfl, hx⟩

set_option maxRecDepth 100000 in
set_option maxHeartbeats 4000000 in
theorem normal_yes (w : World) (v : Value) (p : List C) (hp : PredR w v p) (hm : mayP p = true) : Calls Try.prog 18 #[v] w fun e w' => ∃ (v' : Value) (us : List CS), e = .returned (.tuple #[v', .int .i64 0]) ∧ us.map CS.c = normP p ∧ w'.ownsRow w.heap.size 31 7 v' us.length (us.flatMap csC) ∧ (∀ x ∈ us, SetO w.heap.size w' x) ∧ Ext w w' := by
  have hc := pmay_any w v p hp
  rw [hm] at hc
  have hl6 := may_len hm
  have hall := Lib.hid (may_all hm)
  obtain ⟨a, cap, rfl, _, _⟩ := hp.shape
  have HP := Lib.hid hp
  clear hm hp
  obtain ⟨n, hn⟩ : ∃ n, n = p.length := ⟨_, rfl⟩
  have HN := Lib.hid hn
  rw [← hn] at hc ⊢ HP hl6
  clear hn
  go_enter Try.func18, Try.ntmps18
  go_wp2_with (go_at_call 19; refine hc.mono ?_; rintro e w1 ⟨rfl, hx1⟩)
  clear hc
  go_loopw [4, 6, 7, 15] (fun l4 _ _ i wr => ∃ (k : Nat) (us : List CS), k ≤ n ∧ i = .int .i64 k ∧ Hid (us.length = k) ∧ Hid (us.map CS.c = (p.take k).map normC) ∧ Hid (wr.ownsRow w.heap.size 31 7 l4 us.length (us.flatMap csC)) ∧ Hid (∀ x ∈ us, SetO w.heap.size wr x) ∧ Hid (us = [] → l4 = .slice none 0 0) ∧ Ext w wr) (fun _ _ _ i _ => n - (intOf i).toNat)
  case atStart => exact ⟨0, [], Nat.zero_le _, rfl, rfl, rfl, ⟨rfl, .inl ⟨rfl, rfl⟩⟩, fun _ h => (by cases h), fun _ => rfl, hx1⟩
  case round =>
    obtain ⟨k, us, hk, rfl, hlen, hus, hown, hset, hnil, hx⟩ := hrel
    by_cases hlt : k < n
    · have hI : decide ((k : Int) < (n : Int)) = true := decide_eq_true (by omega)
      have k1 : k < p.length := by have := HN.out; omega
      obtain ⟨B, o, sa, sc, rfl, f0, f1, f2, f3, f4, f5, f6, fs⟩ := (HP.out.ext hx).at k1
      have hmc := Lib.hid (hall.out p[k] (List.getElem_mem k1))
      have htk : (p.take (k + 1)).map normC = (p.take k).map normC ++ [normC p[k]] := by rw [List.take_succ_eq_append_getElem k1, List.map_append]; rfl
      have HTK := Lib.hid htk
      clear htk
      generalize p[k] = c at *
      have hsl := may_set hmc.out
      have hxW : Ext wr (wr.alloc (.cells #[.string (strOf c.name), .int .i64 c.op, .int .i64 c.v.k, .int .i64 c.v.n, .string (strOf c.v.s), .bool c.v.b, .slice sa c.set.length sc] 31)) := (Ext.refl wr).alloc _
      have hB : (wr.alloc (.cells #[.string (strOf c.name), .int .i64 c.op, .int .i64 c.v.k, .int .i64 c.v.n, .string (strOf c.v.s), .bool c.v.b, .slice sa c.set.length sc] 31)).heap[wr.heap.size]? = some (.cells #[.string (strOf c.name), .int .i64 c.op, .int .i64 c.v.k, .int .i64 c.v.n, .string (strOf c.v.s), .bool c.v.b, .slice sa c.set.length sc] 31 (0, 0)) := heap_alloc_new _ _
      have hcl := cloneV_any _ _ c.set (fs.ext hxW) (by omega)
      have hsz : (wr.alloc (.cells #[.string (strOf c.name), .int .i64 c.op, .int .i64 c.v.k, .int .i64 c.v.n, .string (strOf c.v.s), .bool c.v.b, .slice sa c.set.length sc] 31)).heap.size = wr.heap.size + 1 := World.size_alloc _ _
      go_wp2_with fail
      generalize wr.alloc (.cells #[.string (strOf c.name), .int .i64 c.op, .int .i64 c.v.k, .int .i64 c.v.n, .string (strOf c.v.s), .bool c.v.b, .slice sa c.set.length sc] 31) = W at *
      refine hcl.mono ?_
      rintro e w2 ⟨v2, rfl, ho2, hx2⟩
      have HO2 := Lib.hid ho2
      have HX2 := Lib.hid hx2
      clear hcl ho2 hx2 f0 f1 f2 f3 f4 f5 f6 fs
      go_wp2_with fail
      refine (sortSet W w2 v2 c.set HX2.out HO2.out (by omega)).mono ?_
      rintro e w3 ⟨rfl, l', h3⟩
      have H3 := Lib.hid h3
      clear h3
      go_wp2_with fail
      refine (compSet W w3 v2 c l' hmc.out H3.out.2.2 H3.out.2.1 H3.out.1).mono ?_
      rintro e w4 ⟨v4, rfl, h4⟩
      have hB4 : w4.heap[wr.heap.size]? = some (.cells #[.string (strOf c.name), .int .i64 c.op, .int .i64 c.v.k, .int .i64 c.v.n, .string (strOf c.v.s), .bool c.v.b, .slice sa c.set.length sc] 31 (0, 0)) := by
        rw [h4.2.block _ (Array.getElem?_eq_some_iff.1 hB).1]; exact hB
      have H4 := Lib.hid h4
      clear h4 hB HO2 HX2 H3
      have c0 := cell_of_row _ _ 0 _ _ _ hB4
      have c1 := cell_of_row _ _ 1 _ _ _ hB4
      have c2 := cell_of_row _ _ 2 _ _ _ hB4
      have c3 := cell_of_row _ _ 3 _ _ _ hB4
      have c4 := cell_of_row _ _ 4 _ _ _ hB4
      have c5 := cell_of_row _ _ 5 _ _ _ hB4
      have c6 := cell_of_row _ _ 6 _ _ _ hB4
      have z6 : w4.frozen? ⟨wr.heap.size, 6, none⟩ = false := by simp [World.frozen?, hB4]
      clear hB4
      obtain ⟨a4, cap4, rfl, _, _⟩ := Row.shape (Row.of_own H4.out.1)
      have hx5 : Ext wr (w4.setCell ⟨wr.heap.size, 6, none⟩ (.slice a4 (normC c).set.length cap4)) := (hxW.trans H4.out.2).setCell (Nat.le_refl _) _
      have hlt4 : wr.heap.size < w4.heap.size := by have := H4.out.2.size; omega
      have hset4 : SetO w.heap.size (w4.setCell ⟨wr.heap.size, 6, none⟩ (.slice a4 (normC c).set.length cap4)) ⟨normC c, .slice a4 (normC c).set.length cap4⟩ :=
        own_keep (own_low H4.out.1 (by have := hx.size; omega)) (grown_setCell w4 ⟨wr.heap.size, 6, none⟩ _) fun q hq e => by
          have := own_base H4.out.1 q hq
          have e2 : wr.heap.size = q := Option.some.inj e
          omega
      have hrow := addRow (w4.setCell ⟨wr.heap.size, 6, none⟩ (.slice a4 (normC c).set.length cap4)) ⟨normC c, .slice a4 (normC c).set.length cap4⟩
      have hs5 : (w4.setCell ⟨wr.heap.size, 6, none⟩ (.slice a4 (normC c).set.length cap4)).heap.size = w4.heap.size := World.size_setCell _ _ _
      rw [hs5] at hrow
      clear hs5
      have hx6 : Ext wr ((w4.setCell ⟨wr.heap.size, 6, none⟩ (.slice a4 (normC c).set.length cap4)).alloc (.cells #[.string (strOf c.name), .int .i64 c.op, .int .i64 c.v.k, .int .i64 c.v.n, .string (strOf c.v.s), .bool c.v.b, .slice a4 (normC c).set.length cap4] 31)) := hx5.alloc _
      have hset6 := hset4.ext ((Ext.refl _).alloc (.cells #[.string (strOf c.name), .int .i64 c.op, .int .i64 c.v.k, .int .i64 c.v.n, .string (strOf c.v.s), .bool c.v.b, .slice a4 (normC c).set.length cap4] 31))
      have hown6 := own_ext hown.out hx6
      have hone := csC_one [⟨normC c, .slice a4 (normC c).set.length cap4⟩] (fun y hy => by rw [List.mem_singleton.1 hy]; rfl)
      rw [List.flatMap_singleton] at hone
      have hlen2 : us.length ≤ 6 := by have := hlen.out; omega
      have hbase : w.heap.size ≤ ((w4.setCell ⟨wr.heap.size, 6, none⟩ (.slice a4 (normC c).set.length cap4)).alloc (.cells #[.string (strOf c.name), .int .i64 c.op, .int .i64 c.v.k, .int .i64 c.v.n, .string (strOf c.v.s), .bool c.v.b, .slice a4 (normC c).set.length cap4] 31)).heap.size := (hx.trans hx6).size
      have HSET6 := Lib.hid hset6
      have HOWN6 := Lib.hid hown6
      have HROW := Lib.hid hrow
      have HONE := Lib.hid hone
      have HX6 := Lib.hid hx6
      have HB := Lib.hid hbase
      clear hset6 hown6 hrow hone hx6 hx5 hset4 hbase hsz
      go_wp2_with (at_builtin; refine wpList_append_row 80 31 (.tmp 27) (.tmp 29) rfl w.heap.size _ 7 88 Try.underlying80 info31t rfl (by decide) rfl _ us.length (us.flatMap csC) rfl HOWN6.out 1 (csC ⟨normC c, .slice a4 (normC c).set.length cap4⟩) HROW.out HONE.out (by omega) (by unfold maxLen; omega) HB.out ?_; intro v' w7 hown7 hgrow; have HOWN7 := Lib.hid hown7; have HG := Lib.hid hgrow; clear hown7 hgrow)
      go_roundw
      case rel =>
        refine ⟨k + 1, us ++ [⟨normC c, .slice a4 (normC c).set.length cap4⟩], hlt, by go_num, ?_, ?_, ?_, ?_, ?_, ?_⟩
        · show _ = _; rw [List.length_append, List.length_singleton, hlen.out]
        · show _ = _; rw [HTK.out, ← hus.out, List.map_append]; rfl
        · show World.ownsRow _ _ _ _ _ _ _
          rw [List.length_append, List.length_singleton, List.flatMap_append, List.flatMap_singleton]
          exact HOWN7.out
        · show ∀ x ∈ us ++ [_], _
          intro x hxm
          rcases List.mem_append.1 hxm with hxm | hxm
          · exact ((hset.out x hxm).ext HX6.out).keep HOWN6.out HG.out
          · rw [List.mem_singleton.1 hxm]; exact HSET6.out.keep HOWN6.out HG.out
        · show us ++ [_] = [] → _
          intro h; simp at h
        · exact (hx.trans HX6.out).grown_none HG.out (own_base HOWN6.out)
      case measure => simp [intOf]; omega
    · obtain rfl : k = n := by omega
      have hI : decide ((k : Int) < (k : Int)) = false := decide_eq_false (by omega)
      have hus2 : Hid (us.map CS.c = p.map normC) := by
        have h := hus.out
        rw [List.take_of_length_le (by rw [← HN.out]; exact Nat.le_refl _)] at h
        exact h
      have hxF : Ext wr (wr.alloc (.cells #[.func (.func 61) #[] #[], .func (.func 62) #[] #[]] 83)) := (Ext.refl wr).alloc _
      have hF := heap_alloc_new wr (.cells #[.func (.func 61) #[] #[], .func (.func 62) #[] #[]] 83)
      have F1 := cell_of_row _ _ 1 _ _ _ hF
      have hlen2 : us.length ≤ 12 := by have := hlen.out; omega
      have hso := sorted_any _ w.heap.size u4 us (Row.of_own (own_ext hown.out hxF)) hlen2 (fun x hx => (hset.out x hx).ext hxF) hnil.out
      have HSO := Lib.hid hso
      have HXF := Lib.hid (hx.trans hxF)
      clear hso hF hxF
      go_wp2_with fail
      refine wp_loop_rounds 3 ?_
      rw [rounds_succ]
      go_wp2_with fail
      generalize wr.alloc (.cells #[.func (.func 61) #[] #[], .func (.func 62) #[] #[]] 83) = wf at *
      refine HSO.out.mono ?_
      rintro e w2 ⟨v2, us2, rfl, h2⟩
      have G1 := h2.2.2.2.2.1.cell F1
      have hlen3 : us2.length ≤ 12 := by rw [h2.1.length_eq]; exact hlen2
      have hon := once_any w2 w.heap.size v2 us2 (Row.of_own h2.2.2.1) hlen3 h2.2.2.2.1
      have HON := Lib.hid hon
      have H2 := Lib.hid h2
      clear h2 hon HSO F1
      go_wp2_with fail
      rw [rounds_succ]
      go_wp2_with fail
      refine HON.out.mono ?_
      rintro e w3 ⟨v3, rfl, h3⟩
      have H3 := Lib.hid h3
      clear h3 HON G1
      go_wp2_with fail
      rw [rounds_succ]
      go_wp2_with fail
      go_ret2
      refine ⟨v3, compF CS.c us2, rfl, ?_, own_low H3.out.1 ((HXF.out.trans H2.out.2.2.2.2.1).size), H3.out.2.1, HXF.out.trans (H2.out.2.2.2.2.1.trans H3.out.2.2)⟩
      rw [map_compF CS.c _ us2 (Nat.le_refl _)]
      refine compL_sorted wo_C (l := p.map normC) ?_ ?_ (fun a _ b _ => order_zero) (fun a _ b _ => ⟨fun h => by rw [of_decide_eq_true h]; exact wo_C.refl b, fun h => decide_eq_true (order_zero h)⟩)
      · rw [← hus2.out]; exact H2.out.1.map _
      · rw [List.pairwise_map]; exact H2.out.2.1
end Go.Proofs.Ytkefppdacigbmaa
