/- pred.Normal.
CoverOrder, walked. -/
import Derived.Test.YtcgflkfbjnpdiaaGreatP17
import Derived.Test.YtcgflkfbjnpdiaaGreatP4
import Derived.Test.YtcgflkfbjnpdiaaGreatP5
import Derived.Test.YtcgflkfbjnpdiaaGreatP18
import Derived.Test.YtcgflkfbjnpdiaaGreatP13
namespace Go.Proofs.YtcgflkfbjnpdiaaGreat
open Go.RowKit Go.Sort

theorem sortSet (w w2 : World) (v : Value) (l : List V) (hx : Ext w w2) (ho : w2.ownsRow w.heap.size 34 4 v l.length (l.flatMap vC)) (hl : l.length ≤ 1000000) :
    Calls Tryz.prog 21 #[v, .func (.func 22) #[] #[]] w2 fun e w' => e = .returned (.tuple #[]) ∧ ∃ l' : List V, (l'.Perm l ∧ (l'.Pairwise fun a b => cmpV a b ≤ 0)) ∧ w'.ownsRow w.heap.size 34 4 v l'.length (l'.flatMap vC) ∧ Ext w w' := by
  refine (sortV_any w2 _ v l ho hl).mono ?_
  rintro e w' ⟨rfl, l', p1, p2, p3, p4⟩
  exact ⟨rfl, l', ⟨p1, p2⟩, by rw [p1.length_eq]; exact p3, hx.grown_none p4 (own_base ho)⟩
theorem compSet (w w2 : World) (v : Value) (c : C) (l : List V) (hc : mayC c = true) (hx : Ext w w2) (ho : w2.ownsRow w.heap.size 34 4 v l.length (l.flatMap vC)) (hp : l.Perm c.set ∧ (l.Pairwise fun a b => cmpV a b ≤ 0)) :
    Calls Tryz.prog 23 #[v] w2 fun e w' => ∃ v', e = .returned v' ∧ w'.ownsRow w.heap.size 34 4 v' (normC c).set.length ((normC c).set.flatMap vC) ∧ Ext w w' := by
  have hlen := hp.1.length_eq
  have hs := may_set hc
  have hi := set_inj hc
  have he : compE l = (normC c).set := compL_sorted wo_V hp.1 hp.2 hi fun a ha b hb => ⟨fun h => by rw [of_decide_eq_true h]; exact wo_V.refl b, fun h => decide_eq_true (hi a ha b hb h)⟩
  refine (compactV_any w2 _ v l ho (by omega)).mono ?_
  rintro e w' ⟨v', rfl, p1, p2, p3⟩
  rw [he] at p1
  exact ⟨v', rfl, p1, hx.grown_none p2 (own_base ho)⟩

theorem grown_setCell (w : World) (a : Addr) (v : Value) : w.grownBy (w.setCell a v) (some a.block) := by
  have h := Below.setCell (Below.refl a.block w) (Nat.le_refl _) v
  refine ⟨h.os, h.tape, h.output, by rw [World.size_setCell]; exact Nat.le_refl _, fun k hk hne => ?_⟩
  have hne2 : k ≠ a.block := fun e => hne (by rw [e])
  show (w.heap.modify a.block _)[k]? = w.heap[k]?
  rw [Array.getElem?_modify, if_neg (fun e => hne2 e.symm)]
theorem addRow (w : World) (x : CS) : Row (w.alloc (.cells (csC x).toArray 37)) 7 (.slice (some ⟨w.heap.size, 0, none⟩) 1 1) 1 (csC x) :=
  Row.of_own (World.ownsRow_lit (base := w.heap.size) (e := 37) (size := 7) w (csC x).toArray 1 (Nat.le_refl _) (by decide) rfl)

set_option maxRecDepth 100000 in
set_option maxHeartbeats 2000000 in
theorem normal_no (w : World) (v : Value) (p : List C) (hp : PredR w v p) (hm : mayP p = false) : Calls Tryz.prog 6 #[v] w fun e w' => e = .returned (.tuple #[.slice none 0 0, .int .i64 30]) ∧ Ext w w' := by
  have hc := pmay_any w v p hp
  rw [hm] at hc
  obtain ⟨a, cap, rfl, _, _⟩ := hp.shape
  clear hm hp
  go_enter Tryz.func6, Tryz.ntmps6
  go_wp2_with (go_at_call 9; refine hc.mono ?_; rintro e w' ⟨rfl, hx⟩)
  go_ret2
  exact ⟨rfl, hx⟩

set_option maxRecDepth 100000 in
set_option maxHeartbeats 4000000 in
theorem normal_yes (w : World) (v : Value) (p : List C) (hp : PredR w v p) (hm : mayP p = true) : Calls Tryz.prog 6 #[v] w fun e w' => ∃ (v' : Value) (us : List CS), e = .returned (.tuple #[v', .int .i64 0]) ∧ us.map CS.c = normP p ∧ w'.ownsRow w.heap.size 37 7 v' us.length (us.flatMap csC) ∧ (∀ x ∈ us, SetO w.heap.size w' x) ∧ Ext w w' := by
  have hc := pmay_any w v p hp
  rw [hm] at hc
  have hl6 := may_len hm
  have hall := Lib.hid (may_all hm)
  obtain ⟨a, cap, rfl, _, _⟩ := hp.shape
  have HP := Lib.hid hp
  clear hm hp
  obtain ⟨n, hn⟩ : ∃ n, n = p.length := ⟨_, rfl⟩
  have HN := Lib.hid hn
  rw [← hn] at hc ⊢ HP hl6
  clear hn
  go_enter Tryz.func6, Tryz.ntmps6
  go_wp2_with (go_at_call 9; refine hc.mono ?_; rintro e w1 ⟨rfl, hx1⟩)
  clear hc
  go_loopw [4, 6, 7, 15] (fun l4 _ _ i wr => ∃ (k : Nat) (us : List CS), k ≤ n ∧ i = .int .i64 k ∧ Hid (us.length = k) ∧ Hid (us.map CS.c = (p.take k).map normC) ∧ Hid (wr.ownsRow w.heap.size 37 7 l4 us.length (us.flatMap csC)) ∧ Hid (∀ x ∈ us, SetO w.heap.size wr x) ∧ Hid (us = [] → l4 = .slice none 0 0) ∧ Ext w wr) (fun _ _ _ i _ => n - (intOf i).toNat)
  case atStart => exact ⟨0, [], Nat.zero_le _, rfl, rfl, rfl, ⟨rfl, .inl ⟨rfl, rfl⟩⟩, fun _ h => (by cases h), fun _ => rfl, hx1⟩
  case round =>
    obtain ⟨k, us, hk, rfl, hlen, hus, hown, hset, hnil, hx⟩ := hrel
    by_cases hlt : k < n
    · have hI : decide ((k : Int) < (n : Int)) = true := decide_eq_true (by omega)
      have k1 : k < p.length := by have := HN.out; omega
      obtain ⟨B, o, sa, sc, rfl, f0, f1, f2, f3, f4, f5, f6, fs⟩ := (HP.out.ext hx).at k1
      have hmc := Lib.hid (hall.out p[k] (List.getElem_mem k1))
      have htk : (p.take (k + 1)).map normC = (p.take k).map normC ++ [normC p[k]] := by rw [List.take_succ_eq_append_getElem k1, List.map_append]; rfl
      have HTK := Lib.hid htk
      clear htk
      generalize p[k] = c at *
      have hsl := may_set hmc.out
      have hxW : Ext wr (wr.alloc (.cells #[.string (strOf c.name), .int .i64 c.op, .int .i64 c.v.k, .int .i64 c.v.n, .string (strOf c.v.s), .bool c.v.b, .slice sa c.set.length sc] 37)) := (Ext.refl wr).alloc _
      have hB : (wr.alloc (.cells #[.string (strOf c.name), .int .i64 c.op, .int .i64 c.v.k, .int .i64 c.v.n, .string (strOf c.v.s), .bool c.v.b, .slice sa c.set.length sc] 37)).heap[wr.heap.size]? = some (.cells #[.string (strOf c.name), .int .i64 c.op, .int .i64 c.v.k, .int .i64 c.v.n, .string (strOf c.v.s), .bool c.v.b, .slice sa c.set.length sc] 37 (0, 0)) := heap_alloc_new _ _
      have hcl := cloneV_any _ _ c.set (fs.ext hxW) (by omega)
      have hsz : (wr.alloc (.cells #[.string (strOf c.name), .int .i64 c.op, .int .i64 c.v.k, .int .i64 c.v.n, .string (strOf c.v.s), .bool c.v.b, .slice sa c.set.length sc] 37)).heap.size = wr.heap.size + 1 := World.size_alloc _ _
      go_wp2_with fail
      generalize wr.alloc (.cells #[.string (strOf c.name), .int .i64 c.op, .int .i64 c.v.k, .int .i64 c.v.n, .string (strOf c.v.s), .bool c.v.b, .slice sa c.set.length sc] 37) = W at *
      refine hcl.mono ?_
      rintro e w2 ⟨v2, rfl, ho2, hx2⟩
      have HO2 := Lib.hid ho2
      have HX2 := Lib.hid hx2
      clear hcl ho2 hx2 f0 f1 f2 f3 f4 f5 f6 fs
      go_wp2_with fail
      refine (sortSet W w2 v2 c.set HX2.out HO2.out (by omega)).mono ?_
      rintro e w3 ⟨rfl, l', h3⟩
      have H3 := Lib.hid h3
      clear h3
      go_wp2_with fail
      refine (compSet W w3 v2 c l' hmc.out H3.out.2.2 H3.out.2.1 H3.out.1).mono ?_
      rintro e w4 ⟨v4, rfl, h4⟩
      have hB4 : w4.heap[wr.heap.size]? = some (.cells #[.string (strOf c.name), .int .i64 c.op, .int .i64 c.v.k, .int .i64 c.v.n, .string (strOf c.v.s), .bool c.v.b, .slice sa c.set.length sc] 37 (0, 0)) := by
        rw [h4.2.block _ (Array.getElem?_eq_some_iff.1 hB).1]; exact hB
      have H4 := Lib.hid h4
      clear h4 hB HO2 HX2 H3
      have c0 := cell_of_row _ _ 0 _ _ _ hB4
      have c1 := cell_of_row _ _ 1 _ _ _ hB4
      have c2 := cell_of_row _ _ 2 _ _ _ hB4
      have c3 := cell_of_row _ _ 3 _ _ _ hB4
      have c4 := cell_of_row _ _ 4 _ _ _ hB4
      have c5 := cell_of_row _ _ 5 _ _ _ hB4
      have c6 := cell_of_row _ _ 6 _ _ _ hB4
      have z6 : w4.frozen? ⟨wr.heap.size, 6, none⟩ = false := by simp [World.frozen?, hB4]
      clear hB4
      obtain ⟨a4, cap4, rfl, _, _⟩ := Row.shape (Row.of_own H4.out.1)
      have hx5 : Ext wr (w4.setCell ⟨wr.heap.size, 6, none⟩ (.slice a4 (normC c).set.length cap4)) := (hxW.trans H4.out.2).setCell (Nat.le_refl _) _
      have hlt4 : wr.heap.size < w4.heap.size := by have := H4.out.2.size; omega
      have hset4 : SetO w.heap.size (w4.setCell ⟨wr.heap.size, 6, none⟩ (.slice a4 (normC c).set.length cap4)) ⟨normC c, .slice a4 (normC c).set.length cap4⟩ :=
        own_keep (own_low H4.out.1 (by have := hx.size; omega)) (grown_setCell w4 ⟨wr.heap.size, 6, none⟩ _) fun q hq e => by
          have := own_base H4.out.1 q hq
          have e2 : wr.heap.size = q := Option.some.inj e
          omega
      have hrow := addRow (w4.setCell ⟨wr.heap.size, 6, none⟩ (.slice a4 (normC c).set.length cap4)) ⟨normC c, .slice a4 (normC c).set.length cap4⟩
      have hs5 : (w4.setCell ⟨wr.heap.size, 6, none⟩ (.slice a4 (normC c).set.length cap4)).heap.size = w4.heap.size := World.size_setCell _ _ _
      rw [hs5] at hrow
      clear hs5
      have hx6 : Ext wr ((w4.setCell ⟨wr.heap.size, 6, none⟩ (.slice a4 (normC c).set.length cap4)).alloc (.cells #[.string (strOf c.name), .int .i64 c.op, .int .i64 c.v.k, .int .i64 c.v.n, .string (strOf c.v.s), .bool c.v.b, .slice a4 (normC c).set.length cap4] 37)) := hx5.alloc _
      have hset6 := hset4.ext ((Ext.refl _).alloc (.cells #[.string (strOf c.name), .int .i64 c.op, .int .i64 c.v.k, .int .i64 c.v.n, .string (strOf c.v.s), .bool c.v.b, .slice a4 (normC c).set.length cap4] 37))
      have hown6 := own_ext hown.out hx6
      have hone := csC_one [⟨normC c, .slice a4 (normC c).set.length cap4⟩] (fun y hy => by rw [List.mem_singleton.1 hy]; rfl)
      rw [List.flatMap_singleton] at hone
      have hlen2 : us.length ≤ 6 := by have := hlen.out; omega
      have hbase : w.heap.size ≤ ((w4.setCell ⟨wr.heap.size, 6, none⟩ (.slice a4 (normC c).set.length cap4)).alloc (.cells #[.string (strOf c.name), .int .i64 c.op, .int .i64 c.v.k, .int .i64 c.v.n, .string (strOf c.v.s), .bool c.v.b, .slice a4 (normC c).set.length cap4] 37)).heap.size := (hx.trans hx6).size
      have HSET6 := Lib.hid hset6
      have HOWN6 := Lib.hid hown6
      have HROW := Lib.hid hrow
      have HONE := Lib.hid hone
      have HX6 := Lib.hid hx6
      have HB := Lib.hid hbase
      clear hset6 hown6 hrow hone hx6 hx5 hset4 hbase hsz
      go_wp2_with (at_builtin; refine wpList_append_row 42 37 (.tmp 27) (.tmp 29) rfl w.heap.size _ 7 88 Tryz.underlying42 info31t rfl (by decide) rfl _ us.length (us.flatMap csC) rfl HOWN6.out 1 (csC ⟨normC c, .slice a4 (normC c).set.length cap4⟩) HROW.out HONE.out (by omega) (by unfold maxLen; omega) HB.out ?_; intro v' w7 hown7 hgrow; have HOWN7 := Lib.hid hown7; have HG := Lib.hid hgrow; clear hown7 hgrow)
      go_roundw
      case rel =>
        refine ⟨k + 1, us ++ [⟨normC c, .slice a4 (normC c).set.length cap4⟩], hlt, by go_num, ?_, ?_, ?_, ?_, ?_, ?_⟩
        · show _ = _; rw [List.length_append, List.length_singleton, hlen.out]
        · show _ = _; rw [HTK.out, ← hus.out, List.map_append]; rfl
        · show World.ownsRow _ _ _ _ _ _ _
          rw [List.length_append, List.length_singleton, List.flatMap_append, List.flatMap_singleton]
          exact HOWN7.out
        · show ∀ x ∈ us ++ [_], _
          intro x hxm
          rcases List.mem_append.1 hxm with hxm | hxm
          · exact ((hset.out x hxm).ext HX6.out).keep HOWN6.out HG.out
          · rw [List.mem_singleton.1 hxm]; exact HSET6.out.keep HOWN6.out HG.out
        · show us ++ [_] = [] → _
          intro h; simp at h
        · exact (hx.trans HX6.out).grown_none HG.out (own_base HOWN6.out)
      case measure => simp [intOf]; omega
    · obtain rfl : k = n := by omega
      have hI : decide ((k : Int) < (k : Int)) = false := decide_eq_false (by omega)
      have hus2 : Hid (us.map CS.c = p.map normC) := by
        have h := hus.out
        rw [List.take_of_length_le (by rw [← HN.out]; exact Nat.le_refl _)] at h
        exact h
      have hxF : Ext wr (wr.alloc (.cells #[.func (.func 24) #[] #[], .func (.func 25) #[] #[]] 46)) := (Ext.refl wr).alloc _
      have hF := heap_alloc_new wr (.cells #[.func (.func 24) #[] #[], .func (.func 25) #[] #[]] 46)
      have F1 := cell_of_row _ _ 1 _ _ _ hF
      have hlen2 : us.length ≤ 12 := by have := hlen.out; omega
      have hso := sorted_any _ w.heap.size u4 us (Row.of_own (own_ext hown.out hxF)) hlen2 (fun x hx => (hset.out x hx).ext hxF) hnil.out
      have HSO := Lib.hid hso
      have HXF := Lib.hid (hx.trans hxF)
      clear hso hF hxF
      go_wp2_with fail
      refine wp_loop_rounds 3 ?_
      rw [rounds_succ]
      go_wp2_with fail
      generalize wr.alloc (.cells #[.func (.func 24) #[] #[], .func (.func 25) #[] #[]] 46) = wf at *
      refine HSO.out.mono ?_
      rintro e w2 ⟨v2, us2, rfl, h2⟩
      have G1 := h2.2.2.2.2.1.cell F1
      have hlen3 : us2.length ≤ 12 := by rw [h2.1.length_eq]; exact hlen2
      have hon := once_any w2 w.heap.size v2 us2 (Row.of_own h2.2.2.1) hlen3 h2.2.2.2.1
      have HON := Lib.hid hon
      have H2 := Lib.hid h2
      clear h2 hon HSO F1
      go_wp2_with fail
      rw [rounds_succ]
      go_wp2_with fail
      refine HON.out.mono ?_
      rintro e w3 ⟨v3, rfl, h3⟩
      have H3 := Lib.hid h3
      clear h3 HON G1
      go_wp2_with fail
      rw [rounds_succ]
      go_wp2_with fail
      go_ret2
      refine ⟨v3, compF CS.c us2, rfl, ?_, own_low H3.out.1 ((HXF.out.trans H2.out.2.2.2.2.1).size), H3.out.2.1, HXF.out.trans (H2.out.2.2.2.2.1.trans H3.out.2.2)⟩
      rw [map_compF CS.c _ us2 (Nat.le_refl _)]
      refine compL_sorted wo_C (l := p.map normC) ?_ ?_ (fun a _ b _ => order_zero) (fun a _ b _ => ⟨fun h => by rw [of_decide_eq_true h]; exact wo_C.refl b, fun h => decide_eq_true (order_zero h)⟩)
      · rw [← hus2.out]; exact H2.out.1.map _
      · rw [List.pairwise_map]; exact H2.out.2.1
end Go.Proofs.YtcgflkfbjnpdiaaGreat

namespace Go.Proofs.YtcgflkfbjnpdiaaGreat
open Go.RowKit Go.Sort

theorem u8n {a : Int} (h : (Lit.int .u8 a).wf = true) : ∃ n : Nat, a = (n : Int) ∧ n < 256 := by
  have := bounds_u8 h
  exact ⟨a.toNat, by omega, by omega⟩
theorem okC_norm {c : C} (h : okC c) (hm : mayC c = true) : okC (normC c) :=
  ⟨h.name, h.op, h.v, fun x hx => h.set x ((sortU_mem c.set (set_inj hm) x).1 hx)⟩
theorem okP_norm {p : List C} (h : ∀ c ∈ p, okC c) (hm : mayP p = true) : ∀ c ∈ normP p, okC c := by
  intro c hc
  obtain ⟨d, hd, rfl⟩ := (normP_mem p c).1 hc
  exact okC_norm (h d hd) (may_all hm d hd)
theorem okP_app {p q : List C} (h : ∀ c ∈ p, okC c) (k : ∀ c ∈ q, okC c) : ∀ c ∈ p ++ q, okC c := by
  intro c hc
  rcases List.mem_append.1 hc with hc | hc
  · exact h c hc
  · exact k c hc
def Fact.rowC (n : Nat) (xs : List Value) : Fact := ⟨fun v w => Row w 7 v n xs, fun _ _ _ hx h => h.ext hx⟩
def Fact.ownC (b n : Nat) (xs : List Value) : Fact := ⟨fun v w => w.ownsRow b 37 7 v n xs, fun _ _ _ hx h => own_ext h hx⟩
theorem rowCut {P : Program} {ops : Array Oper} {Q : Exit → Act → World → Prop} {a : Act} {w : World} {rest : List Oper} {o : Oper}
    (t : TypeId) (x : Operand) (lo hi : Option Operand) (us : List CS) (n i j : Nat)
    (ho : o.op = .slice t x lo hi none) (ht : P.underlying t = some (.slice 37)) (hs : (P.info? 37).map (·.size) = some 7)
    (hw : Region.wanted o (yielded ops a.tmps) = true) (hx : Row w 7 (a.eval x) n (us.flatMap csC))
    (hlo : BoundIs a lo 0 i) (hhi : BoundIs a hi n j) (hij : i ≤ j) (hj : j ≤ n)
    (h : ∀ v, Row w 7 v (j - i) (((us.take j).drop i).flatMap csC) → wpList P ops Q rest (a.put o.dst v) w) : wpList P ops Q (o :: rest) a w := by
  refine wpList_cut t 37 x lo hi 7 n i j _ ho ht hs hw hx hlo hhi hij hj fun v hv => h v ?_
  rw [flat_take csC 7 csC_len, flat_drop csC 7 csC_len] at hv
  exact hv
theorem own_none2 (w : World) (base : Nat) (e : TypeId) (size : Nat) : w.ownsRow base e size (.slice none 0 0) 0 [] := ⟨by simp, .inl ⟨rfl, rfl⟩⟩
theorem own_zero {w : World} {b n : Nat} {v : Value} {xs : List Value} (h : w.ownsRow b 37 7 v (0 + n) ([] ++ xs)) : w.ownsRow b 37 7 v n xs := by
  rw [Nat.zero_add, List.nil_append] at h; exact h
theorem drop_row {w : World} {v : Value} {us : List CS} {m n : Nat} (hl : us.length = n) (h : Row w 7 v (n - m) (((us.take n).drop m).flatMap csC)) : Row w 7 v (n - m) ((us.drop m).flatMap csC) := by
  rw [List.take_of_length_le (by omega)] at h; exact h
theorem info37u : (Tryz.prog.info? 37).map (fun i => (i.zero, i.size, i.bytes)) = some (some (.agg #[.string ⟨#[]⟩, .int .i64 0, .int .i64 0, .int .i64 0, .string ⟨#[]⟩, .bool false, .slice none 0 0]), 7, 88) := by kernel_rfl
theorem info37s : (Tryz.prog.info? 37).map (·.size) = some 7 := by kernel_rfl
theorem sets_take {w : World} {us : List CS} (h : ∀ x ∈ us, SetR w x.h x.c.set) (k : Nat) : ∀ x ∈ us.take k, SetR w x.h x.c.set := fun x hx => h x (List.mem_of_mem_take hx)
theorem sets_drop {w : World} {us : List CS} (h : ∀ x ∈ us, SetR w x.h x.c.set) (k : Nat) : ∀ x ∈ us.drop k, SetR w x.h x.c.set := fun x hx => h x (List.mem_of_mem_drop hx)
theorem sets_one {w : World} {us : List CS} (h : ∀ x ∈ us, SetR w x.h x.c.set) : ∀ u ∈ us.flatMap csC, u.oneCell' = true := csC_one us (fun x hx => set_one (h x hx))
theorem no_covers {p q : List C} (h : mayP p = false) : coversF p q = false := by unfold coversF; rw [h]; rfl
theorem less_drop {α : Type} (p : List α) (k m : Nat) (h : m = min p.length (k + 1)) : p.drop m = p.drop (k + 1) := by
  subst h
  by_cases h : p.length ≤ k + 1
  · rw [Nat.min_eq_left h, List.drop_of_length_le (Nat.le_refl _), List.drop_of_length_le h]
  · rw [Nat.min_eq_right (by omega)]
theorem us_pred {w w' : World} {us vs : List CS} {p q : List C} {v : Value} (hp : us.map CS.c = p) (hq : vs.map CS.c = q) (sp : ∀ x ∈ us, SetR w x.h x.c.set) (sq : ∀ x ∈ vs, SetR w x.h x.c.set) (hx : Ext w w') {n : Nat} (hr : Row w' 7 v n ((us ++ vs).flatMap csC)) (hn : n = (us ++ vs).length) : PredR w' v (p ++ q) := by
  subst hn
  rw [← hp, ← hq, ← List.map_append]
  refine PredR.mk _ hr fun x h => ?_
  rcases List.mem_append.1 h with h | h
  · exact (sp x h).ext hx
  · exact (sq x h).ext hx

set_option maxRecDepth 100000 in
set_option maxHeartbeats 32000000 in
theorem corder_no (w : World) (vp vq vr : Value) (p q r : List C) (n : Nat) (hp : PredR w vp p) (hq : PredR w vq q) (hr : PredR w vr r) (kp : ∀ c ∈ p, okC c) (kq : ∀ c ∈ q, okC c) (hm : mayP p = false) :
    Calls Tryz.prog 4 #[vp, vq, vr, .int .u8 n] w fun e w' => e = .returned (.bool true) ∧ Ext w w' := by
  have CPQ := Lib.hid (fun W (hx : Ext w W) => covers_any W _ _ p q (hp.ext hx) (hq.ext hx) kp kq)
  have CPP := Lib.hid (fun W (hx : Ext w W) => covers_any W _ _ p p (hp.ext hx) (hp.ext hx) kp kp)
  have MP := Lib.hid (fun W (hx : Ext w W) => pmay_any W _ p (hp.ext hx))
  rw [no_covers hm] at CPQ CPP
  rw [hm] at MP
  obtain ⟨ap, cp, rfl, _, _⟩ := hp.shape
  obtain ⟨aq, cq, rfl, _, _⟩ := hq.shape
  obtain ⟨ar, cr, rfl, _, _⟩ := hr.shape
  clear hp hq hr kp kq hm
  generalize p.length = pl at *
  generalize q.length = ql at *
  generalize r.length = rl at *
  have hw := Ext.refl w
  go_enter Tryz.func4, Tryz.ntmps4
  go_wp2_with (first
    | ((with_reducible refine (CPQ.out _ hw).mono ?_); rintro e w1 ⟨rfl, hx⟩; have hw := hw.trans hx; clear hx)
    | ((with_reducible refine (CPP.out _ hw).mono ?_); rintro e w1 ⟨rfl, hx⟩; have hw := hw.trans hx; clear hx)
    | ((with_reducible refine (MP.out _ hw).mono ?_); rintro e w1 ⟨rfl, hx⟩; have hw := hw.trans hx; clear hx)
    | ((with_reducible refine (wakes05_any _).mono ?_); rintro e w1 ⟨rfl, hx⟩; have hw := hw.trans hx; clear hx))
  go_ret
  exact ⟨rfl, hw⟩

set_option maxRecDepth 100000 in
set_option maxHeartbeats 64000000 in
theorem corder_yes (w : World) (vp vq vr : Value) (p q r : List C) (n : Nat) (hp : PredR w vp p) (hq : PredR w vq q) (hr : PredR w vr r) (kp : ∀ c ∈ p, okC c) (kq : ∀ c ∈ q, okC c) (kr : ∀ c ∈ r, okC c) (hn : n < 256) (hm : mayP p = true) :
    Calls Tryz.prog 4 #[vp, vq, vr, .int .u8 n] w fun e w' => e = .returned (.bool true) ∧ Ext w w' := by
  have CPQ := Lib.hid (fun W (hx : Ext w W) => covers_any W _ _ p q (hp.ext hx) (hq.ext hx) kp kq)
  have CQR := Lib.hid (fun W (hx : Ext w W) => covers_any W _ _ q r (hq.ext hx) (hr.ext hx) kq kr)
  have CPR := Lib.hid (fun W (hx : Ext w W) => covers_any W _ _ p r (hp.ext hx) (hr.ext hx) kp kr)
  have CPP := Lib.hid (fun W (hx : Ext w W) => covers_any W _ _ p p (hp.ext hx) (hp.ext hx) kp kp)
  have CNP := Lib.hid (fun W (hx : Ext w W) => covers_any W _ _ [] p (PredR.nil W) (hp.ext hx) (fun c hc => by cases hc) kp)
  have MP := Lib.hid (fun W (hx : Ext w W) => pmay_any W _ p (hp.ext hx))
  have MQ := Lib.hid (fun W (hx : Ext w W) => pmay_any W _ q (hq.ext hx))
  have NP := Lib.hid (fun W (hx : Ext w W) => normal_yes W _ p (hp.ext hx) hm)
  have CNN := Lib.hid (fun W v (h : PredR W v (normP p)) W' (hx : Ext W W') (hy : Ext w W') => covers_any W' _ _ (normP p) p (h.ext hx) (hp.ext hy) (okP_norm kp hm) kp)
  have CPN := Lib.hid (fun W v (h : PredR W v (normP p)) W' (hx : Ext W W') (hy : Ext w W') => covers_any W' _ _ p (normP p) (hp.ext hy) (h.ext hx) kp (okP_norm kp hm))
  have CLP := Lib.hid (fun k W v (h : PredR W v (p.take k ++ p.drop (k + 1))) (hy : Ext w W) => covers_any W _ _ (p.take k ++ p.drop (k + 1)) p h (hp.ext hy) (okP_app (fun c hc => kp c (List.mem_of_mem_take hc)) (fun c hc => kp c (List.mem_of_mem_drop hc))) kp)
  have CPB := Lib.hid (fun W v (h : PredR W v (p ++ q)) W' (hx : Ext W W') (hy : Ext w W') => covers_any W' _ _ p (p ++ q) (hp.ext hy) (h.ext hx) kp (okP_app kp kq))
  have CQB := Lib.hid (fun W v (h : PredR W v (p ++ q)) W' (hx : Ext W W') (hy : Ext w W') => covers_any W' _ _ q (p ++ q) (hq.ext hy) (h.ext hx) kq (okP_app kp kq))
  have CBR := Lib.hid (fun W v (h : PredR W v (p ++ q)) W' (hx : Ext W W') (hy : Ext w W') => covers_any W' _ _ (p ++ q) r (h.ext hx) (hr.ext hy) (okP_app kp kq) kr)
  have hlp := may_len hm
  have LL := Lib.hid (fun k => covers_less hm k)
  have BB := Lib.hid (fun (hmq : mayP q = true) (hl : p.length + q.length ≤ 6) => covers_both hm hmq hl (r := r))
  have BP := Lib.hid (fun (hmq : mayP q = true) (hl : p.length + q.length ≤ 6) => covers_sub hm (may_app hm hmq hl) (fun c hc => List.mem_append_left _ hc))
  have BQ := Lib.hid (fun (hmq : mayP q = true) (hl : p.length + q.length ≤ 6) => covers_sub hmq (may_app hm hmq hl) (fun c hc => List.mem_append_right _ hc))
  have MQL := Lib.hid (fun (h : mayP q = true) => may_len h)
  have TR := Lib.hid (fun (h1 : coversF p q = true) (h2 : coversF q r = true) => covers_trans h1 h2)
  rw [covers_refl hm] at CPP
  rw [covers_nil hm] at CNP
  rw [(covers_norm hm).1] at CNN
  rw [(covers_norm hm).2] at CPN
  rw [hm] at MP
  obtain ⟨usp, hmp, hrp, hsp⟩ := hp
  obtain ⟨usq, hmq, hrq, hsq⟩ := hq
  have lp : usp.length = p.length := by rw [← hmp, List.length_map]
  have lq : usq.length = q.length := by rw [← hmq, List.length_map]
  obtain ⟨ap, cp, rfl, hcp, hmxp⟩ := Row.shape hrp
  obtain ⟨aq, cq, rfl, hcq, hmxq⟩ := Row.shape hrq
  obtain ⟨ar, cr, rfl, _, _⟩ := hr.shape
  unfold maxLen at hmxp hmxq
  have hone1 := csC_one usp (fun x hx => set_one (hsp x hx))
  have hone2 := csC_one usq (fun x hx => set_one (hsq x hx))
  have HRP := Lib.hid hrp
  have HRQ := Lib.hid hrq
  have HSP := Lib.hid hsp
  have HSQ := Lib.hid hsq
  have HMP := Lib.hid hmp
  have HMQ := Lib.hid hmq
  have HO1 := Lib.hid hone1
  have HO2 := Lib.hid hone2
  have LP := Lib.hid lp
  have LQ := Lib.hid lq
  rw [← lp] at hlp
  clear hrp hrq hsp hsq hmp hmq hone1 hone2 hr kp kq kr hm lp lq
  generalize hpl : usp.length = pl at *
  generalize hql : usq.length = ql at *
  have PL := Lib.hid hpl
  have QL := Lib.hid hql
  clear hpl hql
  generalize r.length = rl at *
  obtain ⟨k, hk⟩ : ∃ k : Nat, k = n % (pl + 1) := ⟨_, rfl⟩
  have qk : (n : Int) % ((pl : Int) + 1) = (k : Int) := by rw [hk]; rfl
  have hkl : k ≤ pl := by have := Nat.mod_lt n (show 0 < pl + 1 by omega); omega
  have QK := Lib.hid qk
  clear hk
  generalize coversF p q = cpq at *
  generalize coversF q r = cqr at *
  generalize coversF p r = cpr at *
  generalize mayP q = mq at *
  have hw := Ext.refl w
  go_enter Tryz.func4, Tryz.ntmps4
  have qk := QK.out
  cases cpq with
  | false =>
    go_upto_region 5 with (first | ((with_reducible refine (CPQ.out _ hw).mono ?_); rintro e w1 ⟨rfl, hx⟩; have hw := hw.trans hx; clear hx) | ((with_reducible refine (CQR.out _ hw).mono ?_); rintro e w1 ⟨rfl, hx⟩; have hw := hw.trans hx; clear hx) | ((with_reducible refine (CPR.out _ hw).mono ?_); rintro e w1 ⟨rfl, hx⟩; have hw := hw.trans hx; clear hx) | ((with_reducible refine (CPP.out _ hw).mono ?_); rintro e w1 ⟨rfl, hx⟩; have hw := hw.trans hx; clear hx) | ((with_reducible refine (CNP.out _ hw).mono ?_); rintro e w1 ⟨rfl, hx⟩; have hw := hw.trans hx; clear hx) | ((with_reducible refine (MP.out _ hw).mono ?_); rintro e w1 ⟨rfl, hx⟩; have hw := hw.trans hx; clear hx) | ((with_reducible refine (MQ.out _ hw).mono ?_); rintro e w1 ⟨rfl, hx⟩; have hw := hw.trans hx; clear hx) | ((with_reducible refine (wakes05_any _).mono ?_); rintro e w1 ⟨rfl, hx⟩; have hw := hw.trans hx; clear hx))
    go_upto_region 6 with ((with_reducible refine (NP.out _ hw).mono ?_); rintro e w1 ⟨vn, usn, rfl, hn1, hn2, hn3, hx⟩; obtain ⟨an, cn, rfl, _, _⟩ := Row.shape (Row.of_own hn2); have HN := Lib.hid (show PredR w1 _ (normP p) from hn1 ▸ PredR.mk usn (Row.of_own hn2) (fun x hx => (hn3 x hx).set)); have hw := hw.trans hx; have hwn := Ext.refl w1; clear hx hn1 hn2 hn3)
    go_upto_region 9 with (first | ((with_reducible refine (CNN.out _ _ HN.out _ hwn hw).mono ?_); rintro e w1 ⟨rfl, hx⟩; have hw := hw.trans hx; have hwn := hwn.trans hx; clear hx) | ((with_reducible refine (CPN.out _ _ HN.out _ hwn hw).mono ?_); rintro e w1 ⟨rfl, hx⟩; have hw := hw.trans hx; have hwn := hwn.trans hx; clear hx) | ((with_reducible refine (CNP.out _ hw).mono ?_); rintro e w1 ⟨rfl, hx⟩; have hw := hw.trans hx; have hwn := hwn.trans hx; clear hx))
    clear hwn HN
    obtain ⟨wA, rfl⟩ : ∃ x : World, x = w1 := ⟨_, rfl⟩
    have HW := Lib.hid hw
    clear hw
    simp only [qk]
    obtain ⟨m, hmm⟩ : ∃ m, m = min pl (k + 1) := ⟨_, rfl⟩
    have hml : m ≤ pl := by omega
    have qm : min (pl : Int) ((k : Int) + 1) = (m : Int) := by omega
    have HM := Lib.hid hmm
    have QM := Lib.hid qm
    clear hmm qm
    have ONE1 := Lib.hid (sets_one (sets_take HSP.out k))
    have ONE2 := Lib.hid (sets_one (sets_drop HSP.out m))
    have qm2 := QM.out
    refine wp_region_chain 11 [Fact.eq (.slice ap pl cp),
        Fact.eq (.int .i64 k),
        Fact.rowC k ((usp.take k).flatMap csC),
        Fact.ownC wA.heap.size k ((usp.take k).flatMap csC),
        Fact.eq (.slice ap pl cp),
        Fact.eq (.slice ap pl cp),
        Fact.eq (.int .i64 pl),
        Fact.eq (.int .i64 k),
        Fact.eq (.int .i64 ((k : Int) + 1)),
        Fact.eq (.int .i64 m),
        Fact.rowC (pl - m) ((usp.drop m).flatMap csC)]
      [[], [], [(0, 70), (1, 71)], [(2, 72)], [], [], [(5, 75)], [], [(7, 77)], [(6, 76), (8, 78)], [(4, 74), (9, 79)]]
      [(0, 70), (1, 71), (2, 72), (3, 73), (4, 74), (5, 75), (6, 76), (7, 77), (8, 78), (9, 79), (10, 80)] (by kernel_rfl) (by kernel_rfl) ?_ ?_
    · refine ⟨?_, ?_, ?_, ?_, ?_, ?_, ?_, ?_, ?_, ?_, ?_, trivial⟩
      · intro w1 hx1; change wpList _ _ _ _ _ _; exact ob_move rfl rfl rfl rfl rfl
      · intro w1 hx1; change wpList _ _ _ _ _ _; exact ob_move rfl rfl rfl rfl rfl
      · intro w1 hx1; rintro _ rfl; rintro _ rfl; change wpList _ _ _ _ _ _; refine rowCut 23 (.tmp 70) none (some (.tmp 71)) usp pl 0 k rfl Tryz.underlying23 info37s rfl (HRP.out.ext (HW.out.trans hx1)) rfl ⟨_, _, rfl, by omega, by omega⟩ (Nat.zero_le _) hkl (fun v hv => ?_); exact wpList_nil ⟨rfl, Ext.refl _, rfl, hv⟩
      · intro w1 hx1; intro v72 h72; change wpList _ _ _ _ _ _; refine wpList_append_row 23 37 (.const (.slice none 0 0)) (.tmp 72) rfl _ _ 7 88 Tryz.underlying23 info37u rfl (by decide) rfl (.slice none 0 0) 0 [] rfl (own_none2 _ _ _ _) k ((usp.take k).flatMap csC) h72 ONE1.out (by omega) (by unfold maxLen; omega) hx1.size ?_; intro v2 w2 ho2 hg2; exact wpList_nil ⟨rfl, (Ext.refl _).grown_none (v := .slice none 0 0) hg2 (fun q hq => by cases hq), rfl, own_zero ho2⟩
      · intro w1 hx1; change wpList _ _ _ _ _ _; exact ob_move rfl rfl rfl rfl rfl
      · intro w1 hx1; change wpList _ _ _ _ _ _; exact ob_move rfl rfl rfl rfl rfl
      · intro w1 hx1; rintro _ rfl; change wpList _ _ _ _ _ _; go_wp2_with fail; exact ⟨rfl, Ext.refl _, rfl, rfl⟩
      · intro w1 hx1; change wpList _ _ _ _ _ _; exact ob_move rfl rfl rfl rfl rfl
      · intro w1 hx1; rintro _ rfl; change wpList _ _ _ _ _ _; go_wp2_with fail; exact ⟨rfl, Ext.refl _, rfl, rfl⟩
      · intro w1 hx1; rintro _ rfl; rintro _ rfl; change wpList _ _ _ _ _ _; go_wp2_with fail; exact ⟨rfl, Ext.refl _, rfl, rfl⟩
      · intro w1 hx1; rintro _ rfl; rintro _ rfl; change wpList _ _ _ _ _ _; refine rowCut 23 (.tmp 74) (some (.tmp 79)) none usp pl m pl rfl Tryz.underlying23 info37s rfl (HRP.out.ext (HW.out.trans hx1)) ⟨_, _, rfl, by omega, by omega⟩ rfl hml (Nat.le_refl _) (fun v hv => ?_); exact wpList_nil ⟨rfl, Ext.refl _, rfl, drop_row PL.out hv⟩
    · intro w1 hx1; rintro _ rfl; rintro _ rfl; intro v72 h72; intro v73 h73; rintro _ rfl; rintro _ rfl; rintro _ rfl; rintro _ rfl; rintro _ rfl; rintro _ rfl; intro v80 h80; refine depsThen_nil ?_; dsimp only; simp only [Act.put, List.setIfInBounds_toArray, List.set_cons_zero, List.set_cons_succ, List.drop_succ_cons, List.drop_zero]
      replace h72 : (Fact.rowC k ((usp.take k).flatMap csC)).p v72 w1 := h72
      replace h73 : (Fact.ownC wA.heap.size k ((usp.take k).flatMap csC)).p v73 w1 := h73
      replace h80 : (Fact.rowC (pl - m) ((usp.drop m).flatMap csC)).p v80 w1 := h80
      have h72 : Row w1 7 v72 k ((usp.take k).flatMap csC) := h72
      have h73 : w1.ownsRow wA.heap.size 37 7 v73 k ((usp.take k).flatMap csC) := h73
      have h80 : Row w1 7 v80 (pl - m) ((usp.drop m).flatMap csC) := h80
      have H73 := Lib.hid h73
      have H80 := Lib.hid h80
      have HX1 := Lib.hid (HW.out.trans hx1)
      have HB := Lib.hid (Nat.le_trans HW.out.size hx1.size)
      have HBB := Lib.hid hx1.size
      clear h72 h73 h80 hx1
      have hb1 : (k + (pl - m)) * 88 ≤ 140737488355328 := by omega
      have hb2 : k + (pl - m) ≤ maxLen := by unfold maxLen; omega
      go_upto_region 10 with (at_builtin; (refine wpList_append_row 23 37 (.tmp 73) (.tmp 80) rfl wA.heap.size _ 7 88 Tryz.underlying23 info37u rfl (by decide) rfl _ k ((usp.take k).flatMap csC) rfl H73.out (pl - m) ((usp.drop m).flatMap csC) H80.out ONE2.out hb1 hb2 HBB.out ?_); intro v2 w2 ho2 hg2; have HO2 := Lib.hid ho2; have HG2 := Lib.hid hg2; clear ho2 hg2)
      have hw : Ext w w2 := HX1.out.grown_none HG2.out (fun q hq => Nat.le_trans HW.out.size (own_base H73.out q hq))
      have hLS : PredR w2 v2 (p.take k ++ p.drop (k + 1)) := by
        have hr := Row.of_own HO2.out
        rw [← List.flatMap_append] at hr
        refine us_pred (us := usp.take k) (vs := usp.drop m) (by rw [List.map_take, HMP.out]) (by rw [List.map_drop, HMP.out]; exact less_drop p k m (by rw [HM.out, ← PL.out, ← HMP.out, List.length_map])) (sets_take HSP.out k) (sets_drop HSP.out m) hw hr ?_
        rw [List.length_append, List.length_take, List.length_drop, PL.out, Nat.min_eq_left hkl]
      have hc := CLP.out k _ _ hLS hw
      rw [LL.out k] at hc
      have HC := Lib.hid hc
      obtain ⟨a2, c2, rfl, _, _⟩ := Row.shape (Row.of_own HO2.out)
      clear hLS hc HO2 HG2 H73 H80 ONE1 ONE2 HW HX1 HB HBB hb1 hb2
      go_upto_region 12 with ((with_reducible refine HC.out.mono ?_); rintro e w1 ⟨rfl, hx⟩; have hw := hw.trans hx; clear hx)
      clear HC CLP
      cases mq with
      | false =>
        go_wp2_with (first | ((with_reducible refine (CPQ.out _ hw).mono ?_); rintro e w1 ⟨rfl, hx⟩; have hw := hw.trans hx; clear hx) | ((with_reducible refine (CQR.out _ hw).mono ?_); rintro e w1 ⟨rfl, hx⟩; have hw := hw.trans hx; clear hx) | ((with_reducible refine (CPR.out _ hw).mono ?_); rintro e w1 ⟨rfl, hx⟩; have hw := hw.trans hx; clear hx) | ((with_reducible refine (CPP.out _ hw).mono ?_); rintro e w1 ⟨rfl, hx⟩; have hw := hw.trans hx; clear hx) | ((with_reducible refine (CNP.out _ hw).mono ?_); rintro e w1 ⟨rfl, hx⟩; have hw := hw.trans hx; clear hx) | ((with_reducible refine (MP.out _ hw).mono ?_); rintro e w1 ⟨rfl, hx⟩; have hw := hw.trans hx; clear hx) | ((with_reducible refine (MQ.out _ hw).mono ?_); rintro e w1 ⟨rfl, hx⟩; have hw := hw.trans hx; clear hx) | ((with_reducible refine (wakes05_any _).mono ?_); rintro e w1 ⟨rfl, hx⟩; have hw := hw.trans hx; clear hx))
        go_ret
        exact ⟨rfl, hw⟩
      | true =>
        have hql : ql ≤ 6 := by have h1 := MQL.out rfl; have h2 := LQ.out; omega
        by_cases hs : pl + ql ≤ 6
        · have hs1 : decide ((6 : Int) < (pl : Int) + (ql : Int)) = false := decide_eq_false (by omega)
          have ONE1 := Lib.hid HO1.out
          have hbo := hw.size
          have hpq : p.length + q.length ≤ 6 := by have h1 := LP.out; have h2 := LQ.out; omega
          have B1 := Lib.hid (BP.out rfl hpq)
          have B2 := Lib.hid (BQ.out rfl hpq)
          have B3 := Lib.hid (BB.out rfl hpq)
          clear hpq
          go_upto_region 14 with (first | ((with_reducible refine (CPQ.out _ hw).mono ?_); rintro e w1 ⟨rfl, hx⟩; have hw := hw.trans hx; clear hx) | ((with_reducible refine (CQR.out _ hw).mono ?_); rintro e w1 ⟨rfl, hx⟩; have hw := hw.trans hx; clear hx) | ((with_reducible refine (CPR.out _ hw).mono ?_); rintro e w1 ⟨rfl, hx⟩; have hw := hw.trans hx; clear hx) | ((with_reducible refine (CPP.out _ hw).mono ?_); rintro e w1 ⟨rfl, hx⟩; have hw := hw.trans hx; clear hx) | ((with_reducible refine (CNP.out _ hw).mono ?_); rintro e w1 ⟨rfl, hx⟩; have hw := hw.trans hx; clear hx) | ((with_reducible refine (MP.out _ hw).mono ?_); rintro e w1 ⟨rfl, hx⟩; have hw := hw.trans hx; clear hx) | ((with_reducible refine (MQ.out _ hw).mono ?_); rintro e w1 ⟨rfl, hx⟩; have hw := hw.trans hx; clear hx) | ((with_reducible refine (wakes05_any _).mono ?_); rintro e w1 ⟨rfl, hx⟩; have hw := hw.trans hx; clear hx))
          obtain ⟨wB, rfl⟩ : ∃ x : World, x = w1 := ⟨_, rfl⟩
          have hR1 := HRP.out.ext hw
          have HR1 := Lib.hid hR1
          have hb1 : (0 + pl) * 88 ≤ 140737488355328 := by omega
          have hb2 : 0 + pl ≤ maxLen := by unfold maxLen; omega
          have hb3 : (0 + pl + ql) * 88 ≤ 140737488355328 := by omega
          have hb4 : 0 + pl + ql ≤ maxLen := by unfold maxLen; omega
          clear hR1
          have HW := Lib.hid hw
          clear hw
          go_upto_region 15 with (first | (at_builtin; (refine wpList_append_row 23 37 (.const (.slice none 0 0)) (.tmp 98) rfl wB.heap.size _ 7 88 Tryz.underlying23 info37u rfl (by decide) rfl (.slice none 0 0) 0 [] rfl (own_none2 _ _ _ _) pl (usp.flatMap csC) HR1.out HO1.out hb1 hb2 (Nat.le_refl _) ?_); intro v3 w3 ho3 hg3; have HO3 := Lib.hid ho3; have HX3 := Lib.hid ((Ext.refl wB).grown_none (v := .slice none 0 0) hg3 (fun q hq => by cases hq)); have HR2 := Lib.hid (HRQ.out.ext (HW.out.trans HX3.out)); have HZ3 := Lib.hid HX3.out.size; clear ho3 hg3) | (at_builtin; (refine wpList_append_row 23 37 (.tmp 99) (.tmp 100) rfl wB.heap.size _ 7 88 Tryz.underlying23 info37u rfl (by decide) rfl _ (0 + pl) ([] ++ usp.flatMap csC) rfl HO3.out ql (usq.flatMap csC) HR2.out HO2.out hb3 hb4 HZ3.out ?_); intro v4 w4 ho4 hg4; have HO4 := Lib.hid ho4; have HX4 := Lib.hid (HX3.out.grown_none hg4 (own_base HO3.out)); clear ho4 hg4))
          have hw := HW.out.trans HX4.out
          have hBP : PredR w4 v4 (p ++ q) := by
            have hr := Row.of_own HO4.out
            rw [Nat.zero_add, List.nil_append, ← List.flatMap_append] at hr
            exact us_pred HMP.out HMQ.out HSP.out HSQ.out hw hr (by rw [List.length_append, PL.out, QL.out])
          have hsh := Row.shape (Row.of_own HO4.out)
          rw [Nat.zero_add] at hsh
          obtain ⟨a4, c4, rfl, _, _⟩ := hsh
          have HBP := Lib.hid hBP
          have hwn := Ext.refl w4
          rw [B1.out] at CPB
          rw [B2.out] at CQB
          rw [B3.out] at CBR
          clear hBP HO4 HX4 HO3 HX3 HR1 HR2 HW HZ3 hb1 hb2 hb3 hb4 hs1 hs
          cases cpr <;> cases cqr <;>
            (go_wp2_with (first | ((with_reducible refine (CPB.out _ _ HBP.out _ hwn hw).mono ?_); rintro e w1 ⟨rfl, hx⟩; have hw := hw.trans hx; have hwn := hwn.trans hx; clear hx) | ((with_reducible refine (CQB.out _ _ HBP.out _ hwn hw).mono ?_); rintro e w1 ⟨rfl, hx⟩; have hw := hw.trans hx; have hwn := hwn.trans hx; clear hx) | ((with_reducible refine (CBR.out _ _ HBP.out _ hwn hw).mono ?_); rintro e w1 ⟨rfl, hx⟩; have hw := hw.trans hx; have hwn := hwn.trans hx; clear hx) | ((with_reducible refine (CPR.out _ hw).mono ?_); rintro e w1 ⟨rfl, hx⟩; have hw := hw.trans hx; have hwn := hwn.trans hx; clear hx) | ((with_reducible refine (CQR.out _ hw).mono ?_); rintro e w1 ⟨rfl, hx⟩; have hw := hw.trans hx; have hwn := hwn.trans hx; clear hx) | ((with_reducible refine (wakes05_any _).mono ?_); rintro e w1 ⟨rfl, hx⟩; have hw := hw.trans hx; clear hx))
             go_ret
             exact ⟨rfl, hw⟩)
        · have hs1 : decide ((6 : Int) < (pl : Int) + (ql : Int)) = true := decide_eq_true (by omega)
          go_wp2_with (first | ((with_reducible refine (CPQ.out _ hw).mono ?_); rintro e w1 ⟨rfl, hx⟩; have hw := hw.trans hx; clear hx) | ((with_reducible refine (CQR.out _ hw).mono ?_); rintro e w1 ⟨rfl, hx⟩; have hw := hw.trans hx; clear hx) | ((with_reducible refine (CPR.out _ hw).mono ?_); rintro e w1 ⟨rfl, hx⟩; have hw := hw.trans hx; clear hx) | ((with_reducible refine (CPP.out _ hw).mono ?_); rintro e w1 ⟨rfl, hx⟩; have hw := hw.trans hx; clear hx) | ((with_reducible refine (CNP.out _ hw).mono ?_); rintro e w1 ⟨rfl, hx⟩; have hw := hw.trans hx; clear hx) | ((with_reducible refine (MP.out _ hw).mono ?_); rintro e w1 ⟨rfl, hx⟩; have hw := hw.trans hx; clear hx) | ((with_reducible refine (MQ.out _ hw).mono ?_); rintro e w1 ⟨rfl, hx⟩; have hw := hw.trans hx; clear hx) | ((with_reducible refine (wakes05_any _).mono ?_); rintro e w1 ⟨rfl, hx⟩; have hw := hw.trans hx; clear hx))
          go_ret
          exact ⟨rfl, hw⟩
  | true =>
    cases cqr with
    | false =>
      go_upto_region 5 with (first | ((with_reducible refine (CPQ.out _ hw).mono ?_); rintro e w1 ⟨rfl, hx⟩; have hw := hw.trans hx; clear hx) | ((with_reducible refine (CQR.out _ hw).mono ?_); rintro e w1 ⟨rfl, hx⟩; have hw := hw.trans hx; clear hx) | ((with_reducible refine (CPR.out _ hw).mono ?_); rintro e w1 ⟨rfl, hx⟩; have hw := hw.trans hx; clear hx) | ((with_reducible refine (CPP.out _ hw).mono ?_); rintro e w1 ⟨rfl, hx⟩; have hw := hw.trans hx; clear hx) | ((with_reducible refine (CNP.out _ hw).mono ?_); rintro e w1 ⟨rfl, hx⟩; have hw := hw.trans hx; clear hx) | ((with_reducible refine (MP.out _ hw).mono ?_); rintro e w1 ⟨rfl, hx⟩; have hw := hw.trans hx; clear hx) | ((with_reducible refine (MQ.out _ hw).mono ?_); rintro e w1 ⟨rfl, hx⟩; have hw := hw.trans hx; clear hx) | ((with_reducible refine (wakes05_any _).mono ?_); rintro e w1 ⟨rfl, hx⟩; have hw := hw.trans hx; clear hx))
      go_upto_region 6 with ((with_reducible refine (NP.out _ hw).mono ?_); rintro e w1 ⟨vn, usn, rfl, hn1, hn2, hn3, hx⟩; obtain ⟨an, cn, rfl, _, _⟩ := Row.shape (Row.of_own hn2); have HN := Lib.hid (show PredR w1 _ (normP p) from hn1 ▸ PredR.mk usn (Row.of_own hn2) (fun x hx => (hn3 x hx).set)); have hw := hw.trans hx; have hwn := Ext.refl w1; clear hx hn1 hn2 hn3)
      go_upto_region 9 with (first | ((with_reducible refine (CNN.out _ _ HN.out _ hwn hw).mono ?_); rintro e w1 ⟨rfl, hx⟩; have hw := hw.trans hx; have hwn := hwn.trans hx; clear hx) | ((with_reducible refine (CPN.out _ _ HN.out _ hwn hw).mono ?_); rintro e w1 ⟨rfl, hx⟩; have hw := hw.trans hx; have hwn := hwn.trans hx; clear hx) | ((with_reducible refine (CNP.out _ hw).mono ?_); rintro e w1 ⟨rfl, hx⟩; have hw := hw.trans hx; have hwn := hwn.trans hx; clear hx))
      clear hwn HN
      obtain ⟨wA, rfl⟩ : ∃ x : World, x = w1 := ⟨_, rfl⟩
      have HW := Lib.hid hw
      clear hw
      simp only [qk]
      obtain ⟨m, hmm⟩ : ∃ m, m = min pl (k + 1) := ⟨_, rfl⟩
      have hml : m ≤ pl := by omega
      have qm : min (pl : Int) ((k : Int) + 1) = (m : Int) := by omega
      have HM := Lib.hid hmm
      have QM := Lib.hid qm
      clear hmm qm
      have ONE1 := Lib.hid (sets_one (sets_take HSP.out k))
      have ONE2 := Lib.hid (sets_one (sets_drop HSP.out m))
      have qm2 := QM.out
      refine wp_region_chain 11 [Fact.eq (.slice ap pl cp),
          Fact.eq (.int .i64 k),
          Fact.rowC k ((usp.take k).flatMap csC),
          Fact.ownC wA.heap.size k ((usp.take k).flatMap csC),
          Fact.eq (.slice ap pl cp),
          Fact.eq (.slice ap pl cp),
          Fact.eq (.int .i64 pl),
          Fact.eq (.int .i64 k),
          Fact.eq (.int .i64 ((k : Int) + 1)),
          Fact.eq (.int .i64 m),
          Fact.rowC (pl - m) ((usp.drop m).flatMap csC)]
        [[], [], [(0, 70), (1, 71)], [(2, 72)], [], [], [(5, 75)], [], [(7, 77)], [(6, 76), (8, 78)], [(4, 74), (9, 79)]]
        [(0, 70), (1, 71), (2, 72), (3, 73), (4, 74), (5, 75), (6, 76), (7, 77), (8, 78), (9, 79), (10, 80)] (by kernel_rfl) (by kernel_rfl) ?_ ?_
      · refine ⟨?_, ?_, ?_, ?_, ?_, ?_, ?_, ?_, ?_, ?_, ?_, trivial⟩
        · intro w1 hx1; change wpList _ _ _ _ _ _; exact ob_move rfl rfl rfl rfl rfl
        · intro w1 hx1; change wpList _ _ _ _ _ _; exact ob_move rfl rfl rfl rfl rfl
        · intro w1 hx1; rintro _ rfl; rintro _ rfl; change wpList _ _ _ _ _ _; refine rowCut 23 (.tmp 70) none (some (.tmp 71)) usp pl 0 k rfl Tryz.underlying23 info37s rfl (HRP.out.ext (HW.out.trans hx1)) rfl ⟨_, _, rfl, by omega, by omega⟩ (Nat.zero_le _) hkl (fun v hv => ?_); exact wpList_nil ⟨rfl, Ext.refl _, rfl, hv⟩
        · intro w1 hx1; intro v72 h72; change wpList _ _ _ _ _ _; refine wpList_append_row 23 37 (.const (.slice none 0 0)) (.tmp 72) rfl _ _ 7 88 Tryz.underlying23 info37u rfl (by decide) rfl (.slice none 0 0) 0 [] rfl (own_none2 _ _ _ _) k ((usp.take k).flatMap csC) h72 ONE1.out (by omega) (by unfold maxLen; omega) hx1.size ?_; intro v2 w2 ho2 hg2; exact wpList_nil ⟨rfl, (Ext.refl _).grown_none (v := .slice none 0 0) hg2 (fun q hq => by cases hq), rfl, own_zero ho2⟩
        · intro w1 hx1; change wpList _ _ _ _ _ _; exact ob_move rfl rfl rfl rfl rfl
        · intro w1 hx1; change wpList _ _ _ _ _ _; exact ob_move rfl rfl rfl rfl rfl
        · intro w1 hx1; rintro _ rfl; change wpList _ _ _ _ _ _; go_wp2_with fail; exact ⟨rfl, Ext.refl _, rfl, rfl⟩
        · intro w1 hx1; change wpList _ _ _ _ _ _; exact ob_move rfl rfl rfl rfl rfl
        · intro w1 hx1; rintro _ rfl; change wpList _ _ _ _ _ _; go_wp2_with fail; exact ⟨rfl, Ext.refl _, rfl, rfl⟩
        · intro w1 hx1; rintro _ rfl; rintro _ rfl; change wpList _ _ _ _ _ _; go_wp2_with fail; exact ⟨rfl, Ext.refl _, rfl, rfl⟩
        · intro w1 hx1; rintro _ rfl; rintro _ rfl; change wpList _ _ _ _ _ _; refine rowCut 23 (.tmp 74) (some (.tmp 79)) none usp pl m pl rfl Tryz.underlying23 info37s rfl (HRP.out.ext (HW.out.trans hx1)) ⟨_, _, rfl, by omega, by omega⟩ rfl hml (Nat.le_refl _) (fun v hv => ?_); exact wpList_nil ⟨rfl, Ext.refl _, rfl, drop_row PL.out hv⟩
      · intro w1 hx1; rintro _ rfl; rintro _ rfl; intro v72 h72; intro v73 h73; rintro _ rfl; rintro _ rfl; rintro _ rfl; rintro _ rfl; rintro _ rfl; rintro _ rfl; intro v80 h80; refine depsThen_nil ?_; dsimp only; simp only [Act.put, List.setIfInBounds_toArray, List.set_cons_zero, List.set_cons_succ, List.drop_succ_cons, List.drop_zero]
        replace h72 : (Fact.rowC k ((usp.take k).flatMap csC)).p v72 w1 := h72
        replace h73 : (Fact.ownC wA.heap.size k ((usp.take k).flatMap csC)).p v73 w1 := h73
        replace h80 : (Fact.rowC (pl - m) ((usp.drop m).flatMap csC)).p v80 w1 := h80
        have h72 : Row w1 7 v72 k ((usp.take k).flatMap csC) := h72
        have h73 : w1.ownsRow wA.heap.size 37 7 v73 k ((usp.take k).flatMap csC) := h73
        have h80 : Row w1 7 v80 (pl - m) ((usp.drop m).flatMap csC) := h80
        have H73 := Lib.hid h73
        have H80 := Lib.hid h80
        have HX1 := Lib.hid (HW.out.trans hx1)
        have HB := Lib.hid (Nat.le_trans HW.out.size hx1.size)
        have HBB := Lib.hid hx1.size
        clear h72 h73 h80 hx1
        have hb1 : (k + (pl - m)) * 88 ≤ 140737488355328 := by omega
        have hb2 : k + (pl - m) ≤ maxLen := by unfold maxLen; omega
        go_upto_region 10 with (at_builtin; (refine wpList_append_row 23 37 (.tmp 73) (.tmp 80) rfl wA.heap.size _ 7 88 Tryz.underlying23 info37u rfl (by decide) rfl _ k ((usp.take k).flatMap csC) rfl H73.out (pl - m) ((usp.drop m).flatMap csC) H80.out ONE2.out hb1 hb2 HBB.out ?_); intro v2 w2 ho2 hg2; have HO2 := Lib.hid ho2; have HG2 := Lib.hid hg2; clear ho2 hg2)
        have hw : Ext w w2 := HX1.out.grown_none HG2.out (fun q hq => Nat.le_trans HW.out.size (own_base H73.out q hq))
        have hLS : PredR w2 v2 (p.take k ++ p.drop (k + 1)) := by
          have hr := Row.of_own HO2.out
          rw [← List.flatMap_append] at hr
          refine us_pred (us := usp.take k) (vs := usp.drop m) (by rw [List.map_take, HMP.out]) (by rw [List.map_drop, HMP.out]; exact less_drop p k m (by rw [HM.out, ← PL.out, ← HMP.out, List.length_map])) (sets_take HSP.out k) (sets_drop HSP.out m) hw hr ?_
          rw [List.length_append, List.length_take, List.length_drop, PL.out, Nat.min_eq_left hkl]
        have hc := CLP.out k _ _ hLS hw
        rw [LL.out k] at hc
        have HC := Lib.hid hc
        obtain ⟨a2, c2, rfl, _, _⟩ := Row.shape (Row.of_own HO2.out)
        clear hLS hc HO2 HG2 H73 H80 ONE1 ONE2 HW HX1 HB HBB hb1 hb2
        go_upto_region 12 with ((with_reducible refine HC.out.mono ?_); rintro e w1 ⟨rfl, hx⟩; have hw := hw.trans hx; clear hx)
        clear HC CLP
        cases mq with
        | false =>
          go_wp2_with (first | ((with_reducible refine (CPQ.out _ hw).mono ?_); rintro e w1 ⟨rfl, hx⟩; have hw := hw.trans hx; clear hx) | ((with_reducible refine (CQR.out _ hw).mono ?_); rintro e w1 ⟨rfl, hx⟩; have hw := hw.trans hx; clear hx) | ((with_reducible refine (CPR.out _ hw).mono ?_); rintro e w1 ⟨rfl, hx⟩; have hw := hw.trans hx; clear hx) | ((with_reducible refine (CPP.out _ hw).mono ?_); rintro e w1 ⟨rfl, hx⟩; have hw := hw.trans hx; clear hx) | ((with_reducible refine (CNP.out _ hw).mono ?_); rintro e w1 ⟨rfl, hx⟩; have hw := hw.trans hx; clear hx) | ((with_reducible refine (MP.out _ hw).mono ?_); rintro e w1 ⟨rfl, hx⟩; have hw := hw.trans hx; clear hx) | ((with_reducible refine (MQ.out _ hw).mono ?_); rintro e w1 ⟨rfl, hx⟩; have hw := hw.trans hx; clear hx) | ((with_reducible refine (wakes05_any _).mono ?_); rintro e w1 ⟨rfl, hx⟩; have hw := hw.trans hx; clear hx))
          go_ret
          exact ⟨rfl, hw⟩
        | true =>
          have hql : ql ≤ 6 := by have h1 := MQL.out rfl; have h2 := LQ.out; omega
          by_cases hs : pl + ql ≤ 6
          · have hs1 : decide ((6 : Int) < (pl : Int) + (ql : Int)) = false := decide_eq_false (by omega)
            have ONE1 := Lib.hid HO1.out
            have hbo := hw.size
            have hpq : p.length + q.length ≤ 6 := by have h1 := LP.out; have h2 := LQ.out; omega
            have B1 := Lib.hid (BP.out rfl hpq)
            have B2 := Lib.hid (BQ.out rfl hpq)
            have B3 := Lib.hid (BB.out rfl hpq)
            clear hpq
            go_upto_region 14 with (first | ((with_reducible refine (CPQ.out _ hw).mono ?_); rintro e w1 ⟨rfl, hx⟩; have hw := hw.trans hx; clear hx) | ((with_reducible refine (CQR.out _ hw).mono ?_); rintro e w1 ⟨rfl, hx⟩; have hw := hw.trans hx; clear hx) | ((with_reducible refine (CPR.out _ hw).mono ?_); rintro e w1 ⟨rfl, hx⟩; have hw := hw.trans hx; clear hx) | ((with_reducible refine (CPP.out _ hw).mono ?_); rintro e w1 ⟨rfl, hx⟩; have hw := hw.trans hx; clear hx) | ((with_reducible refine (CNP.out _ hw).mono ?_); rintro e w1 ⟨rfl, hx⟩; have hw := hw.trans hx; clear hx) | ((with_reducible refine (MP.out _ hw).mono ?_); rintro e w1 ⟨rfl, hx⟩; have hw := hw.trans hx; clear hx) | ((with_reducible refine (MQ.out _ hw).mono ?_); rintro e w1 ⟨rfl, hx⟩; have hw := hw.trans hx; clear hx) | ((with_reducible refine (wakes05_any _).mono ?_); rintro e w1 ⟨rfl, hx⟩; have hw := hw.trans hx; clear hx))
            obtain ⟨wB, rfl⟩ : ∃ x : World, x = w1 := ⟨_, rfl⟩
            have hR1 := HRP.out.ext hw
            have HR1 := Lib.hid hR1
            have hb1 : (0 + pl) * 88 ≤ 140737488355328 := by omega
            have hb2 : 0 + pl ≤ maxLen := by unfold maxLen; omega
            have hb3 : (0 + pl + ql) * 88 ≤ 140737488355328 := by omega
            have hb4 : 0 + pl + ql ≤ maxLen := by unfold maxLen; omega
            clear hR1
            have HW := Lib.hid hw
            clear hw
            go_upto_region 15 with (first | (at_builtin; (refine wpList_append_row 23 37 (.const (.slice none 0 0)) (.tmp 98) rfl wB.heap.size _ 7 88 Tryz.underlying23 info37u rfl (by decide) rfl (.slice none 0 0) 0 [] rfl (own_none2 _ _ _ _) pl (usp.flatMap csC) HR1.out HO1.out hb1 hb2 (Nat.le_refl _) ?_); intro v3 w3 ho3 hg3; have HO3 := Lib.hid ho3; have HX3 := Lib.hid ((Ext.refl wB).grown_none (v := .slice none 0 0) hg3 (fun q hq => by cases hq)); have HR2 := Lib.hid (HRQ.out.ext (HW.out.trans HX3.out)); have HZ3 := Lib.hid HX3.out.size; clear ho3 hg3) | (at_builtin; (refine wpList_append_row 23 37 (.tmp 99) (.tmp 100) rfl wB.heap.size _ 7 88 Tryz.underlying23 info37u rfl (by decide) rfl _ (0 + pl) ([] ++ usp.flatMap csC) rfl HO3.out ql (usq.flatMap csC) HR2.out HO2.out hb3 hb4 HZ3.out ?_); intro v4 w4 ho4 hg4; have HO4 := Lib.hid ho4; have HX4 := Lib.hid (HX3.out.grown_none hg4 (own_base HO3.out)); clear ho4 hg4))
            have hw := HW.out.trans HX4.out
            have hBP : PredR w4 v4 (p ++ q) := by
              have hr := Row.of_own HO4.out
              rw [Nat.zero_add, List.nil_append, ← List.flatMap_append] at hr
              exact us_pred HMP.out HMQ.out HSP.out HSQ.out hw hr (by rw [List.length_append, PL.out, QL.out])
            have hsh := Row.shape (Row.of_own HO4.out)
            rw [Nat.zero_add] at hsh
            obtain ⟨a4, c4, rfl, _, _⟩ := hsh
            have HBP := Lib.hid hBP
            have hwn := Ext.refl w4
            rw [B1.out] at CPB
            rw [B2.out] at CQB
            rw [B3.out] at CBR
            clear hBP HO4 HX4 HO3 HX3 HR1 HR2 HW HZ3 hb1 hb2 hb3 hb4 hs1 hs
            cases cpr <;>
              (go_wp2_with (first | ((with_reducible refine (CPB.out _ _ HBP.out _ hwn hw).mono ?_); rintro e w1 ⟨rfl, hx⟩; have hw := hw.trans hx; have hwn := hwn.trans hx; clear hx) | ((with_reducible refine (CQB.out _ _ HBP.out _ hwn hw).mono ?_); rintro e w1 ⟨rfl, hx⟩; have hw := hw.trans hx; have hwn := hwn.trans hx; clear hx) | ((with_reducible refine (CBR.out _ _ HBP.out _ hwn hw).mono ?_); rintro e w1 ⟨rfl, hx⟩; have hw := hw.trans hx; have hwn := hwn.trans hx; clear hx) | ((with_reducible refine (CPR.out _ hw).mono ?_); rintro e w1 ⟨rfl, hx⟩; have hw := hw.trans hx; have hwn := hwn.trans hx; clear hx) | ((with_reducible refine (CQR.out _ hw).mono ?_); rintro e w1 ⟨rfl, hx⟩; have hw := hw.trans hx; have hwn := hwn.trans hx; clear hx) | ((with_reducible refine (wakes05_any _).mono ?_); rintro e w1 ⟨rfl, hx⟩; have hw := hw.trans hx; clear hx))
               go_ret
               exact ⟨rfl, hw⟩)
          · have hs1 : decide ((6 : Int) < (pl : Int) + (ql : Int)) = true := decide_eq_true (by omega)
            go_wp2_with (first | ((with_reducible refine (CPQ.out _ hw).mono ?_); rintro e w1 ⟨rfl, hx⟩; have hw := hw.trans hx; clear hx) | ((with_reducible refine (CQR.out _ hw).mono ?_); rintro e w1 ⟨rfl, hx⟩; have hw := hw.trans hx; clear hx) | ((with_reducible refine (CPR.out _ hw).mono ?_); rintro e w1 ⟨rfl, hx⟩; have hw := hw.trans hx; clear hx) | ((with_reducible refine (CPP.out _ hw).mono ?_); rintro e w1 ⟨rfl, hx⟩; have hw := hw.trans hx; clear hx) | ((with_reducible refine (CNP.out _ hw).mono ?_); rintro e w1 ⟨rfl, hx⟩; have hw := hw.trans hx; clear hx) | ((with_reducible refine (MP.out _ hw).mono ?_); rintro e w1 ⟨rfl, hx⟩; have hw := hw.trans hx; clear hx) | ((with_reducible refine (MQ.out _ hw).mono ?_); rintro e w1 ⟨rfl, hx⟩; have hw := hw.trans hx; clear hx) | ((with_reducible refine (wakes05_any _).mono ?_); rintro e w1 ⟨rfl, hx⟩; have hw := hw.trans hx; clear hx))
            go_ret
            exact ⟨rfl, hw⟩
    | true =>
      obtain rfl : cpr = true := TR.out rfl rfl
      go_upto_region 5 with (first | ((with_reducible refine (CPQ.out _ hw).mono ?_); rintro e w1 ⟨rfl, hx⟩; have hw := hw.trans hx; clear hx) | ((with_reducible refine (CQR.out _ hw).mono ?_); rintro e w1 ⟨rfl, hx⟩; have hw := hw.trans hx; clear hx) | ((with_reducible refine (CPR.out _ hw).mono ?_); rintro e w1 ⟨rfl, hx⟩; have hw := hw.trans hx; clear hx) | ((with_reducible refine (CPP.out _ hw).mono ?_); rintro e w1 ⟨rfl, hx⟩; have hw := hw.trans hx; clear hx) | ((with_reducible refine (CNP.out _ hw).mono ?_); rintro e w1 ⟨rfl, hx⟩; have hw := hw.trans hx; clear hx) | ((with_reducible refine (MP.out _ hw).mono ?_); rintro e w1 ⟨rfl, hx⟩; have hw := hw.trans hx; clear hx) | ((with_reducible refine (MQ.out _ hw).mono ?_); rintro e w1 ⟨rfl, hx⟩; have hw := hw.trans hx; clear hx) | ((with_reducible refine (wakes05_any _).mono ?_); rintro e w1 ⟨rfl, hx⟩; have hw := hw.trans hx; clear hx))
      go_upto_region 6 with ((with_reducible refine (NP.out _ hw).mono ?_); rintro e w1 ⟨vn, usn, rfl, hn1, hn2, hn3, hx⟩; obtain ⟨an, cn, rfl, _, _⟩ := Row.shape (Row.of_own hn2); have HN := Lib.hid (show PredR w1 _ (normP p) from hn1 ▸ PredR.mk usn (Row.of_own hn2) (fun x hx => (hn3 x hx).set)); have hw := hw.trans hx; have hwn := Ext.refl w1; clear hx hn1 hn2 hn3)
      go_upto_region 9 with (first | ((with_reducible refine (CNN.out _ _ HN.out _ hwn hw).mono ?_); rintro e w1 ⟨rfl, hx⟩; have hw := hw.trans hx; have hwn := hwn.trans hx; clear hx) | ((with_reducible refine (CPN.out _ _ HN.out _ hwn hw).mono ?_); rintro e w1 ⟨rfl, hx⟩; have hw := hw.trans hx; have hwn := hwn.trans hx; clear hx) | ((with_reducible refine (CNP.out _ hw).mono ?_); rintro e w1 ⟨rfl, hx⟩; have hw := hw.trans hx; have hwn := hwn.trans hx; clear hx))
      clear hwn HN
      obtain ⟨wA, rfl⟩ : ∃ x : World, x = w1 := ⟨_, rfl⟩
      have HW := Lib.hid hw
      clear hw
      simp only [qk]
      obtain ⟨m, hmm⟩ : ∃ m, m = min pl (k + 1) := ⟨_, rfl⟩
      have hml : m ≤ pl := by omega
      have qm : min (pl : Int) ((k : Int) + 1) = (m : Int) := by omega
      have HM := Lib.hid hmm
      have QM := Lib.hid qm
      clear hmm qm
      have ONE1 := Lib.hid (sets_one (sets_take HSP.out k))
      have ONE2 := Lib.hid (sets_one (sets_drop HSP.out m))
      have qm2 := QM.out
      refine wp_region_chain 11 [Fact.eq (.slice ap pl cp),
          Fact.eq (.int .i64 k),
          Fact.rowC k ((usp.take k).flatMap csC),
          Fact.ownC wA.heap.size k ((usp.take k).flatMap csC),
          Fact.eq (.slice ap pl cp),
          Fact.eq (.slice ap pl cp),
          Fact.eq (.int .i64 pl),
          Fact.eq (.int .i64 k),
          Fact.eq (.int .i64 ((k : Int) + 1)),
          Fact.eq (.int .i64 m),
          Fact.rowC (pl - m) ((usp.drop m).flatMap csC)]
        [[], [], [(0, 70), (1, 71)], [(2, 72)], [], [], [(5, 75)], [], [(7, 77)], [(6, 76), (8, 78)], [(4, 74), (9, 79)]]
        [(0, 70), (1, 71), (2, 72), (3, 73), (4, 74), (5, 75), (6, 76), (7, 77), (8, 78), (9, 79), (10, 80)] (by kernel_rfl) (by kernel_rfl) ?_ ?_
      · refine ⟨?_, ?_, ?_, ?_, ?_, ?_, ?_, ?_, ?_, ?_, ?_, trivial⟩
        · intro w1 hx1; change wpList _ _ _ _ _ _; exact ob_move rfl rfl rfl rfl rfl
        · intro w1 hx1; change wpList _ _ _ _ _ _; exact ob_move rfl rfl rfl rfl rfl
        · intro w1 hx1; rintro _ rfl; rintro _ rfl; change wpList _ _ _ _ _ _; refine rowCut 23 (.tmp 70) none (some (.tmp 71)) usp pl 0 k rfl Tryz.underlying23 info37s rfl (HRP.out.ext (HW.out.trans hx1)) rfl ⟨_, _, rfl, by omega, by omega⟩ (Nat.zero_le _) hkl (fun v hv => ?_); exact wpList_nil ⟨rfl, Ext.refl _, rfl, hv⟩
        · intro w1 hx1; intro v72 h72; change wpList _ _ _ _ _ _; refine wpList_append_row 23 37 (.const (.slice none 0 0)) (.tmp 72) rfl _ _ 7 88 Tryz.underlying23 info37u rfl (by decide) rfl (.slice none 0 0) 0 [] rfl (own_none2 _ _ _ _) k ((usp.take k).flatMap csC) h72 ONE1.out (by omega) (by unfold maxLen; omega) hx1.size ?_; intro v2 w2 ho2 hg2; exact wpList_nil ⟨rfl, (Ext.refl _).grown_none (v := .slice none 0 0) hg2 (fun q hq => by cases hq), rfl, own_zero ho2⟩
        · intro w1 hx1; change wpList _ _ _ _ _ _; exact ob_move rfl rfl rfl rfl rfl
        · intro w1 hx1; change wpList _ _ _ _ _ _; exact ob_move rfl rfl rfl rfl rfl
        · intro w1 hx1; rintro _ rfl; change wpList _ _ _ _ _ _; go_wp2_with fail; exact ⟨rfl, Ext.refl _, rfl, rfl⟩
        · intro w1 hx1; change wpList _ _ _ _ _ _; exact ob_move rfl rfl rfl rfl rfl
        · intro w1 hx1; rintro _ rfl; change wpList _ _ _ _ _ _; go_wp2_with fail; exact ⟨rfl, Ext.refl _, rfl, rfl⟩
        · intro w1 hx1; rintro _ rfl; rintro _ rfl; change wpList _ _ _ _ _ _; go_wp2_with fail; exact ⟨rfl, Ext.refl _, rfl, rfl⟩
        · intro w1 hx1; rintro _ rfl; rintro _ rfl; change wpList _ _ _ _ _ _; refine rowCut 23 (.tmp 74) (some (.tmp 79)) none usp pl m pl rfl Tryz.underlying23 info37s rfl (HRP.out.ext (HW.out.trans hx1)) ⟨_, _, rfl, by omega, by omega⟩ rfl hml (Nat.le_refl _) (fun v hv => ?_); exact wpList_nil ⟨rfl, Ext.refl _, rfl, drop_row PL.out hv⟩
      · intro w1 hx1; rintro _ rfl; rintro _ rfl; intro v72 h72; intro v73 h73; rintro _ rfl; rintro _ rfl; rintro _ rfl; rintro _ rfl; rintro _ rfl; rintro _ rfl; intro v80 h80; refine depsThen_nil ?_; dsimp only; simp only [Act.put, List.setIfInBounds_toArray, List.set_cons_zero, List.set_cons_succ, List.drop_succ_cons, List.drop_zero]
        replace h72 : (Fact.rowC k ((usp.take k).flatMap csC)).p v72 w1 := h72
        replace h73 : (Fact.ownC wA.heap.size k ((usp.take k).flatMap csC)).p v73 w1 := h73
        replace h80 : (Fact.rowC (pl - m) ((usp.drop m).flatMap csC)).p v80 w1 := h80
        have h72 : Row w1 7 v72 k ((usp.take k).flatMap csC) := h72
        have h73 : w1.ownsRow wA.heap.size 37 7 v73 k ((usp.take k).flatMap csC) := h73
        have h80 : Row w1 7 v80 (pl - m) ((usp.drop m).flatMap csC) := h80
        have H73 := Lib.hid h73
        have H80 := Lib.hid h80
        have HX1 := Lib.hid (HW.out.trans hx1)
        have HB := Lib.hid (Nat.le_trans HW.out.size hx1.size)
        have HBB := Lib.hid hx1.size
        clear h72 h73 h80 hx1
        have hb1 : (k + (pl - m)) * 88 ≤ 140737488355328 := by omega
        have hb2 : k + (pl - m) ≤ maxLen := by unfold maxLen; omega
        go_upto_region 10 with (at_builtin; (refine wpList_append_row 23 37 (.tmp 73) (.tmp 80) rfl wA.heap.size _ 7 88 Tryz.underlying23 info37u rfl (by decide) rfl _ k ((usp.take k).flatMap csC) rfl H73.out (pl - m) ((usp.drop m).flatMap csC) H80.out ONE2.out hb1 hb2 HBB.out ?_); intro v2 w2 ho2 hg2; have HO2 := Lib.hid ho2; have HG2 := Lib.hid hg2; clear ho2 hg2)
        have hw : Ext w w2 := HX1.out.grown_none HG2.out (fun q hq => Nat.le_trans HW.out.size (own_base H73.out q hq))
        have hLS : PredR w2 v2 (p.take k ++ p.drop (k + 1)) := by
          have hr := Row.of_own HO2.out
          rw [← List.flatMap_append] at hr
          refine us_pred (us := usp.take k) (vs := usp.drop m) (by rw [List.map_take, HMP.out]) (by rw [List.map_drop, HMP.out]; exact less_drop p k m (by rw [HM.out, ← PL.out, ← HMP.out, List.length_map])) (sets_take HSP.out k) (sets_drop HSP.out m) hw hr ?_
          rw [List.length_append, List.length_take, List.length_drop, PL.out, Nat.min_eq_left hkl]
        have hc := CLP.out k _ _ hLS hw
        rw [LL.out k] at hc
        have HC := Lib.hid hc
        obtain ⟨a2, c2, rfl, _, _⟩ := Row.shape (Row.of_own HO2.out)
        clear hLS hc HO2 HG2 H73 H80 ONE1 ONE2 HW HX1 HB HBB hb1 hb2
        go_upto_region 12 with ((with_reducible refine HC.out.mono ?_); rintro e w1 ⟨rfl, hx⟩; have hw := hw.trans hx; clear hx)
        clear HC CLP
        cases mq with
        | false =>
          go_wp2_with (first | ((with_reducible refine (CPQ.out _ hw).mono ?_); rintro e w1 ⟨rfl, hx⟩; have hw := hw.trans hx; clear hx) | ((with_reducible refine (CQR.out _ hw).mono ?_); rintro e w1 ⟨rfl, hx⟩; have hw := hw.trans hx; clear hx) | ((with_reducible refine (CPR.out _ hw).mono ?_); rintro e w1 ⟨rfl, hx⟩; have hw := hw.trans hx; clear hx) | ((with_reducible refine (CPP.out _ hw).mono ?_); rintro e w1 ⟨rfl, hx⟩; have hw := hw.trans hx; clear hx) | ((with_reducible refine (CNP.out _ hw).mono ?_); rintro e w1 ⟨rfl, hx⟩; have hw := hw.trans hx; clear hx) | ((with_reducible refine (MP.out _ hw).mono ?_); rintro e w1 ⟨rfl, hx⟩; have hw := hw.trans hx; clear hx) | ((with_reducible refine (MQ.out _ hw).mono ?_); rintro e w1 ⟨rfl, hx⟩; have hw := hw.trans hx; clear hx) | ((with_reducible refine (wakes05_any _).mono ?_); rintro e w1 ⟨rfl, hx⟩; have hw := hw.trans hx; clear hx))
          go_ret
          exact ⟨rfl, hw⟩
        | true =>
          have hql : ql ≤ 6 := by have h1 := MQL.out rfl; have h2 := LQ.out; omega
          by_cases hs : pl + ql ≤ 6
          · have hs1 : decide ((6 : Int) < (pl : Int) + (ql : Int)) = false := decide_eq_false (by omega)
            have ONE1 := Lib.hid HO1.out
            have hbo := hw.size
            have hpq : p.length + q.length ≤ 6 := by have h1 := LP.out; have h2 := LQ.out; omega
            have B1 := Lib.hid (BP.out rfl hpq)
            have B2 := Lib.hid (BQ.out rfl hpq)
            have B3 := Lib.hid (BB.out rfl hpq)
            clear hpq
            go_upto_region 14 with (first | ((with_reducible refine (CPQ.out _ hw).mono ?_); rintro e w1 ⟨rfl, hx⟩; have hw := hw.trans hx; clear hx) | ((with_reducible refine (CQR.out _ hw).mono ?_); rintro e w1 ⟨rfl, hx⟩; have hw := hw.trans hx; clear hx) | ((with_reducible refine (CPR.out _ hw).mono ?_); rintro e w1 ⟨rfl, hx⟩; have hw := hw.trans hx; clear hx) | ((with_reducible refine (CPP.out _ hw).mono ?_); rintro e w1 ⟨rfl, hx⟩; have hw := hw.trans hx; clear hx) | ((with_reducible refine (CNP.out _ hw).mono ?_); rintro e w1 ⟨rfl, hx⟩; have hw := hw.trans hx; clear hx) | ((with_reducible refine (MP.out _ hw).mono ?_); rintro e w1 ⟨rfl, hx⟩; have hw := hw.trans hx; clear hx) | ((with_reducible refine (MQ.out _ hw).mono ?_); rintro e w1 ⟨rfl, hx⟩; have hw := hw.trans hx; clear hx) | ((with_reducible refine (wakes05_any _).mono ?_); rintro e w1 ⟨rfl, hx⟩; have hw := hw.trans hx; clear hx))
            obtain ⟨wB, rfl⟩ : ∃ x : World, x = w1 := ⟨_, rfl⟩
            have hR1 := HRP.out.ext hw
            have HR1 := Lib.hid hR1
            have hb1 : (0 + pl) * 88 ≤ 140737488355328 := by omega
            have hb2 : 0 + pl ≤ maxLen := by unfold maxLen; omega
            have hb3 : (0 + pl + ql) * 88 ≤ 140737488355328 := by omega
            have hb4 : 0 + pl + ql ≤ maxLen := by unfold maxLen; omega
            clear hR1
            have HW := Lib.hid hw
            clear hw
            go_upto_region 15 with (first | (at_builtin; (refine wpList_append_row 23 37 (.const (.slice none 0 0)) (.tmp 98) rfl wB.heap.size _ 7 88 Tryz.underlying23 info37u rfl (by decide) rfl (.slice none 0 0) 0 [] rfl (own_none2 _ _ _ _) pl (usp.flatMap csC) HR1.out HO1.out hb1 hb2 (Nat.le_refl _) ?_); intro v3 w3 ho3 hg3; have HO3 := Lib.hid ho3; have HX3 := Lib.hid ((Ext.refl wB).grown_none (v := .slice none 0 0) hg3 (fun q hq => by cases hq)); have HR2 := Lib.hid (HRQ.out.ext (HW.out.trans HX3.out)); have HZ3 := Lib.hid HX3.out.size; clear ho3 hg3) | (at_builtin; (refine wpList_append_row 23 37 (.tmp 99) (.tmp 100) rfl wB.heap.size _ 7 88 Tryz.underlying23 info37u rfl (by decide) rfl _ (0 + pl) ([] ++ usp.flatMap csC) rfl HO3.out ql (usq.flatMap csC) HR2.out HO2.out hb3 hb4 HZ3.out ?_); intro v4 w4 ho4 hg4; have HO4 := Lib.hid ho4; have HX4 := Lib.hid (HX3.out.grown_none hg4 (own_base HO3.out)); clear ho4 hg4))
            have hw := HW.out.trans HX4.out
            have hBP : PredR w4 v4 (p ++ q) := by
              have hr := Row.of_own HO4.out
              rw [Nat.zero_add, List.nil_append, ← List.flatMap_append] at hr
              exact us_pred HMP.out HMQ.out HSP.out HSQ.out hw hr (by rw [List.length_append, PL.out, QL.out])
            have hsh := Row.shape (Row.of_own HO4.out)
            rw [Nat.zero_add] at hsh
            obtain ⟨a4, c4, rfl, _, _⟩ := hsh
            have HBP := Lib.hid hBP
            have hwn := Ext.refl w4
            rw [B1.out] at CPB
            rw [B2.out] at CQB
            rw [B3.out] at CBR
            clear hBP HO4 HX4 HO3 HX3 HR1 HR2 HW HZ3 hb1 hb2 hb3 hb4 hs1 hs
            go_wp2_with (first | ((with_reducible refine (CPB.out _ _ HBP.out _ hwn hw).mono ?_); rintro e w1 ⟨rfl, hx⟩; have hw := hw.trans hx; have hwn := hwn.trans hx; clear hx) | ((with_reducible refine (CQB.out _ _ HBP.out _ hwn hw).mono ?_); rintro e w1 ⟨rfl, hx⟩; have hw := hw.trans hx; have hwn := hwn.trans hx; clear hx) | ((with_reducible refine (CBR.out _ _ HBP.out _ hwn hw).mono ?_); rintro e w1 ⟨rfl, hx⟩; have hw := hw.trans hx; have hwn := hwn.trans hx; clear hx) | ((with_reducible refine (CPR.out _ hw).mono ?_); rintro e w1 ⟨rfl, hx⟩; have hw := hw.trans hx; have hwn := hwn.trans hx; clear hx) | ((with_reducible refine (CQR.out _ hw).mono ?_); rintro e w1 ⟨rfl, hx⟩; have hw := hw.trans hx; have hwn := hwn.trans hx; clear hx) | ((with_reducible refine (wakes05_any _).mono ?_); rintro e w1 ⟨rfl, hx⟩; have hw := hw.trans hx; clear hx))
            go_ret
            exact ⟨rfl, hw⟩
          · have hs1 : decide ((6 : Int) < (pl : Int) + (ql : Int)) = true := decide_eq_true (by omega)
            go_wp2_with (first | ((with_reducible refine (CPQ.out _ hw).mono ?_); rintro e w1 ⟨rfl, hx⟩; have hw := hw.trans hx; clear hx) | ((with_reducible refine (CQR.out _ hw).mono ?_); rintro e w1 ⟨rfl, hx⟩; have hw := hw.trans hx; clear hx) | ((with_reducible refine (CPR.out _ hw).mono ?_); rintro e w1 ⟨rfl, hx⟩; have hw := hw.trans hx; clear hx) | ((with_reducible refine (CPP.out _ hw).mono ?_); rintro e w1 ⟨rfl, hx⟩; have hw := hw.trans hx; clear hx) | ((with_reducible refine (CNP.out _ hw).mono ?_); rintro e w1 ⟨rfl, hx⟩; have hw := hw.trans hx; clear hx) | ((with_reducible refine (MP.out _ hw).mono ?_); rintro e w1 ⟨rfl, hx⟩; have hw := hw.trans hx; clear hx) | ((with_reducible refine (MQ.out _ hw).mono ?_); rintro e w1 ⟨rfl, hx⟩; have hw := hw.trans hx; clear hx) | ((with_reducible refine (wakes05_any _).mono ?_); rintro e w1 ⟨rfl, hx⟩; have hw := hw.trans hx; clear hx))
            go_ret
            exact ⟨rfl, hw⟩

theorem coverOrder_walk (w : World) (vp vq vr : Value) (p q r : List C) (n : Nat) (hp : PredR w vp p) (hq : PredR w vq q) (hr : PredR w vr r) (kp : ∀ c ∈ p, okC c) (kq : ∀ c ∈ q, okC c) (kr : ∀ c ∈ r, okC c) (hn : n < 256) :
    Calls Tryz.prog 4 #[vp, vq, vr, .int .u8 n] w fun e w' => e = .returned (.bool true) ∧ Ext w w' := by
  cases hm : mayP p with
  | false => exact corder_no w vp vq vr p q r n hp hq hr kp kq hm
  | true => exact corder_yes w vp vq vr p q r n hp hq hr kp kq kr hn hm
end Go.Proofs.YtcgflkfbjnpdiaaGreat
