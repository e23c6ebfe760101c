/- The law's records and the reference's, walked: Theirs, Ours, the reference's Same (of the same lists). -/
import Derived.Test.YtkaepcjkpaplfaaDoorP1
import Derived.BigQuiet
import Derived.Deep.RegionWith
import Derived.Deep.RegionLaw
namespace Go.Proofs.YtkaepcjkpaplfaaDoor
open Go.RowKit

theorem info36 : (Tryd.prog.info? 36).map (fun i => (i.zero, i.size, i.bytes)) = some (some (.agg #[.int .u64 0, .slice none 0 0]), 2, 32) := by kernel_rfl
theorem appT {ops : Array Oper} {Q : Exit → Act → World → Prop} {a : Act} {w : World} {rest : List Oper} {o : Oper}
    (s x : Operand) (ho : o.op = .call { callee := .builtin .append, args := #[s, x], argTypes := #[46, 46] })
    (hw : Region.wanted o (yielded ops a.tmps) = true) (base n : Nat) {xs news : List Value} (hs : w.ownsRow base 36 2 (a.eval s) n xs) (hx : Row w 2 (a.eval x) 1 news) (h1 : ∀ u ∈ news, u.oneCell' = true)
    (hlen : n ≤ 1000000000000) (hbase : base ≤ w.heap.size)
    (h : ∀ v' w', w'.ownsRow base 36 2 v' (n + 1) (xs ++ news) → w.grownBy w' (a.eval s).ownBlock → wpList Tryd.prog ops Q rest (a.put o.dst v') w') : wpList Tryd.prog ops Q (o :: rest) a w :=
  wpList_append_row 46 36 s x ho base (.agg #[.int .u64 0, .slice none 0 0]) 2 32 Tryd.underlying46 info36 rfl (by decide) hw _ n xs rfl hs 1 news hx h1 (by omega) (by simp only [maxLen]; omega) hbase h
theorem lit_recT (w : World) (u : RS) (t : TypeId) : Row (w.alloc (.cells #[.int .u64 u.n, .slice u.a u.m u.c] t)) 2 (.slice (some ⟨w.heap.size, 0, none⟩) 1 1) 1 u.cells := by
  refine ⟨rfl, some ⟨w.heap.size, 0, none⟩, 1, rfl, Nat.le_refl _, by decide, by simp, fun p hp _ => by cases hp; rfl, fun j x hj => ⟨_, rfl, ?_⟩⟩
  simp only [Nat.zero_add]
  rw [cell_of_row _ _ _ _ _ _ (heap_alloc_new _ _)]
  match j, hj with
  | 0, hj => simpa [RS.cells] using hj
  | 1, hj => simpa [RS.cells] using hj
  | j + 2, hj => simp [RS.cells] at hj
theorem one_rec (u : RS) : ∀ x ∈ u.cells, x.oneCell' = true := by intro x hx; simp [RS.cells] at hx; rcases hx with rfl | rfl <;> rfl

/-- Records whose data can be read, by their values. -/
def RecR (W : World) (us : List RS) (xs : List (Nat × List UInt8)) : Prop :=
  us.length = xs.length ∧ ∀ (i : Nat) (u : RS) (x : Nat × List UInt8), us[i]? = some u → xs[i]? = some x → x.1 = u.n ∧ Bytes W (.slice u.a u.m u.c) x.2
theorem RecR.ext {W W' : World} {us : List RS} {xs : List (Nat × List UInt8)} (h : RecR W us xs) (hx : Ext W W') : RecR W' us xs :=
  ⟨h.1, fun i u x h1 h2 => ⟨(h.2 i u x h1 h2).1, (h.2 i u x h1 h2).2.ext hx⟩⟩
theorem RecR.snoc {W : World} {us : List RS} {xs : List (Nat × List UInt8)} (h : RecR W us xs) {u : RS} {x : Nat × List UInt8} (h1 : x.1 = u.n) (h2 : Bytes W (.slice u.a u.m u.c) x.2) : RecR W (us ++ [u]) (xs ++ [x]) := by
  refine ⟨by simp [h.1], fun i v y hv hy => ?_⟩
  by_cases hi : i < us.length
  · rw [List.getElem?_append_left hi] at hv
    rw [List.getElem?_append_left (by rw [← h.1]; exact hi)] at hy
    exact h.2 i v y hv hy
  · have hl := h.1
    rw [List.getElem?_append_right (by omega)] at hv hy
    rw [hl] at hv
    cases hj : i - xs.length with
    | zero =>
      rw [hj] at hv hy
      simp at hv hy
      subst hv; subst hy
      exact ⟨h1, h2⟩
    | succ j => rw [hj] at hv; simp at hv
theorem RecR.lst {W : World} {base : Nat} {t : TypeId} {v : Value} {us : List RS} {xs : List (Nat × List UInt8)} (h : RecR W us xs) (ho : W.ownsRow base t 2 v us.length (rsC us)) : Lst W v xs :=
  ⟨us, Row.of_own ho, h.1, h.2⟩
set_option maxRecDepth 100000 in
set_option maxHeartbeats 4000000 in
theorem theirs_any (w : World) (v : Value) (xs : List (Nat × List UInt8)) (h : Lst w v xs) (hn : xs.length ≤ 100000000000) :
    Calls Tryd.prog 21 #[v] w fun e W => ∃ v', e = .returned v' ∧ Lst W v' xs ∧ Ext w W := by
  obtain ⟨a, cap, rfl, hc, hm⟩ := h.shape
  unfold maxLen at hm
  generalize hln : xs.length = ln at *
  have HLN := Lib.hid hln
  clear hln
  go_enter Tryd.func21, Tryd.ntmps21
  go_wp2_with fail
  go_loopw [3, 8] (fun vo i wr => ∃ (k : Nat) (us : List RS), k ≤ ln ∧ i = .int .i64 k ∧ us.length ≤ k ∧ wr.ownsRow w.heap.size 36 2 vo us.length (rsC us) ∧ RecR w us (xs.take k) ∧ Ext w wr) (fun _ i _ => ln - (intOf i).toNat)
  case atStart => exact ⟨0, [], Nat.zero_le _, rfl, Nat.zero_le _, World.ownsRow_nil _ _ _ _, ⟨rfl, by simp⟩, Ext.refl _⟩
  case round =>
    obtain ⟨k, us, hk, rfl, hu, ho, hr, hx⟩ := hrel
    obtain ⟨ao, co, rfl⟩ := own_slice ho
    by_cases hlt : k < ln
    · have k1 : k < xs.length := by rw [HLN.out]; exact hlt
      obtain ⟨B1, o1, ad1, cc1, rfl, f1, f2, f3⟩ := h.at k1
      have hsn : Hid (xs.take (k + 1) = xs.take k ++ [xs[k]]) := List.take_succ_eq_append_getElem k1
      generalize xs[k] = x at *
      have F1 := hx.cell f1
      have F2 := hx.cell f2
      have hxa : Ext wr (wr.alloc (.cells #[.int .u64 x.1, .slice ad1 x.2.length cc1] 40)) := (Ext.refl wr).alloc _
      have c0 : (wr.alloc (.cells #[.int .u64 x.1, .slice ad1 x.2.length cc1] 40)).cell? ⟨wr.heap.size, 0, none⟩ = some (.int .u64 x.1) := cell_of_row _ wr.heap.size 0 _ _ _ (heap_alloc_new _ _)
      have c1 : (wr.alloc (.cells #[.int .u64 x.1, .slice ad1 x.2.length cc1] 40)).cell? ⟨wr.heap.size, 1, none⟩ = some (.slice ad1 x.2.length cc1) := cell_of_row _ wr.heap.size 1 _ _ _ (heap_alloc_new _ _)
      go_upto_region 5 with fail
      generalize wr.alloc (.cells #[.int .u64 x.1, .slice ad1 x.2.length cc1] 40) = wa at *
      have hwl : Ext wr (wa.alloc (.cells #[.int .u64 x.1, .slice ad1 x.2.length cc1] 36)) := hxa.alloc _
      have hol := ownsRow_ext ho hwl
      have hlit := lit_recT wa ⟨x.1, ad1, x.2.length, cc1⟩ 36
      have hone := one_rec ⟨x.1, ad1, x.2.length, cc1⟩
      have hxl := hx.trans hwl
      have hu12 : us.length ≤ 1000000000000 := by omega
      have hszl := hxl.size
      have hr2 := hr.snoc (u := ⟨x.1, ad1, x.2.length, cc1⟩) (x := x) rfl f3
      rw [← hsn.out] at hr2
      have hul : Hid ((us ++ [(⟨x.1, ad1, x.2.length, cc1⟩ : RS)]).length = us.length + 1) := by show _ = _; simp
      have hc : Hid (rsC (us ++ [(⟨x.1, ad1, x.2.length, cc1⟩ : RS)]) = rsC us ++ (⟨x.1, ad1, x.2.length, cc1⟩ : RS).cells) := rsC_snoc _ _
      clear f1 f2 f3
      go_wp2_with (at_builtin; refine appT (.tmp 12) (.tmp 18) rfl rfl w.heap.size us.length hol hlit hone hu12 hszl ?_; intro v9 w9 ho9 hg9; have hx10 : Ext w w9 := hxl.grown_none hg9 (own_base hol); obtain ⟨a9, c9, rfl⟩ := own_slice ho9)
      go_roundw
      case rel => exact ⟨k + 1, _, hlt, by go_num, by rw [hul.out]; omega, by rw [hul.out, hc.out]; exact ho9, hr2, hx10⟩
      case measure => simp [intOf]; omega
    · obtain rfl : k = ln := by omega
      rw [List.take_of_length_le (by rw [HLN.out]; exact Nat.le_refl _)] at hr
      go_wp2_with fail
      go_ret
      exact ⟨_, rfl, (hr.ext hx).lst ho, hx⟩

theorem step_appS {ops : Array Oper} {o : Oper} {a : Act} {w : World} {K : Act → World → Prop} {Q : Exit → Act → World → Prop} {E : Prop}
    (hg : o.guard = none) (s x : Operand) (ho : o.op = .call { callee := .builtin .append, args := #[s, x], argTypes := #[43, 43] })
    (base n : Nat) {xs news : List Value} (hs : w.ownsRow base 40 2 (a.eval s) n xs) (hx : Row w 2 (a.eval x) 1 news) (h1 : ∀ u ∈ news, u.oneCell' = true)
    (hlen : n ≤ 1000000000000) (hbase : base ≤ w.heap.size)
    (h : ∀ v' w', w'.ownsRow base 40 2 v' (n + 1) (xs ++ news) → w.grownBy w' (a.eval s).ownBlock → K (a.put o.dst v') w') :
    if Region.wanted o (yielded ops a.tmps) = true then Oper.wp Tryd.prog o a w K Q else E := by
  refine step_call hg ?_
  obtain ⟨v', w', hr, ho', hgr⟩ := run_append_row (P := Tryd.prog) (a := a) (w := w) (o := o) 43 40 s x ho base (.agg #[.int .u64 0, .slice none 0 0]) 2 32 Tryd.underlying43 info40 rfl (by decide) _ _ _ rfl hs _ _ hx h1 (by omega) (by simp only [maxLen]; omega) hbase
  unfold Oper.wp
  rw [hr]
  exact h v' w' ho' hgr

set_option maxRecDepth 100000 in
set_option maxHeartbeats 4000000 in
theorem ours_any (w : World) (v : Value) (xs : List (Nat × List UInt8)) (h : Lst w v xs) (hn : xs.length ≤ 100000000000) (hd : ∀ x ∈ xs, x.2.length ≤ 1500) :
    Calls Tryd.prog 23 #[v] w fun e W => ∃ v', e = .returned v' ∧ Lst W v' xs ∧ Ext w W := by
  obtain ⟨a, cap, rfl, hc, hm⟩ := h.shape
  unfold maxLen at hm
  generalize hln : xs.length = ln at *
  have HLN := Lib.hid hln
  have HD := Lib.hid hd
  clear hln hd
  go_enter Tryd.func23, Tryd.ntmps23
  go_wp2_with fail
  go_loopw [3, 8] (fun vo i wr => ∃ (k : Nat) (us : List RS), k ≤ ln ∧ i = .int .i64 k ∧ us.length ≤ k ∧ wr.ownsRow w.heap.size 40 2 vo us.length (rsC us) ∧ RecL wr w.heap.size us (xs.take k) ∧ Ext w wr) (fun _ i _ => ln - (intOf i).toNat)
  case atStart => exact ⟨0, [], Nat.zero_le _, rfl, Nat.zero_le _, World.ownsRow_nil _ _ _ _, ⟨rfl, by simp⟩, Ext.refl _⟩
  case round =>
    obtain ⟨k, us, hk, rfl, hu, ho, hr, hx⟩ := hrel
    obtain ⟨ao, co, rfl⟩ := own_slice ho
    by_cases hlt : k < ln
    · have k1 : k < xs.length := by rw [HLN.out]; exact hlt
      obtain ⟨B1, o1, ad1, cc1, rfl, f1, f2, f3⟩ := h.at k1
      have hsn : Hid (xs.take (k + 1) = xs.take k ++ [xs[k]]) := List.take_succ_eq_append_getElem k1
      have hxd := HD.out xs[k] (List.getElem_mem k1)
      generalize xs[k] = x at *
      have F1 := hx.cell f1
      have F2 := hx.cell f2
      have hxa : Ext wr (wr.alloc (.cells #[.int .u64 x.1, .slice ad1 x.2.length cc1] 36)) := (Ext.refl wr).alloc _
      have c0 : (wr.alloc (.cells #[.int .u64 x.1, .slice ad1 x.2.length cc1] 36)).cell? ⟨wr.heap.size, 0, none⟩ = some (.int .u64 x.1) := cell_of_row _ wr.heap.size 0 _ _ _ (heap_alloc_new _ _)
      have c1 : (wr.alloc (.cells #[.int .u64 x.1, .slice ad1 x.2.length cc1] 36)).cell? ⟨wr.heap.size, 1, none⟩ = some (.slice ad1 x.2.length cc1) := cell_of_row _ wr.heap.size 1 _ _ _ (heap_alloc_new _ _)
      go_upto_region 5 with fail
      generalize wr.alloc (.cells #[.int .u64 x.1, .slice ad1 x.2.length cc1] 36) = wa at *
      have hdr : Ext wa wa.drew := (Ext.refl wa).drew
      have c0d := hdr.cell c0
      have c1d := hdr.cell c1
      have hbd := f3.ext (hx.trans (hxa.trans hdr))
      have hod := ownsRow_ext ho (hxa.trans hdr)
      have hrd := hr.ext (hxa.trans hdr)
      have hxd2 := hx.trans (hxa.trans hdr)
      have hlen : x.2.length ≤ 140737488355328 := by omega
      have hu12 : us.length ≤ 1000000000000 := by omega
      clear f1 f2 f3 F1 F2
      go_region_law (first | (refine step_call rfl ?_; go_simp; go_at_call 15; refine (own03_any _ _ x.2 hbd hlen).mono ?_; rintro e w2 ⟨v2, rfl, ho2, hx2⟩; obtain ⟨a2, c2, rfl, -, -⟩ := ho2.bytes.shape; have hz0 := hx2.cell c0d; have hz1 := hx2.cell c1d; have hx2l := hx2.alloc (.cells #[.int .u64 x.1, .slice a2 x.2.length c2] 40); have hol := ownsRow_ext hod hx2l; have hlit := lit_recT w2 ⟨x.1, a2, x.2.length, c2⟩ 40; have hxl := hxd2.trans hx2l) | (refine step_appS rfl (.tmp 12) (.tmp 19) rfl w.heap.size us.length hol hlit (one_rec _) hu12 hxl.size ?_; intro v9 w9 ho9 hg9; have hx10 : Ext w w9 := hxl.grown_none hg9 (own_base hol)))
      all_goals
        obtain ⟨a9, c9, rfl⟩ := own_slice ho9
        have hK : Keeps (fun q => (Value.slice ao us.length co).ownBlock = some q) wa.drew w9 := (Keeps.of_ext hx2l).trans (Keeps.of_grown hg9 fun q e => e)
        have hK2 : Keeps (fun q => (Value.slice ao us.length co).ownBlock = some q) w2 w9 := (Keeps.of_ext ((Ext.refl w2).alloc _)).trans (Keeps.of_grown hg9 fun q e => e)
        have hS : ∀ q, (Value.slice ao us.length co).ownBlock = some q → ∀ cs fr, wa.drew.heap[q]? ≠ some (.cells cs 5 fr) := fun q e cs fr e2 => by
          obtain ⟨cur, hcu⟩ := own_block40 hod e
          rw [hcu] at e2; cases e2
        have hS2 : ∀ q, (Value.slice ao us.length co).ownBlock = some q → ∀ cs fr, w2.heap[q]? ≠ some (.cells cs 5 fr) := fun q e cs fr e2 => by
          obtain ⟨cur, hcu⟩ := own_block40 (ownsRow_ext hod hx2) e
          rw [hcu] at e2; cases e2
        have hr2 := (hrd.keeps hK hS).snoc (u := ⟨x.1, a2, x.2.length, c2⟩) (x := x) rfl (own_lower (OwnB.keeps ho2 hK2 hS2) hxd2.size)
        rw [← hsn.out] at hr2
        have hul : Hid ((us ++ [(⟨x.1, a2, x.2.length, c2⟩ : RS)]).length = us.length + 1) := by show _ = _; simp
        have hc : Hid (rsC (us ++ [(⟨x.1, a2, x.2.length, c2⟩ : RS)]) = rsC us ++ (⟨x.1, a2, x.2.length, c2⟩ : RS).cells) := rsC_snoc _ _
        go_wp2_with fail
        go_roundw
        case rel => exact ⟨k + 1, _, hlt, by go_num, by rw [hul.out]; omega, by rw [hul.out, hc.out]; exact ho9, hr2, hx10⟩
        case measure => simp [intOf]; omega
    · obtain rfl : k = ln := by omega
      rw [List.take_of_length_le (by rw [HLN.out]; exact Nat.le_refl _)] at hr
      go_wp2_with fail
      go_ret
      exact ⟨_, rfl, Lst.of_own ho hr, hx⟩

end Go.Proofs.YtkaepcjkpaplfaaDoor
