/- A record's form, walked: segment.Put; bytes in new memory. -/
import Derived.Test.YtkaepcjkpaplfaaDoorN2
import Derived.Test.YtkaepcjkpaplfaaDoorW3
import Derived.Test.YtkaepcjkpaplfaaDoorK4
namespace Go.Proofs.YtkaepcjkpaplfaaDoor
open Go.RowKit

theorem putR_good' {r : List UInt8} (h : Good r) : putR r = (fr r, 0) := by
  obtain ⟨h1, h2⟩ := h
  rw [putR, if_neg (by omega), if_neg (by omega)]

theorem own_lower {W : World} {base base' : Nat} {v : Value} {l : List UInt8} (h : OwnB W base v l) (hb : base' ≤ base) : OwnB W base' v l := by
  refine ⟨h.1, ?_⟩
  rcases h.2 with h2 | ⟨g, cap, cur, hv, hg, hh⟩
  · exact .inl h2
  · exact .inr ⟨g, cap, cur, hv, Nat.le_trans hb hg, hh⟩

theorem own03_any (w : World) (v : Value) (l : List UInt8) (hl : Bytes w v l) (hn : l.length ≤ 140737488355328) :
    Calls Tryd.prog 15 #[v] w fun e w' => ∃ v', e = .returned v' ∧ OwnB w' w.heap.size v' l ∧ Ext w w' := by
  obtain ⟨a, cap, rfl, hc, hm⟩ := hl.shape
  unfold maxLen at hm
  go_enter Tryd.func15, Tryd.ntmps15
  go_wp2_with (at_builtin; refine appB (.tmp 4) (.tmp 5) rfl rfl w.heap.size (OwnB.nil _ _) hl (by simp; omega) (Nat.le_refl _) ?_; intro v2 w2 ho2 hg2; rw [List.nil_append] at ho2; have hx2 : Ext w w2 := (Ext.refl w).mono_grown (OwnB.nil w w.heap.size) (Nat.le_refl _) hg2; clear hg2)
  go_ret
  exact ⟨_, rfl, ho2, hx2⟩

set_option maxRecDepth 100000 in
set_option maxHeartbeats 4000000 in
theorem sput_any (w : World) (n : Nat) (v : Value) (d : List UInt8) (hd : Bytes w v d) (h64 : n < 18446744073709551616) :
    Calls Tryd.prog 14 #[.agg #[.int .u64 n, v]] w fun e w' => ∃ v', e = .returned (.tuple #[v', .int .i64 (putS n d).2]) ∧ OwnB w' w.heap.size v' (putS n d).1 ∧ Ext w w' := by
  obtain ⟨a, cap, rfl, hc, hm⟩ := hd.shape
  unfold maxLen at hm
  have hx0 : Ext w (w.alloc (.cells #[.int .u64 n, .slice a d.length cap] 40)) := (Ext.refl w).alloc _
  have hc0 : (w.alloc (.cells #[.int .u64 n, .slice a d.length cap] 40)).cell? ⟨w.heap.size, 0, none⟩ = some (.int .u64 n) := cell_of_row _ w.heap.size 0 _ _ _ (heap_alloc_new _ _)
  have hc1 : (w.alloc (.cells #[.int .u64 n, .slice a d.length cap] 40)).cell? ⟨w.heap.size, 1, none⟩ = some (.slice a d.length cap) := cell_of_row _ w.heap.size 1 _ _ _ (heap_alloc_new _ _)
  have hd0 := hd.ext hx0
  by_cases hn : may n
  · by_cases hl : 1500 < d.length
    · have e : putS n d = ([], 3) := by unfold putS; rw [if_neg (not_not_intro hn), if_pos hl]
      rw [e]
      have h15 : decide ((1500 : Int) < (d.length : Int)) = true := decide_eq_true (by omega)
      clear e
      go_enter Tryd.func14, Tryd.ntmps14
      go_wp2_with fail
      refine (may_any _ n).mono ?_
      rintro e w1 ⟨rfl, rfl⟩
      rw [decide_eq_true hn]
      go_wp2_with fail
      go_ret2
      exact ⟨_, rfl, OwnB.nil _ _, hx0⟩
    · have e : putS n d = (fr (vput n ++ d), 0) := by unfold putS; rw [if_neg (not_not_intro hn), if_neg hl]
      rw [e]
      have h15 : decide ((1500 : Int) < (d.length : Int)) = false := decide_eq_false (by omega)
      have hgood := good_form n d (by omega)
      have hvl := vput_length n
      clear e
      go_enter Tryd.func14, Tryd.ntmps14
      go_wp2_with fail
      refine (may_any _ n).mono ?_
      rintro e w1 ⟨rfl, rfl⟩
      rw [decide_eq_true hn]
      go_wp2_with fail
      generalize hwa : w.alloc (.cells #[.int .u64 n, .slice a d.length cap] 40) = wa at *
      clear hwa
      have hB : (vput n).length + d.length ≤ 140737488355328 := by omega
      have hpg := putR_good' hgood
      have hxd : Ext wa wa.drew := (Ext.refl wa).drew
      have hc0d := hxd.cell hc0
      have hc1d := hxd.cell hc1
      have hdd := hd0.ext hxd
      go_region_law (first | (refine step_call rfl ?_; go_simp; go_at_call 30; refine (num_put _ _ [] n (Bytes.nil _) (Nat.zero_le _) h64).mono ?_; rintro e w2 ⟨v2, rfl, ho2, hx2⟩; rw [List.nil_append] at ho2; have hz0 := hx2.cell hc0d; have hz1 := hx2.cell hc1d; have hd2 := hdd.ext hx2) | (refine step_appB rfl (.tmp 16) (.tmp 18) rfl _ ho2 hd2 hB hx2.size ?_; intro v3 w3 ho3 hg3; have hx3 : Ext wa.drew w3 := hx2.mono_grown ho2 (Nat.le_refl _) hg3; clear hg3) | (refine step_call rfl ?_; go_simp; go_at_call 29; refine (fput_any w3 _ _ ho3.bytes).mono ?_; rw [hpg]; rintro e w4 ⟨v4, rfl, ho4, hx4⟩))
      all_goals
        have hxf : Ext w w4 := hx0.trans (hxd.trans (hx3.trans hx4))
        simp only [] at ho4
        have hfin : OwnB w4 w.heap.size v4 (fr (vput n ++ d)) := own_lower ho4 (hx0.trans (hxd.trans hx3)).size
        go_wp2_with fail
        go_ret2
        exact ⟨_, rfl, hfin, hxf⟩
  · have e : putS n d = ([], 1) := by unfold putS; rw [if_pos hn]
    rw [e]
    clear e
    go_enter Tryd.func14, Tryd.ntmps14
    go_wp2_with fail
    refine (may_any _ n).mono ?_
    rintro e w1 ⟨rfl, rfl⟩
    rw [decide_eq_false hn]
    go_wp2_with fail
    go_ret2
    exact ⟨_, rfl, OwnB.nil _ _, hx0⟩

end Go.Proofs.YtkaepcjkpaplfaaDoor
