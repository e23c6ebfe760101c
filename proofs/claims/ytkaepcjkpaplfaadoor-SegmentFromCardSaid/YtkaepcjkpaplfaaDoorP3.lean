/- Sparse places, walked: Places, From. -/
import Derived.Test.YtkaepcjkpaplfaaDoorS4
import Derived.Deep.DeepCutAuto
import Derived.Deep.CutBlock
namespace Go.Proofs.YtkaepcjkpaplfaaDoor
open Go.RowKit

def plC (ps : List (Nat × Nat)) : List Value := ps.flatMap fun p => [.int .u64 p.1, .int .i64 p.2]
theorem plC_length (ps : List (Nat × Nat)) : (plC ps).length = ps.length * 2 := by
  induction ps with
  | nil => rfl
  | cons u us ih => simp only [plC, List.flatMap_cons, List.length_append, List.length_cons] at ih ⊢; rw [ih]; simp; omega
theorem plC_snoc (ps : List (Nat × Nat)) (p : Nat × Nat) : plC (ps ++ [p]) = plC ps ++ [.int .u64 p.1, .int .i64 p.2] := by simp [plC]
theorem plC_get (ps : List (Nat × Nat)) : ∀ (k : Nat) (hk : k < ps.length), (plC ps)[2 * k]? = some (.int .u64 ps[k].1) ∧ (plC ps)[2 * k + 1]? = some (.int .i64 ps[k].2) := by
  induction ps with
  | nil => intro k hk; simp at hk
  | cons u us ih =>
    intro k hk
    have e : plC (u :: us) = .int .u64 u.1 :: .int .i64 u.2 :: plC us := by simp [plC]
    cases k with
    | zero => exact ⟨by rw [e]; rfl, by rw [e]; rfl⟩
    | succ k =>
      obtain ⟨h2, h3⟩ := ih k (by simpa using hk)
      refine ⟨?_, ?_⟩
      · rw [e, show 2 * (k + 1) = 2 * k + 1 + 1 by omega]; simpa using h2
      · rw [e, show 2 * (k + 1) + 1 = 2 * k + 1 + 1 + 1 by omega]; simpa using h3
theorem prow_at {W : World} {a : Option Addr} {n cap m : Nat} {ps : List (Nat × Nat)} (h : Row W 2 (.slice a n cap) m (plC ps)) {k : Nat} (hk : k < ps.length) :
    ∃ B o, a = some ⟨B, o, none⟩ ∧ W.cell? ⟨B, o + k * 2, none⟩ = some (.int .u64 (ps[k].1 : Nat)) ∧ W.cell? ⟨B, o + k * 2 + 1, none⟩ = some (.int .i64 (ps[k].2 : Nat)) := by
  obtain ⟨hl, a', cap', hv, hc, hm, hnil, hspot, hcell⟩ := h
  simp only [Value.slice.injEq] at hv
  obtain ⟨rfl, rfl, rfl⟩ := hv
  have hpl := plC_length ps
  obtain ⟨hc0, hc1⟩ := plC_get ps k hk
  obtain ⟨p, hp, hcl⟩ := hcell _ _ hc0
  obtain ⟨p', hp', hcl'⟩ := hcell _ _ hc1
  rw [hp] at hp'
  cases hp'
  have hps := hspot p hp (by omega)
  obtain ⟨pb, po, ps⟩ := p
  simp only at hps
  subst hps
  exact ⟨pb, po, hp, by rw [Nat.mul_comm]; exact hcl, by rw [Nat.mul_comm]; exact hcl'⟩

theorem info87 : (Tryd.prog.info? 87).map (fun i => (i.zero, i.size, i.bytes)) = some (some (.agg #[.int .u64 0, .int .i64 0]), 2, 16) := by kernel_rfl
theorem appP {ops : Array Oper} {Q : Exit → Act → World → Prop} {a : Act} {w : World} {rest : List Oper} {o : Oper}
    (s x : Operand) (ho : o.op = .call { callee := .builtin .append, args := #[s, x], argTypes := #[65, 65] })
    (hw : Region.wanted o (yielded ops a.tmps) = true) (base n : Nat) {xs news : List Value} (hs : w.ownsRow base 87 2 (a.eval s) n xs) (hx : Row w 2 (a.eval x) 1 news) (h1 : ∀ u ∈ news, u.oneCell' = true)
    (hlen : n ≤ 1000000000000) (hbase : base ≤ w.heap.size)
    (h : ∀ v' w', w'.ownsRow base 87 2 v' (n + 1) (xs ++ news) → w.grownBy w' (a.eval s).ownBlock → wpList Tryd.prog ops Q rest (a.put o.dst v') w') : wpList Tryd.prog ops Q (o :: rest) a w :=
  wpList_append_row 65 87 s x ho base (.agg #[.int .u64 0, .int .i64 0]) 2 16 Tryd.underlying65 info87 rfl (by decide) hw _ n xs rfl hs 1 news hx h1 (by omega) (by simp only [maxLen]; omega) hbase h
theorem lit_place (w : World) (n s : Nat) : Row (w.alloc (.cells #[.int .u64 n, .int .i64 s] 87)) 2 (.slice (some ⟨w.heap.size, 0, none⟩) 1 1) 1 [.int .u64 n, .int .i64 s] := by
  refine ⟨rfl, some ⟨w.heap.size, 0, none⟩, 1, rfl, Nat.le_refl _, by decide, by simp, fun p hp _ => by cases hp; rfl, fun j x hj => ⟨_, rfl, ?_⟩⟩
  simp only [Nat.zero_add]
  rw [cell_of_row _ _ _ _ _ _ (heap_alloc_new _ _)]
  match j, hj with
  | 0, hj => simpa using hj
  | 1, hj => simpa using hj
  | j + 2, hj => simp at hj
set_option maxRecDepth 100000 in
set_option maxHeartbeats 4000000 in
theorem from_any (w : World) (v : Value) (ps : List (Nat × Nat)) (n : Nat) (h : Row w 2 v ps.length (plC ps)) :
    Calls Tryd.prog 25 #[v, .int .u64 n] w fun e W => e = .returned (.int .i64 (fromF 0 ps n)) ∧ Ext w W := by
  obtain ⟨a, cap, rfl, hc, hm⟩ : ∃ a cap, v = .slice a ps.length cap ∧ ps.length ≤ cap ∧ cap ≤ maxLen := by
    obtain ⟨_, a, cap, hv, hc, hm, _⟩ := h
    exact ⟨a, cap, hv, hc, hm⟩
  unfold maxLen at hm
  generalize hR : fromF 0 ps n = R
  have HR := Lib.hid hR
  clear hR
  generalize hpn : ps.length = pn at *
  have HPN := Lib.hid hpn
  clear hpn
  go_enter Tryd.func25, Tryd.ntmps25
  go_wp2_with fail
  go_loopw [5, 10] (fun vc i wr => ∃ k c : Nat, k ≤ pn ∧ vc = .int .i64 c ∧ i = .int .i64 k ∧ Hid (R = fromF c (ps.drop k) n) ∧ Ext w wr) (fun _ i _ => pn - (intOf i).toNat)
  case atStart => exact ⟨0, 0, Nat.zero_le _, rfl, rfl, HR.out.symm, Ext.refl _⟩
  case round =>
    obtain ⟨k, c, hk, rfl, rfl, hrel2, hx⟩ := hrel
    by_cases hlt : k < pn
    · have k1 : k < ps.length := by rw [HPN.out]; exact hlt
      obtain ⟨B, o, rfl, f1, f2⟩ := prow_at h k1
      have hdr := List.drop_eq_getElem_cons k1
      rw [hdr] at hrel2
      clear hdr
      generalize ps[k] = p at *
      have F1 := hx.cell f1
      have F2 := hx.cell f2
      clear f1 f2
      by_cases hlt2 : n < p.1
      · have hd : decide ((n : Int) < (p.1 : Int)) = true := decide_eq_true (by omega)
        have hdn : decide (n < p.1) = true := decide_eq_true hlt2
        have e : R = c := by rw [hrel2.out]; simp [fromF, hlt2]
        subst e
        go_wp2_with fail
        go_ret
        exact ⟨rfl, hx.alloc _⟩
      · have hd : decide ((n : Int) < (p.1 : Int)) = false := decide_eq_false (by omega)
        have hdn : decide (n < p.1) = false := decide_eq_false hlt2
        go_wp2_with fail
        go_roundw
        case rel => exact ⟨k + 1, p.2, hlt, rfl, by go_num, by show _ = _; rw [hrel2.out]; simp [fromF, hlt2], hx.alloc _⟩
        case measure => simp [intOf]; omega
    · obtain rfl : k = pn := by omega
      have e : R = c := by rw [hrel2.out, List.drop_of_length_le (by rw [HPN.out]; exact Nat.le_refl _)]; rfl
      subst e
      go_wp2_with fail
      go_ret
      exact ⟨rfl, hx⟩

set_option maxRecDepth 100000 in
set_option maxHeartbeats 4000000 in
theorem places_any (w : World) (v : Value) (xs : List (Nat × List UInt8)) (first : Nat) (h : Lst w v xs) (hr : Rise first xs) (hn : xs.length ≤ 1000000) :
    Calls Tryd.prog 26 #[v] w fun e W => ∃ v', e = .returned v' ∧ W.ownsRow w.heap.size 87 2 v' (placesF 0 0 xs).length (plC (placesF 0 0 xs)) ∧ Ext w W := by
  obtain ⟨a, cap, rfl, hc, hm⟩ := h.shape
  unfold maxLen at hm
  generalize hPL : placesF 0 0 xs = PL
  have HPL := Lib.hid hPL
  clear hPL
  generalize hln : xs.length = ln at *
  have HLN := Lib.hid hln
  clear hln
  go_enter Tryd.func26, Tryd.ntmps26
  go_wp2_with fail
  go_loopw [3, 4, 11] (fun vo vs i wr => ∃ (k s : Nat) (ps : List (Nat × Nat)), k ≤ ln ∧ s ≤ 2000 * k ∧ vs = .int .i64 s ∧ i = .int .i64 k ∧ ps.length ≤ k ∧ Hid (PL = ps ++ placesF k s (xs.drop k)) ∧ wr.ownsRow w.heap.size 87 2 vo ps.length (plC ps) ∧ Ext w wr) (fun _ _ i _ => ln - (intOf i).toNat)
  case atStart => exact ⟨0, 0, [], Nat.zero_le _, Nat.zero_le _, rfl, rfl, Nat.zero_le _, HPL.out.symm, World.ownsRow_nil _ _ _ _, Ext.refl _⟩
  case round =>
    obtain ⟨k, s, ps, hk, hsk, rfl, rfl, hpk, hrel2, hop, hx⟩ := hrel
    obtain ⟨ao, co, rfl⟩ := own_slice hop
    by_cases hlt : k < ln
    · have k1 : k < xs.length := by rw [HLN.out]; exact hlt
      obtain ⟨B1, o1, ad1, cc1, rfl, f1, f2, f3⟩ := h.at k1
      have hdr := List.drop_eq_getElem_cons k1
      have hr1 : may xs[k].1 ∧ xs[k].2.length ≤ 1500 := by
        have := hr.drop k
        rw [hdr] at this
        exact ⟨this.2.1, this.2.2.1⟩
      rw [hdr] at hrel2
      clear hdr
      generalize xs[k] = x at *
      have F1 := hx.cell f1
      have F2 := hx.cell f2
      have F3 := (hx.alloc (.cells #[.int .u64 x.1, .slice ad1 x.2.length cc1] 40))
      have F4 := f3.ext F3
      have hput : putS x.1 x.2 = (formOf x, 0) := by unfold putS; rw [if_neg (not_not_intro hr1.1), if_neg (by omega)]; rfl
      have hr264 : x.1 < 18446744073709551616 := by have := hr1.1.2; omega
      have hRb : (wr.alloc (.cells #[.int .u64 x.1, .slice ad1 x.2.length cc1] 40)).heap[wr.heap.size]? = some (.cells #[.int .u64 x.1, .slice ad1 x.2.length cc1] 40 (0, 0)) := heap_alloc_new _ _
      have HRB := Lib.hid hRb
      clear hRb
      go_wp2_with fail
      refine (sput_any _ x.1 _ x.2 F4 hr264).mono ?_
      rw [hput]
      rintro e w8 ⟨vf, rfl, hof, hx8⟩
      simp only [] at hof
      have hx9 := F3.trans hx8
      have hRl : wr.heap.size < (wr.alloc (.cells #[.int .u64 x.1, .slice ad1 x.2.length cc1] 40)).heap.size := (Array.getElem?_eq_some_iff.1 HRB.out).1
      have HR8 := (hx8.block wr.heap.size hRl).trans HRB.out
      have c8 := cell_of_row w8 wr.heap.size 0 _ _ _ HR8
      simp at c8
      have hflen : (formOf x).length ≤ 2000 := by
        have := vput_length x.1
        unfold formOf; rw [fr_length, List.length_append]; omega
      obtain ⟨af, cf, rfl, -, -⟩ := hof.bytes.shape
      have hop8 := ownsRow_ext hop (((Ext.refl wr).alloc _).trans hx8)
      clear hput F1 F2 F3 F4 f1 f2 f3 HR8
      by_cases hk4 : k % 4 = 0
      · have hd4 : ((k : Int) % 4 == 0) = true := beq_iff_eq.2 (by omega)
        have hwl : Ext w8 (w8.alloc (.cells #[.int .u64 x.1, .int .i64 s] 87)) := (Ext.refl w8).alloc _
        have hopl := ownsRow_ext hop8 hwl
        have hlit := lit_place w8 x.1 s
        have hone : ∀ u ∈ [Value.int .u64 (x.1 : Nat), .int .i64 (s : Nat)], u.oneCell' = true := by intro u hu; simp at hu; rcases hu with rfl | rfl <;> rfl
        have hxl := hx9.trans hwl
        have hp12 : ps.length ≤ 1000000000000 := by omega
        have hsnoc : Hid (PL = (ps ++ [(x.1, s)]) ++ placesF (k + 1) (s + (formOf x).length) (xs.drop (k + 1))) := by
          show _ = _
          rw [hrel2.out, placesF, if_pos hk4, List.append_assoc]
        have hplc : Hid (plC (ps ++ [(x.1, s)]) = plC ps ++ [.int .u64 (x.1 : Nat), .int .i64 (s : Nat)] ∧ (ps ++ [(x.1, s)]).length = ps.length + 1) := ⟨plC_snoc _ _, by simp⟩
        have hszl := hxl.size
        clear hk4
        go_wp2_with (at_builtin; refine appP (.tmp 26) (.tmp 31) rfl rfl w.heap.size ps.length hopl hlit hone hp12 hszl ?_; intro v9 w9 ho9 hg9; have hx10 : Ext w w9 := hxl.grown_none hg9 (own_base hopl); obtain ⟨a9, c9, rfl⟩ := own_slice ho9)
        go_roundw
        case rel => exact ⟨k + 1, s + (formOf x).length, ps ++ [(x.1, s)], hlt, by omega, by go_num, by go_num, by rw [hplc.out.2]; omega, hsnoc, by rw [hplc.out.1, hplc.out.2]; exact ho9, hx10⟩
        case measure => simp [intOf]; omega
      · have hd4 : ((k : Int) % 4 == 0) = false := beq_eq_false_iff_ne.2 (by omega)
        have hsnoc : Hid (PL = ps ++ placesF (k + 1) (s + (formOf x).length) (xs.drop (k + 1))) := by
          show _ = _
          rw [hrel2.out, placesF, if_neg hk4, List.nil_append]
        clear hk4
        go_wp2_with fail
        go_roundw
        case rel => exact ⟨k + 1, s + (formOf x).length, ps, hlt, by omega, by go_num, by go_num, by omega, hsnoc, hop8, hx9⟩
        case measure => simp [intOf]; omega
    · obtain rfl : k = ln := by omega
      have e : Hid (PL = ps) := by
        show _ = _
        rw [hrel2.out, List.drop_of_length_le (by rw [HLN.out]; exact Nat.le_refl _), placesF, List.append_nil]
      go_wp2_with fail
      go_ret
      exact ⟨_, rfl, by rw [e.out]; exact hop, hx⟩

end Go.Proofs.YtkaepcjkpaplfaaDoor
