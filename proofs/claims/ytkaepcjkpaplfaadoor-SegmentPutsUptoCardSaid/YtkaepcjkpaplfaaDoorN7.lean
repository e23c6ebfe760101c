/- The records of bytes, walked: segment.Split. -/
import Derived.Test.YtkaepcjkpaplfaaDoorN6
namespace Go.Proofs.YtkaepcjkpaplfaaDoor
open Go.RowKit

theorem frs_cons (r : List UInt8) (l : List (List UInt8)) : frs (r :: l) = fr r ++ frs l := by simp [frs]
theorem frs_take_le (l : List (List UInt8)) (k : Nat) : (frs (l.take k)).length ≤ (frs l).length := by
  have e : frs l = frs (l.take k) ++ frs (l.drop k) := by
    have := congrArg frs (List.take_append_drop k l)
    rw [← this, frs, frs, frs, List.map_append, List.flatten_append]
  rw [e, List.length_append]; omega
theorem frs_take_next (l : List (List UInt8)) (k : Nat) (h : k < l.length) : (frs (l.take (k + 1))).length = (frs (l.take k)).length + (l[k].length + 8) := by
  rw [List.take_succ_eq_append_getElem h, frs_snoc, List.length_append, fr_length]
theorem good_len (l : List (List UInt8)) (h : ∀ r ∈ l, Good r) : 9 * l.length ≤ (frs l).length := by
  induction l with
  | nil => simp
  | cons r l ih =>
    have := (h r (by simp)).1
    have := ih fun q hq => h q (by simp [hq])
    rw [frs_cons, List.length_append, fr_length, List.length_cons]
    omega
theorem splitL_stop {least : Nat} {f : List UInt8} {fs : List (List UInt8)} (h : ∀ x, recF f = some x → x.1 < least) : splitL least (f :: fs) = ([], 0) := by
  unfold splitL
  cases hr : recF f with
  | none => rfl
  | some x => simp [h x hr]
theorem splitL_go {least : Nat} {f : List UInt8} {fs : List (List UInt8)} {x : Nat × List UInt8} (h : recF f = some x) (hl : least ≤ x.1) : splitL least (f :: fs) = (x :: (splitL (x.1 + 1) fs).1, f.length + 8 + (splitL (x.1 + 1) fs).2) := by
  conv => lhs; unfold splitL
  rw [h]
  simp only []
  rw [if_neg (by omega)]
theorem sizeR_good {f : List UInt8} (h : Good f) : sizeR f = f.length + 8 := by unfold sizeR; rw [if_pos ⟨h.1, h.2⟩]

theorem drewN_ext {w W : World} (h : Ext w W) (n : Nat) : Ext w (W.drewN n) := ⟨h.os, h.tape, h.output, h.size, h.block⟩
theorem own_at {W : World} {base n cap k : Nat} {e : TypeId} {a : Option Addr} {xs : List Value} (h : W.ownsRow base e 1 (.slice a n cap) n xs) (hk : k < n) : ∃ g, a = some ⟨g, 0, none⟩ ∧ W.cell? ⟨g, k, none⟩ = xs[k]? := by
  rcases h.2 with ⟨_, e0⟩ | ⟨g, cap', cur, hv, _, hh, _, _, _, ht⟩
  · omega
  · simp only [Value.slice.injEq] at hv
    refine ⟨g, hv.1, ?_⟩
    rw [cell_of_row _ _ _ _ _ _ hh, ← ht, List.getElem?_take, if_pos (by omega)]
    simp

set_option maxRecDepth 100000 in
set_option maxHeartbeats 4000000 in
theorem ssplit_any (w : World) (v : Value) (b : List UInt8) (first : Nat) (hv : Bytes w v b) (hn : b.length ≤ 1000000000000) :
    Calls Tryd.prog 17 #[v, .int .u64 first] w fun e W => ∃ vl us, e = .returned (.tuple #[vl, .int .i64 (splitS b first).2]) ∧ W.ownsRow w.heap.size 40 2 vl us.length (rsC us) ∧ RecL W w.heap.size us (splitS b first).1 ∧ Ext w W := by
  obtain ⟨a, cap, rfl, hc, hm⟩ := hv.shape
  unfold maxLen at hm
  by_cases hmay : may first
  · have hS : splitS b first = splitL first (splitF b).1 := by unfold splitS; rw [if_pos hmay]
    rw [hS]
    clear hS
    obtain ⟨hg, hN, t, hbt, -⟩ := split_shape b.length b (Nat.le_refl _)
    have hNb : (frs (splitF b).1).length ≤ b.length := by
      have := congrArg List.length hbt
      rw [List.length_append] at this
      omega
    clear hN hbt t
    generalize hX : (splitF b).1 = X at *
    have HX := Lib.hid hX
    clear hX
    have hglen := good_len X hg
    go_enter Tryd.func17, Tryd.ntmps17
    go_wp2_with fail
    refine (may_any _ first).mono ?_
    rintro e w1 ⟨rfl, rfl⟩
    rw [decide_eq_true hmay]
    go_wp2_with fail
    have hxa : Ext w (((w.alloc (.cells #[.slice none 0 0] 43)).alloc (.cells #[.int .i64 0] 3)).alloc (.cells #[.int .u64 first] 22)) := (((Ext.refl w).alloc _).alloc _).alloc _
    have hlb : Boxed (((w.alloc (.cells #[.slice none 0 0] 43)).alloc (.cells #[.int .i64 0] 3)).alloc (.cells #[.int .u64 first] 22)) w.heap.size 43 (.slice none 0 0) := ((Boxed.new w 43 _).alloc _).alloc _
    have hwb : Boxed (((w.alloc (.cells #[.slice none 0 0] 43)).alloc (.cells #[.int .i64 0] 3)).alloc (.cells #[.int .u64 first] 22)) (w.heap.size + 1) 3 (.int .i64 0) := by
      have := (Boxed.new (w.alloc (.cells #[.slice none 0 0] 43)) 3 (.int .i64 0)).alloc (.cells #[.int .u64 first] 22)
      simpa using this
    have hnb : Boxed (((w.alloc (.cells #[.slice none 0 0] 43)).alloc (.cells #[.int .i64 0] 3)).alloc (.cells #[.int .u64 first] 22)) (w.heap.size + 1 + 1) 22 (.int .u64 first) := by
      have := Boxed.new ((w.alloc (.cells #[.slice none 0 0] 43)).alloc (.cells #[.int .i64 0] 3)) 22 (.int .u64 first)
      simpa using this
    have hva := hv.ext hxa
    generalize ((w.alloc (.cells #[.slice none 0 0] 43)).alloc (.cells #[.int .i64 0] 3)).alloc (.cells #[.int .u64 first] 22) = wa at *
    have ha3 : w.heap.size + 1 + 1 < wa.heap.size := (Array.getElem?_eq_some_iff.1 hnb).1
    refine (split_any _ _ b hva (by omega)).mono ?_
    rw [HX.out]
    rintro e wb ⟨vf, uf, rfl, hof, hrf, hxb⟩
    have hst : St wb (w.heap.size + 1 + 1) w.heap.size (w.heap.size + 1) w.heap.size (.slice none 0 0) [] [] 0 first :=
      ⟨(hxb.block _ (by omega)).trans hnb, (hxb.block _ (by omega)).trans hlb, (hxb.block _ (by omega)).trans hwb, World.ownsRow_nil _ _ _ _, ⟨rfl, by simp⟩⟩
    have hxw := hxa.trans hxb
    obtain ⟨gf, cf, rfl⟩ := own_slice hof
    have hul : uf.length = X.length := hrf.1
    generalize hkn : w.heap.size + 1 + 1 = kn at *
    generalize hkw : w.heap.size + 1 = kw at *
    have HKN := Lib.hid hkn
    have HKW := Lib.hid hkw
    have hd1 : kn ≠ w.heap.size := by omega
    have hd2 : kn ≠ kw := by omega
    have hd3 : w.heap.size ≠ kw := by omega
    have hknw : w.heap.size ≤ kn ∧ w.heap.size ≤ kw := by omega
    clear hkn hkw hlb hwb hnb hva
    rw [hul] at hof ⊢
    generalize hxn : X.length = n at *
    have HXN := Lib.hid hxn
    clear hxn
    have HUL := Lib.hid hul
    clear hul
    go_wp2_with fail
    go_loopw [13, 26] (fun fv i wr => ∃ (k : Nat) (vl : Value) (us : List RS) (xs : List (Nat × List UInt8)) (whole least : Nat), k ≤ n ∧ i = .int .i64 k ∧ St wr kn w.heap.size kw w.heap.size vl us xs whole least ∧
      wr.ownsRow wa.heap.size 34 1 (.slice gf n cf) n uf ∧ Recs wr wa.heap.size uf X ∧ Hid (splitL first X = (xs ++ (splitL least (X.drop k)).1, whole + (splitL least (X.drop k)).2)) ∧ whole ≤ (frs (X.take k)).length ∧ us.length ≤ k ∧ Ext w wr) (fun _ i _ => n - (intOf i).toNat)
    case atStart => exact ⟨0, _, _, _, _, _, Nat.zero_le _, rfl, hst, hof, hrf, by show _ = _; simp, Nat.zero_le _, Nat.zero_le _, hxw⟩
    case round =>
      obtain ⟨k, vl, us, xs, whole, least, hk, rfl, hs, ho, hr, hrel2, hwh, hus, hx⟩ := hrel
      have hfin : ∀ W vm um xm wm lm, St W kn w.heap.size kw w.heap.size vm um xm wm lm → Hid (splitL first X = (xm, wm)) → Ext w W → W.ownsRow w.heap.size 40 2 vm um.length (rsC um) ∧ RecL W w.heap.size um (splitL first X).1 ∧ Ext w W := fun W vm um xm wm lm h1 h2 h3 => ⟨h1.own, by rw [h2.out]; exact h1.recs, h3⟩
      by_cases hlt : k < n
      · have k1 : k < X.length := by rw [HXN.out]; exact hlt
        obtain ⟨g, rfl, hcell⟩ := own_at ho hlt
        have hku : k < uf.length := by rw [HUL.out]; exact hlt
        rw [List.getElem?_eq_getElem hku] at hcell
        have hrec : Rec wr wa.heap.size uf[k] X[k] := hr.2 k _ _ (List.getElem?_eq_getElem hku) (List.getElem?_eq_getElem k1)
        have hgk : Good X[k] := hg _ (List.getElem_mem _)
        have hdrop : Hid (X.drop k = X[k] :: X.drop (k + 1)) := by show _ = _; exact List.drop_eq_getElem_cons k1
        have hnext := Lib.hid (frs_take_next X k k1)
        have hle : (frs (X.take (k + 1))).length ≤ b.length := Nat.le_trans (frs_take_le X (k + 1)) hNb
        have hle0 : (frs (X.take k)).length ≤ b.length := Nat.le_trans (frs_take_le X k) hNb
        generalize uf[k] = u at *
        generalize X[k] = f at *
        obtain ⟨gu, cu, h4, -, -, -, rfl⟩ := id hrec
        go_wp2_with fail
        refine (next_seg wr kn w.heap.size kw w.heap.size _ vl f us xs whole least wa.heap.size hrec hgk.2 hs hd1 hd2 hd3 (by have := hx.size; omega) (by omega) (by omega)).mono ?_
        rintro e w2 (⟨rfl, hstop, hx2⟩ | ⟨x, us', vl', rfl, hrf, hlx, hs2, hk2⟩)
        · have hres : Hid (splitL first X = (xs, whole)) := by
            show _ = _
            rw [hrel2.out, hdrop.out, splitL_stop hstop]; simp
          have hsW : St w2 kn w.heap.size kw w.heap.size vl us xs whole least :=
            ⟨(hx2.block _ (Array.getElem?_eq_some_iff.1 hs.bn).1).trans hs.bn, (hx2.block _ (Array.getElem?_eq_some_iff.1 hs.bl).1).trans hs.bl, (hx2.block _ (Array.getElem?_eq_some_iff.1 hs.bw).1).trans hs.bw, ownsRow_ext hs.own hx2, hs.recs.ext hx2⟩
          obtain ⟨q1, q2, q3⟩ := hfin w2 vl us xs whole least hsW hres (hx.trans hx2)
          have clv := hsW.bl.cell
          have cwv := hsW.bw.cell
          go_wp2_with fail
          go_quiet (fail)
          go_wp2_with fail
          go_ret2
          exact ⟨_, us, by rw [hres.out]; rfl, q1, q2, drewN_ext q3 _⟩
        · have hsz := Lib.hid (sizeR_good hgk)
          rw [hsz.out] at hs2
          have hrelN : Hid (splitL first X = ((xs ++ [x]) ++ (splitL (x.1 + 1) (X.drop (k + 1))).1, (whole + (f.length + 8)) + (splitL (x.1 + 1) (X.drop (k + 1))).2)) := by
            show _ = _
            rw [hrel2.out, hdrop.out, splitL_go hrf hlx]; simp [Nat.add_assoc]
          have hSb : ∀ j, (j = kn ∨ j = w.heap.size ∨ j = kw ∨ some j = vl.ownBlock) → w.heap.size ≤ j := fun j hj => by
            rcases hj with rfl | rfl | rfl | hj
            · exact hknw.1
            · exact Nat.le_refl _
            · exact hknw.2
            · exact own_base hs.own j hj.symm
          have hS5 : ∀ j, (j = kn ∨ j = w.heap.size ∨ j = kw ∨ some j = vl.ownBlock) → ∀ c fr, wr.heap[j]? ≠ some (.cells c 5 fr) := fun j hj c fr e => by
            rcases hj with rfl | rfl | rfl | hj
            · rw [show wr.heap[j]? = _ from hs.bn] at e; cases e
            · rw [show wr.heap[w.heap.size]? = _ from hs.bl] at e; cases e
            · rw [show wr.heap[j]? = _ from hs.bw] at e; cases e
            · obtain ⟨cur', hc'⟩ := own_block40 hs.own hj.symm
              rw [hc'] at e; cases e
          have hS34 : ∀ j, (j = kn ∨ j = w.heap.size ∨ j = kw ∨ some j = vl.ownBlock) → some j ≠ (Value.slice (some ⟨g, 0, none⟩) n cf).ownBlock := fun j hj e => by
            have hh : ∃ cur', wr.heap[j]? = some (.cells cur' 34 (0, 0)) := by
              rcases ho.2 with ⟨e1, _⟩ | ⟨g', cap', cur', e1, _, hh, _⟩
              · cases e1
              · simp only [Value.slice.injEq, Option.some.injEq, Addr.mk.injEq, and_true] at e1
                have : j = g := Option.some.inj e
                rw [this, e1.1]; exact ⟨cur', hh⟩
            obtain ⟨cur', hh⟩ := hh
            rcases hj with rfl | rfl | rfl | hj
            · rw [show wr.heap[j]? = _ from hs.bn] at hh; cases hh
            · rw [show wr.heap[w.heap.size]? = _ from hs.bl] at hh; cases hh
            · rw [show wr.heap[j]? = _ from hs.bw] at hh; cases hh
            · obtain ⟨cur2, hc'⟩ := own_block40 hs.own hj.symm
              rw [hc'] at hh; cases hh
          have ho2 := ownsRow_keeps ho hk2 hS34
          have hr2 := hr.keeps hk2 fun j hj => .inr (hS5 j hj)
          have hx2 := hk2.ext hx hSb
          clear hfin hSb hS5 hS34
          go_wp2_with fail
          go_roundw
          case rel => exact ⟨k + 1, vl', _, _, _, _, hlt, by go_num, hs2, ho2, hr2, hrelN, by rw [hnext.out]; omega, by simp; omega, hx2⟩
          case measure => simp [intOf]; omega
      · obtain rfl : k = n := by omega
        have hres : Hid (splitL first X = (xs, whole)) := by
          show _ = _
          rw [hrel2.out, List.drop_of_length_le (by rw [HXN.out]; exact Nat.le_refl _)]; simp [splitL]
        obtain ⟨q1, q2, q3⟩ := hfin wr vl us xs whole least hs hres hx
        have clv := hs.bl.cell
        have cwv := hs.bw.cell
        go_wp2_with fail
        go_quiet (fail)
        go_wp2_with fail
        go_ret2
        exact ⟨_, us, by rw [hres.out]; rfl, q1, q2, drewN_ext q3 _⟩
  · have hS : splitS b first = ([], 0) := by unfold splitS; rw [if_neg hmay]
    rw [hS]
    clear hS
    go_enter Tryd.func17, Tryd.ntmps17
    go_wp2_with fail
    refine (may_any _ first).mono ?_
    rintro e w1 ⟨rfl, rfl⟩
    rw [decide_eq_false hmay]
    go_wp2_with fail
    go_ret2
    exact ⟨_, [], rfl, World.ownsRow_nil _ _ _ _, ⟨rfl, by simp⟩, Ext.refl w⟩

end Go.Proofs.YtkaepcjkpaplfaaDoor
