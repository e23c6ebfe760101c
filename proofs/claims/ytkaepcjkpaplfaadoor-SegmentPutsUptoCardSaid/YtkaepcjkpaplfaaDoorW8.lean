/- Records: the reference's splitting of bytes. -/
import Derived.Test.YtkaepcjkpaplfaaDoorW7
namespace Go.Proofs.YtkaepcjkpaplfaaDoor
open Go.RowKit

/-- Slices of bytes of the call's own. -/
def Owns (W : World) (base : Nat) (us : List Value) (rs : List (List UInt8)) : Prop :=
  us.length = rs.length ∧ ∀ (i : Nat) (u : Value) (r : List UInt8), us[i]? = some u → rs[i]? = some r → OwnB W base u r
theorem Owns.ext {W W' : World} {base : Nat} {us : List Value} {rs : List (List UInt8)} (h : Owns W base us rs) (hx : Ext W W') : Owns W' base us rs :=
  ⟨h.1, fun i u r h1 h2 => (h.2 i u r h1 h2).ext hx⟩
theorem OwnB.keeps {S : Nat → Prop} {W W' : World} {base : Nat} {v : Value} {r : List UInt8} (h : OwnB W base v r) (hk : Keeps S W W') (hS : ∀ k, S k → ∀ c fr, W.heap[k]? ≠ some (.cells c 5 fr)) : OwnB W' base v r := by
  obtain ⟨h3, h3'⟩ := h
  refine ⟨h3, ?_⟩
  rcases h3' with h3' | ⟨g', cap', cur, hv, hg, hh, r⟩
  · exact .inl h3'
  · exact .inr ⟨g', cap', cur, hv, hg, hk.heap hh (fun e => hS g' e _ _ hh), r⟩
theorem Owns.keeps {S : Nat → Prop} {W W' : World} {base : Nat} {us : List Value} {rs : List (List UInt8)} (h : Owns W base us rs) (hk : Keeps S W W') (hS : ∀ k, S k → ∀ c fr, W.heap[k]? ≠ some (.cells c 5 fr)) : Owns W' base us rs :=
  ⟨h.1, fun i u r h1 h2 => (h.2 i u r h1 h2).keeps hk hS⟩
theorem Owns.snoc {W : World} {base : Nat} {us : List Value} {rs : List (List UInt8)} (h : Owns W base us rs) {u : Value} {r : List UInt8} (hr : OwnB W base u r) : Owns W base (us ++ [u]) (rs ++ [r]) := by
  refine ⟨by simp [h.1], fun i v s h1 h2 => ?_⟩
  rcases Nat.lt_trichotomy i us.length with hi | hi | hi
  · rw [List.getElem?_append_left hi] at h1
    rw [List.getElem?_append_left (by rw [← h.1]; exact hi)] at h2
    exact h.2 i v s h1 h2
  · subst hi
    rw [List.getElem?_append_right (Nat.le_refl _)] at h1
    rw [List.getElem?_append_right (by rw [h.1]; exact Nat.le_refl _)] at h2
    simp [h.1] at h1 h2
    subst h1; subst h2; exact hr
  · rw [List.getElem?_eq_none (by simp; omega)] at h1; cases h1
theorem Owns.lists {W : World} {base base' : Nat} {v : Value} {us : List Value} {rs : List (List UInt8)} (h : Owns W base us rs) (ho : W.ownsRow base' 34 1 v us.length us) : Lists W v rs :=
  ⟨us, by rw [← h.1]; exact Row.of_own ho, fun i u r h1 h2 => (h.2 i u r h1 h2).bytes⟩
theorem Recs.lists {W : World} {base base' : Nat} {v : Value} {us : List Value} {rs : List (List UInt8)} (h : Recs W base us rs) (ho : W.ownsRow base' 34 1 v us.length us) : Lists W v rs :=
  ⟨us, by rw [← h.1]; exact Row.of_own ho, fun i u r h1 h2 => (h.2 i u r h1 h2).bytes⟩

theorem ownsRow_ext {W W' : World} {base : Nat} {e : TypeId} {size n : Nat} {v : Value} {xs : List Value} (h : W.ownsRow base e size v n xs) (hx : Ext W W') : W'.ownsRow base e size v n xs :=
  ownsRow_keeps (S := fun _ => False) h (Keeps.of_grown (grown_of_ext hx) (by simp)) (fun _ h => h.elim)
theorem OwnB.some {W : World} {base n : Nat} {v : Value} {l : List UInt8} (h : OwnB W base v l) (hl : l.length = n) (h1 : 1 ≤ l.length) : ∃ g cap, v = .slice (some ⟨g, 0, none⟩) n cap := by
  rcases h.own_shape with ⟨_, e⟩ | ⟨g, cap, e, _⟩
  · subst e; simp at h1
  · exact ⟨g, cap, by rw [e, hl]⟩

theorem row_lit (w : World) (v : Value) (t : TypeId) : Row (w.alloc (.cells #[v] t)) 1 (.slice (some ⟨w.heap.size, 0, none⟩) 1 1) 1 [v] := by
  refine ⟨rfl, some ⟨w.heap.size, 0, none⟩, 1, rfl, Nat.le_refl _, by simp [maxLen], by simp, by simp, fun j u hj => ⟨_, rfl, ?_⟩⟩
  match j, hj with
  | 0, hj =>
    have h := cell_one_new w v t 0 u hj
    simpa [Addr.add] using h
  | k + 1, hj => simp at hj

theorem split_end {pre : List (List UInt8)} {b d : List UInt8} (hg : ∀ r ∈ pre, Good r) (hb : b = frs pre ++ d) (hn : nextR d = none) : splitF b = (pre, (frs pre).length) := by
  have := splitF_frs pre d hg
  rw [← hb, splitF_none hn, List.append_nil, Nat.add_zero] at this
  exact this

set_option maxRecDepth 100000 in
set_option maxHeartbeats 1000000 in
theorem rsplit_any (w : World) (v : Value) (b : List UInt8) (hv : Bytes w v b) (hn : b.length ≤ 52776558133248) :
    Calls Tryd.prog 37 #[v] w fun e W => ∃ vl, e = .returned (.tuple #[vl, .int .i64 (splitF b).2]) ∧ Lists W vl (splitF b).1 ∧ Ext w W := by
  obtain ⟨a, cap, rfl, hc, hm⟩ := hv.shape
  unfold maxLen at hm
  go_enter Tryd.func37, Tryd.ntmps37
  go_wp2_with fail
  go_loopw [4, 5] (fun vl at_ wr => ∃ (pre : List (List UInt8)) (us : List Value), (∀ r ∈ pre, Good r) ∧ b = frs pre ++ b.drop (frs pre).length ∧ at_ = .int .i64 ((frs pre).length : Nat) ∧
    wr.ownsRow w.heap.size 34 1 vl us.length us ∧ Owns wr w.heap.size us pre ∧ Ext w wr ∧ 9 * pre.length ≤ (frs pre).length) (fun _ at_ _ => b.length - (intOf at_).toNat)
  case atStart => exact ⟨[], [], by simp, by simp [frs], by simp [frs], World.ownsRow_nil _ _ _ _, ⟨rfl, by simp⟩, Ext.refl w, by simp⟩
  case round =>
    obtain ⟨pre, us, hg, hbe, rfl, ho, hos, hx, h9⟩ := hrel
    obtain ⟨d, hd⟩ : ∃ d, b.drop (frs pre).length = d := ⟨_, rfl⟩
    rw [hd] at hbe
    have hlen : b.length = (frs pre).length + d.length := by
      conv => lhs; rw [hbe]
      rw [List.length_append]
    have hfin := fun hn : nextR d = none => split_end hg hbe hn
    have hlist := hos.lists ho
    have hbd : ∀ i (hi : i < d.length), ∃ bl o, a = some ⟨bl, o, none⟩ ∧ wr.cell? ⟨bl, o + ((frs pre).length + i), none⟩ = some (.int .u8 (d[i].toNat : Int)) := fun i hi => by
      obtain ⟨bl, o, e, h⟩ := (hv.ext hx).at (k := (frs pre).length + i) (by omega)
      refine ⟨bl, o, e, ?_⟩
      have : b[(frs pre).length + i]'(by omega) = d[i] := by
        subst hd
        rw [List.getElem_drop]
      rw [this] at h; exact h
    obtain ⟨q, hq⟩ : ∃ q, (frs pre).length = q := ⟨_, rfl⟩
    rw [hq] at hlen hfin h9 ⊢
    simp only [hq] at hbd
    have HQ := Lib.hid hq; clear hq
    have HD := Lib.hid hd; clear hd
    have HLEN := Lib.hid hlen
    have hqb : q ≤ b.length := by omega
    have hqi : (q : Int) ≤ 52776558133248 := by omega
    have HBE := Lib.hid hbe; clear hbe
    by_cases h9d : d.length < 9
    · have hd1 : decide ((9 : Int) ≤ (b.length : Int) - (q : Int)) = false := decide_eq_false (by omega)
      have hs := hfin (nextR_short h9d)
      have HS := Lib.hid hs; clear hs hlen
      go_wp2_with fail
      go_ret2
      exact ⟨_, by rw [HS.out]; rfl, by rw [HS.out]; exact hlist, hx⟩
    have hd1 : decide ((9 : Int) ≤ (b.length : Int) - (q : Int)) = true := decide_eq_true (by omega)
    have h9d' : 9 ≤ d.length := by omega
    obtain ⟨bl, o, rfl, k0⟩ := hbd 0 (by omega)
    obtain ⟨_, _, e', k1⟩ := hbd 1 (by omega)
    simp only [Option.some.injEq, Addr.mk.injEq, and_true] at e'; obtain ⟨rfl, rfl⟩ := e'
    obtain ⟨_, _, e', k2⟩ := hbd 2 (by omega)
    simp only [Option.some.injEq, Addr.mk.injEq, and_true] at e'; obtain ⟨rfl, rfl⟩ := e'
    obtain ⟨_, _, e', k3⟩ := hbd 3 (by omega)
    simp only [Option.some.injEq, Addr.mk.injEq, and_true] at e'; obtain ⟨rfl, rfl⟩ := e'
    have i0 : (q : Int) < b.length := by omega
    have i1 : (q : Int) + 1 < b.length := by omega
    have i2 : (q : Int) + 2 < b.length := by omega
    have i3 : (q : Int) + 3 < b.length := by omega
    simp only [Nat.add_zero] at k0
    have hhigh := nextR_high h9d'
    have hlow := numF_low h9d'
    have b0 := byte_lt d[0]; have b1 := byte_lt d[1]
    have z2 : d[2] = 0 ↔ (d[2].toNat : Int) = 0 := ⟨fun e => by rw [e]; rfl, fun e => UInt8.toNat_inj.1 (by simpa using e)⟩
    have z3 : d[3] = 0 ↔ (d[3].toNat : Int) = 0 := ⟨fun e => by rw [e]; rfl, fun e => UInt8.toNat_inj.1 (by simpa using e)⟩
    generalize d[0] = c0 at *
    generalize d[1] = c1 at *
    generalize d[2] = c2 at *
    generalize d[3] = c3 at *
    by_cases t2 : c2 = 0
    · have hd2 : ((c2.toNat : Int) != 0) = false := by rw [z2.1 t2]; rfl
      by_cases t3 : c3 = 0
      · have hd3 : ((c3.toNat : Int) != 0) = false := by rw [z3.1 t3]; rfl
        have hN := hlow t2 t3
        clear z2 z3 hhigh hlow
        have hcast : Value.int .i64 ((c0.toNat : Int) + 256 * (c1.toNat : Int)) = .int .i64 (numF d : Nat) := by rw [hN]; simp
        have HC := Lib.hid hcast; clear hcast
        have hbad := fun h => hfin (nextR_bad (d := d) h)
        have htest := nextR_test (d := d)
        have hN4 : numF d ≤ 66000 := by omega
        clear hN hfin
        generalize numF d = N at *
        clear hlen
        go_wp2_with fail
        go_quiet (fail)
        rw [HC.out]
        clear k0 k1 k2 k3 hd2 hd3 b0 b1
        have hlen := HLEN.out
        by_cases n0 : N = 0
        · have hd4 : ((N : Int) == 0) = true := beq_iff_eq.2 (by omega)
          have hs := hbad (.inl (by omega))
          have HS := Lib.hid hs; clear hs hlen hbad htest
          go_wp2_with fail
          go_ret2
          exact ⟨_, by rw [HS.out]; rfl, by rw [HS.out]; exact hlist.ext (Ext.drewN _ _), hx.trans (Ext.drewN _ _)⟩
        have hd4 : ((N : Int) == 0) = false := beq_eq_false_iff_ne.2 (by omega)
        by_cases n1 : 2048 < N
        · have hd5 : decide ((2048 : Int) < N) = true := decide_eq_true (by omega)
          have hs := hbad (.inr (.inl n1))
          have HS := Lib.hid hs; clear hs hlen hbad htest
          go_wp2_with fail
          go_ret2
          exact ⟨_, by rw [HS.out]; rfl, by rw [HS.out]; exact hlist.ext (Ext.drewN _ _), hx.trans (Ext.drewN _ _)⟩
        have hd5 : decide ((2048 : Int) < N) = false := decide_eq_false (by omega)
        by_cases n2 : d.length < N + 8
        · have hd6 : decide ((b.length : Int) - q < N + 8) = true := decide_eq_true (by omega)
          have hs := hbad (.inr (.inr n2))
          have HS := Lib.hid hs; clear hs hlen hbad htest
          go_wp2_with fail
          go_ret2
          exact ⟨_, by rw [HS.out]; rfl, by rw [HS.out]; exact hlist.ext (Ext.drewN _ _), hx.trans (Ext.drewN _ _)⟩
        have hd6 : decide ((b.length : Int) - q < N + 8) = false := decide_eq_false (by omega)
        have htest := htest (by omega) (by omega) (by omega)
        clear hbad
        obtain ⟨rec, hrec⟩ : ∃ rec, (d.drop 4).take N = rec := ⟨_, rfl⟩
        have hrl : rec.length = N := by rw [← hrec]; simp; omega
        have hcut : (b.take (q + 4 + N)).drop (q + 4) = rec := by
          rw [← hrec, List.drop_take, ← HD.out, HQ.out, List.drop_drop, Nat.add_sub_cancel_left]
        have hcut2 : (b.take (q + N + 8)).drop q = d.take (N + 8) := by
          rw [List.drop_take, ← HD.out, HQ.out]; congr 1; omega
        rw [hrec] at htest
        have hput : putR rec = (fr rec, 0) := by rw [putR, if_neg (by omega), if_neg (by omega)]
        have hgood : Good rec := ⟨by omega, by omega⟩
        have e1 : (0 : Int) ≤ (q : Int) + 4 ∧ ((q : Int) + 4).toNat = q + 4 := by omega
        have e2 : (0 : Int) ≤ (q : Int) + 4 + N ∧ ((q : Int) + 4 + N).toNat = q + 4 + N := by omega
        have e3 : (0 : Int) ≤ (q : Int) ∧ ((q : Int)).toNat = q := by omega
        have e4 : (0 : Int) ≤ (q : Int) + N + 8 ∧ ((q : Int) + N + 8).toNat = q + N + 8 := by omega
        have i5 : q + 4 + N ≤ b.length := by omega
        have i6 : q + N + 8 ≤ b.length := by omega
        have E1 := Lib.hid e1; have E2 := Lib.hid e2; have E3 := Lib.hid e3; have E4 := Lib.hid e4
        have HTEST := Lib.hid htest; have HCUT := Lib.hid hcut; have HCUT2 := Lib.hid hcut2; have HPUT := Lib.hid hput; have HRL := Lib.hid hrl; have HREC := Lib.hid hrec
        clear e1 e2 e3 e4 htest hcut hcut2 hput hlen
        generalize hW0 : wr.drewN nq = W0
        have hxd : Ext wr W0 := by rw [← hW0]; exact Ext.drewN _ _
        clear hW0
        have hx0 : Ext w W0 := hx.trans hxd
        have ho0 := ownsRow_ext ho hxd
        have hos0 := hos.ext hxd
        clear hrl hrec
        go_wp2_with (first | (refine cutB (.tmp 62) (some (.tmp 64)) (some (.tmp 68)) (q + 4) (q + 4 + N) rfl rfl (hv.ext hx0) ⟨_, _, rfl, E1.out.1, E1.out.2⟩ ⟨_, _, rfl, E2.out.1, E2.out.2⟩ (by omega) i5 ?_; intro v69 h69; rw [HCUT.out] at h69) | (at_builtin; refine appB (.tmp 61) (.tmp 69) rfl rfl w.heap.size (OwnB.nil _ _) h69 (by have := HRL.out; simp only [List.length_nil]; omega) hx0.size ?_; intro v70 W1 ho70 hg70; rw [List.nil_append] at ho70; obtain ⟨g70, cap70, rfl⟩ := ho70.some HRL.out hgood.1))
        have hx1 : Ext w W1 := hx0.mono_grown (OwnB.nil W0 w.heap.size) (Nat.le_refl _) hg70
        have hxg : Ext W0 W1 := (Ext.refl W0).mono_grown (OwnB.nil W0 W0.heap.size) (Nat.le_refl _) hg70
        refine (rput_any W1 _ rec ho70.bytes).mono ?_
        rintro e W2 ⟨v8, rfl, ho8, hx2⟩
        rw [HPUT.out] at ho8 ⊢
        simp only [] at ho8
        have hx3 := hx1.trans hx2
        have hB2 := hv.ext hx3
        have ho2 := ownsRow_ext ho0 (hxg.trans hx2)
        have hos2 := (hos0.ext (hxg.trans hx2)).snoc (ho70.ext hx2)
        go_wp2_with fail
        refine wp_region_facts [Fact.eq v8,
            Fact.eq (.string (strOf (fr rec))),
            Fact.eq (.slice (some ⟨bl, o, none⟩) b.length cap),
            Fact.eq (.int .i64 q),
            Fact.eq (.int .i64 q),
            Fact.eq (.int .i64 N),
            Fact.eq (.int .i64 ((q : Int) + N)),
            Fact.eq (.int .i64 ((q : Int) + N + 8)),
            Fact.bytes (d.take (N + 8)),
            Fact.eq (.string (strOf (d.take (N + 8)))),
            Fact.eq (.bool !(fr rec == d.take (N + 8)))]
          [[], [(0, 76)], [], [], [], [], [(4, 80), (5, 81)], [(6, 82)], [(2, 78), (3, 79), (7, 83)], [(8, 84)], [(1, 77), (9, 85)]]
          [(0, 76), (1, 77), (2, 78), (3, 79), (4, 80), (5, 81), (6, 82), (7, 83), (8, 84), (9, 85), (10, 86)] (by kernel_rfl) (by kernel_rfl) ?_ ?_
        · refine ⟨?_, ?_, ?_, ?_, ?_, ?_, ?_, ?_, ?_, ?_, ?_, trivial⟩
          · intro w1 hx1; change wpList _ _ _ _ _ _; exact ob_move rfl rfl rfl rfl rfl
          · intro w1 hx1; rintro _ rfl; change wpList _ _ _ _ _ _; refine strB _ rfl rfl (ho8.bytes.ext hx1) ?_; exact wpList_nil ⟨rfl, Ext.refl _, rfl, rfl⟩
          · intro w1 hx1; change wpList _ _ _ _ _ _; exact ob_move rfl rfl rfl rfl rfl
          · intro w1 hx1; change wpList _ _ _ _ _ _; exact ob_move rfl rfl rfl rfl rfl
          · intro w1 hx1; change wpList _ _ _ _ _ _; exact ob_move rfl rfl rfl rfl rfl
          · intro w1 hx1; change wpList _ _ _ _ _ _; exact ob_move rfl rfl rfl rfl rfl
          · intro w1 hx1; rintro _ rfl; rintro _ rfl; change wpList _ _ _ _ _ _; go_wp2_with fail; exact ⟨rfl, Ext.refl _, rfl, rfl⟩
          · intro w1 hx1; rintro _ rfl; change wpList _ _ _ _ _ _; go_wp2_with fail; exact ⟨rfl, Ext.refl _, rfl, rfl⟩
          · intro w1 hx1; rintro _ rfl; rintro _ rfl; rintro _ rfl; change wpList _ _ _ _ _ _; refine cutB _ _ _ q (q + N + 8) rfl rfl (hB2.ext hx1) ⟨_, _, rfl, E3.out.1, E3.out.2⟩ ⟨_, _, rfl, E4.out.1, E4.out.2⟩ (by omega) i6 ?_; intro v hv'; rw [HCUT2.out] at hv'; exact wpList_nil ⟨rfl, Ext.refl _, rfl, hv'⟩
          · intro w1 hx1; intro v84 h84; change wpList _ _ _ _ _ _; refine strB _ rfl rfl h84 ?_; exact wpList_nil ⟨rfl, Ext.refl _, rfl, rfl⟩
          · intro w1 hx1; rintro _ rfl; rintro _ rfl; change wpList _ _ _ _ _ _; go_wp2_with fail; exact ⟨rfl, Ext.refl _, rfl, rfl⟩
        · intro w1 hx1; rintro _ rfl; rintro _ rfl; rintro _ rfl; rintro _ rfl; rintro _ rfl; rintro _ rfl; rintro _ rfl; rintro _ rfl; intro v84 h84; rintro _ rfl; rintro _ rfl; refine depsThen_nil ?_; dsimp only; simp only [Act.put, List.setIfInBounds_toArray, List.set_cons_zero, List.set_cons_succ]
          replace h84 : Bytes w1 v84 (d.take (N + 8)) := h84
          have hx4 := hx3.trans hx1
          have ho4 := ownsRow_ext ho2 hx1
          have hos4 := hos2.ext hx1
          have hos5 := (hos0.ext (hxg.trans hx2)).ext hx1
          have hlist4 := hos5.lists ho4
          have htst := HTEST.out
          by_cases ht : fr rec = d.take (N + 8)
          · rw [if_pos ht] at htst
            have hd : (fr rec == d.take (N + 8)) = true := by simp [ht]
            have hd8 : d = fr rec ++ d.drop (N + 8) := by rw [ht, List.take_append_drop]
            have HD8 := Lib.hid hd8; clear hd8
            have HT := Lib.hid htst; clear htst
            clear ht h84
            generalize (fr rec == d.take (N + 8)) = Bq at hd ⊢
            subst hd
            have hus : us.length = pre.length := hos.1
            have hb3 : (us.length + 1) * 24 ≤ 140737488355328 := by have := HLEN.out; omega
            have HUS := Lib.hid hus; clear hus
            have hxa : ∀ o' : Obj, Ext w1 (w1.alloc o') := fun o' => (Ext.refl w1).alloc o'
            go_wp2_with (at_builtin; refine wpList_append_row 55 34 (.tmp 89) (.tmp 91) rfl w.heap.size (.slice none 0 0) 1 24 Tryd.underlying55 info34 rfl (by decide) rfl _ us.length us rfl (ownsRow_ext ho4 (hxa _)) 1 [.slice (some ⟨g70, 0, none⟩) N cap70] (row_lit _ _ _) (by simp [Value.oneCell']) hb3 (by simp only [maxLen]; omega) (by simp only [size_alloc']; exact Nat.le_succ_of_le hx4.size) ?_; intro v92 W5 ho92 hg92)
            have hx5 : Ext w W5 := Ext.grown_none (hx4.trans (hxa (.cells #[.slice (some ⟨g70, 0, none⟩) N cap70] 34))) hg92 (own_base (ownsRow_ext ho4 (hxa (.cells #[.slice (some ⟨g70, 0, none⟩) N cap70] 34))))
            have hos6 := (hos4.ext (hxa (.cells #[.slice (some ⟨g70, 0, none⟩) N cap70] 34))).keeps (S := fun k => some k = Value.ownBlock _) (Keeps.of_grown hg92 (fun k e => e.symm)) (fun k e => own_not_u8 (ownsRow_ext ho4 (hxa (.cells #[.slice (some ⟨g70, 0, none⟩) N cap70] 34))) e)
            have hfl : (frs (pre ++ [rec])).length = q + (N + 8) := by rw [frs_snoc, List.length_append, fr_length, HQ.out, HRL.out]
            go_roundw
            case rel =>
              refine ⟨pre ++ [rec], us ++ [.slice (some ⟨g70, 0, none⟩) N cap70], fun x hx => ?_, ?_, ?_, ?_, hos6, hx5, ?_⟩
              · rcases List.mem_append.1 hx with hx | hx
                · exact hg x hx
                · rw [List.mem_singleton.1 hx]; exact hgood
              · have h1 : b = frs (pre ++ [rec]) ++ d.drop (N + 8) := by rw [frs_snoc, List.append_assoc, ← HD8.out]; exact HBE.out
                conv => rhs; rw [h1, List.drop_left' rfl]
                exact h1
              · rw [hfl]; congr 1
              · rw [List.length_append, List.length_singleton]; exact ho92
              · rw [hfl, List.length_append, List.length_singleton]; omega
            case measure => simp only [intOf]; have := HLEN.out; omega
          · rw [if_neg ht] at htst
            have hd : (fr rec == d.take (N + 8)) = false := by simp [ht]
            clear ht h84
            generalize (fr rec == d.take (N + 8)) = Bq at hd ⊢
            subst hd
            have hs := split_end hg HBE.out htst
            rw [HQ.out] at hs
            have HS := Lib.hid hs; clear hs htst
            go_wp2_with fail
            go_ret2
            exact ⟨_, by rw [HS.out]; rfl, by rw [HS.out]; exact hlist4, hx4⟩
      · have hd3 : ((c3.toNat : Int) != 0) = true := bne_iff_ne.2 (fun e => t3 (z3.2 e))
        have hs := hfin (hhigh (.inr t3))
        have HS := Lib.hid hs; clear hs hlen
        clear z2 z3 hhigh hlow
        go_wp2_with fail
        go_ret2
        exact ⟨_, by rw [HS.out]; rfl, by rw [HS.out]; exact hlist, hx⟩
    · have hd2 : ((c2.toNat : Int) != 0) = true := bne_iff_ne.2 (fun e => t2 (z2.2 e))
      have hs := hfin (hhigh (.inl t2))
      have HS := Lib.hid hs; clear hs hlen
      go_wp2_with fail
      go_ret2
      exact ⟨_, by rw [HS.out]; rfl, by rw [HS.out]; exact hlist, hx⟩

end Go.Proofs.YtkaepcjkpaplfaaDoor
