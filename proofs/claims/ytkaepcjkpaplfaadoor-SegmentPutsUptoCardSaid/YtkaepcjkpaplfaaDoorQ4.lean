/- The reference's records of bytes, walked. -/
import Derived.Test.YtkaepcjkpaplfaaDoorQ2
import Derived.Test.YtkaepcjkpaplfaaDoorQ3
namespace Go.Proofs.YtkaepcjkpaplfaaDoor
open Go.RowKit

theorem row_lower {W : World} {base base' : Nat} {e : TypeId} {size n : Nat} {v : Value} {xs : List Value} (h : W.ownsRow base e size v n xs) (hb : base' ≤ base) : W.ownsRow base' e size v n xs := by
  obtain ⟨h1, h2⟩ := h
  refine ⟨h1, ?_⟩
  rcases h2 with h2 | ⟨g, cap, cur, hv, hg, r⟩
  · exact .inl h2
  · exact .inr ⟨g, cap, cur, hv, Nat.le_trans hb hg, r⟩
theorem RecL.lower {W : World} {base base' : Nat} {us : List RS} {xs : List (Nat × List UInt8)} (h : RecL W base us xs) (hb : base' ≤ base) : RecL W base' us xs :=
  ⟨h.1, fun i u x h1 h2 => ⟨(h.2 i u x h1 h2).1, own_lower (h.2 i u x h1 h2).2 hb⟩⟩
theorem own_block36 {W : World} {base n : Nat} {v : Value} {xs : List Value} (h : W.ownsRow base 36 2 v n xs) {k : Nat} (hk : v.ownBlock = some k) : ∃ cur, W.heap[k]? = some (.cells cur 36 (0, 0)) := by
  rcases h.2 with ⟨e, _⟩ | ⟨g, cap, cur, e, _, hg, _⟩
  · subst e; simp [Value.ownBlock] at hk
  · subst e; simp [Value.ownBlock] at hk; subst hk; exact ⟨cur, hg⟩

theorem Ext.trans' {a w W : World} {B : Nat} (h : Ext a w) (k : Below B w W) (hB : a.heap.size ≤ B) : Ext a W := Below.trans h (Below.mono k hB)

set_option maxRecDepth 100000 in
set_option maxHeartbeats 6000000 in
theorem rsplit12_any (w : World) (v : Value) (b : List UInt8) (first : Nat) (hv : Bytes w v b) (hn : b.length ≤ 1000000000000) (h64 : first < 18446744073709551616) :
    Calls Tryd.prog 18 #[v, .int .u64 first] w fun e W => ∃ vl us, e = .returned (.tuple #[vl, .int .i64 (splitS b first).2]) ∧ W.ownsRow w.heap.size 36 2 vl us.length (rsC us) ∧ RecL W w.heap.size us (splitS b first).1 ∧ Ext w W := by
  obtain ⟨a, cap, rfl, hc, hm⟩ := hv.shape
  unfold maxLen at hm
  by_cases hmay : may first
  · have hS : splitS b first = splitL first (splitF b).1 := by unfold splitS; rw [if_pos hmay]
    rw [hS]
    clear hS
    obtain ⟨hg, hN, t, hbt, -⟩ := split_shape b.length b (Nat.le_refl _)
    have hNb : (frs (splitF b).1).length ≤ b.length := by
      have := congrArg List.length hbt
      rw [List.length_append] at this
      omega
    clear hN hbt t
    obtain ⟨f0, hf0⟩ : ∃ f0, first = f0 + 1 := ⟨first - 1, by have := hmay.1; omega⟩
    subst hf0
    have hz0 : ((f0 : Int) + 1 == 0) = false := beq_eq_false_iff_ne.2 (by omega)
    have hz1 : decide ((1099511627776 : Int) < (f0 : Int) + 1) = false := decide_eq_false (by have := hmay.2; omega)
    have hf0l : f0 < 18446744073709551615 := by omega
    clear hmay
    generalize hX : (splitF b).1 = X at *
    have HX := Lib.hid hX
    clear hX
    have hglen := good_len X hg
    go_enter Tryd.func18, Tryd.ntmps18
    go_wp2_with fail
    refine (rsplit_any _ _ b hv (by omega)).mono ?_
    rw [HX.out]
    rintro e w1 ⟨vf, rfl, hli, hx1⟩
    obtain ⟨af, cf, rfl, hcf, hmf⟩ := hli.shape
    unfold maxLen at hmf
    generalize hxn : X.length = n at *
    have HXN := Lib.hid hxn
    clear hxn
    go_wp2_with fail
    have h0 : splitL (f0 + 1) X = ([] ++ (splitL (f0 + 1) (X.drop 0)).1, 0 + (splitL (f0 + 1) (X.drop 0)).2) := by simp
    have H0 := Lib.hid h0
    clear h0
    go_loopw [6, 7, 8, 11, 12, 13, 14, 15, 16] (fun vl wh la i _ _ _ _ _ wr => ∃ (k : Nat) (us : List RS) (xs : List (Nat × List UInt8)) (whole last : Nat), k ≤ n ∧ i = .int .i64 k ∧ wh = .int .i64 whole ∧ la = .int .u64 last ∧ last < 18446744073709551615 ∧
      wr.ownsRow w1.heap.size 36 2 vl us.length (rsC us) ∧ RecL wr w1.heap.size us xs ∧ Hid (splitL (f0 + 1) X = (xs ++ (splitL (last + 1) (X.drop k)).1, whole + (splitL (last + 1) (X.drop k)).2)) ∧ whole ≤ (frs (X.take k)).length ∧ us.length ≤ k ∧ Ext w1 wr) (fun _ _ _ i _ _ _ _ _ _ => n - (intOf i).toNat)
    case atStart => exact ⟨0, [], [], 0, f0, Nat.zero_le _, rfl, rfl, rfl, hf0l, World.ownsRow_nil _ _ _ _, ⟨rfl, by simp⟩, H0, Nat.zero_le _, Nat.zero_le _, Ext.refl _⟩
    case round =>
      clear H0
      obtain ⟨k, us, xs, whole, last, hk, rfl, rfl, rfl, hla, ho, hr, hrel2, hwh, hus, hx⟩ := hrel
      obtain ⟨ao, co, rfl⟩ := own_slice ho
      have hfin : ∀ W vm um xm wm, W.ownsRow w1.heap.size 36 2 vm um.length (rsC um) → RecL W w1.heap.size um xm → Hid (splitL (f0 + 1) X = (xm, wm)) → Ext w1 W → W.ownsRow w.heap.size 36 2 vm um.length (rsC um) ∧ RecL W w.heap.size um (splitL (f0 + 1) X).1 ∧ Ext w W := fun W vm um xm wm h1 h2 h3 h4 => ⟨row_lower h1 hx1.size, by rw [h3.out]; exact h2.lower hx1.size, hx1.trans h4⟩
      have HFIN := Lib.hid hfin
      clear hfin
      by_cases hlt : k < n
      · have k1 : k < X.length := by rw [HXN.out]; exact hlt
        obtain ⟨B1, o1, u1, rfl, g1, g2⟩ := (hli.ext hx).at k1
        have hgk : Good X[k] := hg _ (List.getElem_mem _)
        have hdrop : Hid (X.drop k = X[k] :: X.drop (k + 1)) := by show _ = _; exact List.drop_eq_getElem_cons k1
        have hnext := Lib.hid (frs_take_next X k k1)
        have hle : (frs (X.take (k + 1))).length ≤ b.length := Nat.le_trans (frs_take_le X (k + 1)) hNb
        have hle0 : (frs (X.take k)).length ≤ b.length := Nat.le_trans (frs_take_le X k) hNb
        generalize X[k] = f at *
        obtain ⟨a1, c1, rfl, hcc1, -⟩ := g2.shape
        have hfl : f.length ≤ 2048 := hgk.2
        go_wp2_with fail
        refine (own03_any _ _ f g2 (by omega)).mono ?_
        rintro e w2 ⟨v2, rfl, ho2, hx2⟩
        obtain ⟨a2, c2, rfl, -, -⟩ := ho2.bytes.shape
        have hxb : Ext wr (w2.alloc (.cells #[.slice a2 f.length c2] 81)) := hx2.alloc _
        have hB : (w2.alloc (.cells #[.slice a2 f.length c2] 81)).heap[w2.heap.size]? = some (.cells #[.slice a2 f.length c2] 81 (0, 0)) := heap_alloc_new _ _
        have hl2 : Bytes (w2.alloc (.cells #[.slice a2 f.length c2] 81)) (.slice a2 f.length c2) f := ho2.bytes.ext ((Ext.refl w2).alloc _)
        have hrB : wr.heap.size ≤ w2.heap.size := hx2.size
        clear ho2
        go_wp2_with fail
        generalize w2.alloc (.cells #[.slice a2 f.length c2] 81) = w3 at *
        generalize w2.heap.size = B at *
        refine (rrnum_any w3 B _ f 1099511627776 hB hl2 (by omega) (by omega)).mono ?_
        unfold RdEnd
        rintro e w4 ⟨rfl, hbel, hsz, v4, hB4, hl4, ho4⟩
        obtain ⟨a4, c4, rfl, -, -⟩ := hl4.shape
        have hx4 : Ext wr w4 := hxb.trans' hbel hrB
        have c4B : w4.cell? ⟨B, 0, none⟩ = some (.slice a4 (vget 1099511627776 f).2.2.length c4) := cell_of_row w4 B 0 _ _ _ hB4
        have hspl := splitL_last last f (X.drop (k + 1))
        have hNm := vget_lt 1099511627776 f
        have hpl := fr_length f
        rw [hdrop.out] at hrel2
        clear hxb hB hl2 hbel hsz
        generalize (vget 1099511627776 f).1 = E at *
        generalize (vget 1099511627776 f).2.1 = N at *
        generalize (vget 1099511627776 f).2.2 = R at *
        have hgo4 := g2.ext hx4
        have g14 := hx4.cell g1
        by_cases hstop : E ≠ 0 ∨ N ≤ last ∨ 1500 < R.length
        · rw [if_pos hstop] at hspl
          have hres : Hid (splitL (f0 + 1) X = (xs, whole)) := by
            show _ = _
            rw [hrel2.out, hspl]; simp
          obtain ⟨q1, q2, q3⟩ := HFIN.out _ _ _ _ _ (ownsRow_ext ho hx4) (hr.ext hx4) hres (hx.trans hx4)
          clear hspl hrel2
          by_cases hE : E = 0
          · have hdE : ((E : Int) != 0) = false := by simp; omega
            by_cases hNl : N ≤ last
            · have hdN : decide ((N : Int) ≤ (last : Int)) = true := decide_eq_true (by omega)
              have hdNn : decide (N ≤ last) = true := decide_eq_true hNl
              subst hE
              clear hstop
              go_wp2_with fail
              go_ret2
              exact ⟨_, us, by rw [hres.out]; rfl, q1, q2, q3⟩
            · have hdN : decide ((N : Int) ≤ (last : Int)) = false := decide_eq_false (by omega)
              have hdNn : decide (N ≤ last) = false := decide_eq_false hNl
              have hdR : decide ((1500 : Int) < (R.length : Int)) = true := decide_eq_true (by omega)
              have hdRn : decide (1500 < R.length) = true := decide_eq_true (by omega)
              subst hE
              clear hstop
              go_wp2_with fail
              go_ret2
              exact ⟨_, us, by rw [hres.out]; rfl, q1, q2, q3⟩
          · have hdE : ((E : Int) != 0) = true := by simp; omega
            clear hstop
            go_wp2_with fail
            go_ret2
            exact ⟨_, us, by rw [hres.out]; rfl, q1, q2, q3⟩
        · rw [if_neg hstop] at hspl
          have hE : E = 0 := by omega
          subst hE
          have hdN : decide ((N : Int) ≤ (last : Int)) = false := decide_eq_false (by omega)
          have hdNn : decide (N ≤ last) = false := decide_eq_false (by omega)
          have hdR : decide ((1500 : Int) < (R.length : Int)) = false := decide_eq_false (by omega)
          have hdRn : decide (1500 < R.length) = false := decide_eq_false (by omega)
          have hoR := ho4 rfl
          have hnew : Hid (splitL (f0 + 1) X = ((xs ++ [(N, R)]) ++ (splitL (N + 1) (X.drop (k + 1))).1, (whole + (f.length + 8)) + (splitL (N + 1) (X.drop (k + 1))).2)) := by
            show _ = _
            rw [hrel2.out, hspl]; simp; omega
          have hN0 : N < 18446744073709551615 := by omega
          clear hspl hrel2 hstop
          go_wp2_with fail
          refine (rput_any w4 _ f hgo4).mono ?_
          rw [putR_good' hgk]
          rintro e w5 ⟨v5, rfl, ho5, hx5⟩
          simp only [] at ho5
          obtain ⟨a5, c5, rfl, -, -⟩ := ho5.bytes.shape
          have hx45 := hx4.trans hx5
          have c4B5 := hx5.cell c4B
          have hxl5 := hx45.alloc (.cells #[.int .u64 N, .slice a4 R.length c4] 36)
          have hol := ownsRow_ext ho hxl5
          have hlit := lit_recT w5 ⟨N, a4, R.length, c4⟩ 36
          have hone := one_rec ⟨N, a4, R.length, c4⟩
          have hxl := hx.trans hxl5
          have hu12 : us.length ≤ 1000000000000 := by omega
          have hszl := hxl.size
          have hpl2 : (fr f).length ≤ 2056 := by omega
          have HPL := Lib.hid hpl
          have hB1 : w1.heap.size ≤ B + 1 := by have := hx.size; omega
          have hod := own_lower hoR hB1
          have hr5 := hr.ext hx45
          have hul : Hid ((us ++ [(⟨N, a4, R.length, c4⟩ : RS)]).length = us.length + 1) := by show _ = _; simp
          have hcc : Hid (rsC (us ++ [(⟨N, a4, R.length, c4⟩ : RS)]) = rsC us ++ (⟨N, a4, R.length, c4⟩ : RS).cells) := rsC_snoc _ _
          clear hpl c4B ho5 g14 hgo4 g1 g2
          go_wp2_with (at_builtin; refine appT (.tmp 76) (.tmp 83) rfl rfl w1.heap.size us.length hol hlit hone hu12 hszl ?_; intro v9 w9 ho9 hg9; have hx10 : Ext w1 w9 := hxl.grown_none hg9 (own_base hol); obtain ⟨a9, c9, rfl⟩ := own_slice ho9)
          have hS : ∀ q, (Value.slice ao us.length co).ownBlock = some q → ∀ cs fr, w5.heap[q]? ≠ some (.cells cs 5 fr) := fun q e cs fr e2 => by
            obtain ⟨cur, hcu⟩ := own_block36 (ownsRow_ext ho hx45) e
            rw [hcu] at e2; cases e2
          have hK : Keeps (fun q => (Value.slice ao us.length co).ownBlock = some q) w5 w9 := (Keeps.of_ext ((Ext.refl w5).alloc _)).trans (Keeps.of_grown hg9 fun q e => e)
          have hr2 := (hr5.keeps hK hS).snoc (u := ⟨N, a4, R.length, c4⟩) (x := (N, R)) rfl (OwnB.keeps (hod.ext hx5) hK hS)
          go_roundw
          case rel => exact ⟨k + 1, _, _, _, N, hlt, by go_num, by rw [HPL.out]; go_num, rfl, hN0, by rw [hul.out, hcc.out]; exact ho9, hr2, hnew, by rw [hnext.out]; omega, by rw [hul.out]; omega, hx10⟩
          case measure => simp [intOf]; omega
      · obtain rfl : k = n := by omega
        have hres : Hid (splitL (f0 + 1) X = (xs, whole)) := by
          show _ = _
          rw [hrel2.out, List.drop_of_length_le (by rw [HXN.out]; exact Nat.le_refl _)]
          simp [splitL]
        obtain ⟨q1, q2, q3⟩ := HFIN.out _ _ _ _ _ ho hr hres hx
        go_wp2_with fail
        go_ret2
        exact ⟨_, us, by rw [hres.out]; rfl, q1, q2, q3⟩
  · have hS : splitS b first = ([], 0) := by unfold splitS; rw [if_neg hmay]
    rw [hS]
    clear hS
    by_cases h0 : first = 0
    · have hz0 : ((first : Int) == 0) = true := beq_iff_eq.2 (by omega)
      clear h0 hmay
      go_enter Tryd.func18, Tryd.ntmps18
      go_wp2_with fail
      go_ret2
      exact ⟨_, [], rfl, World.ownsRow_nil _ _ _ _, ⟨rfl, by simp⟩, Ext.refl _⟩
    · have hz0 : ((first : Int) == 0) = false := beq_eq_false_iff_ne.2 (by omega)
      have hz1 : decide ((1099511627776 : Int) < (first : Int)) = true := decide_eq_true (by unfold may at hmay; omega)
      have hz1n : decide (1099511627776 < first) = true := decide_eq_true (by unfold may at hmay; omega)
      clear h0 hmay
      go_enter Tryd.func18, Tryd.ntmps18
      go_wp2_with fail
      go_ret2
      exact ⟨_, [], rfl, World.ownsRow_nil _ _ _ _, ⟨rfl, by simp⟩, Ext.refl _⟩

end Go.Proofs.YtkaepcjkpaplfaaDoor
