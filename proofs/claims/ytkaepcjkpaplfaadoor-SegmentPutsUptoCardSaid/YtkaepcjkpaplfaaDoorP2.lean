/- Records that may stand in one segment, walked: laid. -/
import Derived.Test.YtkaepcjkpaplfaaDoorP1
import Derived.Deep.DeepCutAuto
namespace Go.Proofs.YtkaepcjkpaplfaaDoor
open Go.RowKit

/-- Records whose numbers rise from n on, and their data. -/
def laidL : Nat → Nat → List UInt8 → List (List UInt8) → List (Nat × List UInt8)
  | 0, _, _, _ => []
  | _ + 1, _, [], _ => []
  | k + 1, n, s :: ss, ds => if may (n + s.toNat) then (n + s.toNat, (ds.headD []).take 1500) :: laidL k (n + s.toNat + 1) ss ds.tail else []

def formOf (x : Nat × List UInt8) : List UInt8 := fr (vput x.1 ++ x.2)
def formsOf (xs : List (Nat × List UInt8)) : List UInt8 := (xs.map formOf).flatten
theorem formsOf_snoc (xs : List (Nat × List UInt8)) (x : Nat × List UInt8) : formsOf (xs ++ [x]) = formsOf xs ++ formOf x := by simp [formsOf]

theorem data_none {ds : List (List UInt8)} {k : Nat} (h : ds.length ≤ k) : ((ds.drop k).headD []).take 1500 = [] := by
  rw [List.drop_of_length_le h]; rfl
theorem data_some {ds : List (List UInt8)} {k : Nat} (h : k < ds.length) : ((ds.drop k).headD []).take 1500 = ds[k].take 1500 := by
  rw [List.drop_eq_getElem_cons h]; rfl

theorem bytes_take {w : World} {a : Option Addr} {c : Nat} {d : List UInt8} (h : Bytes w (.slice a d.length c) d) (j : Nat) : Bytes w (.slice a (d.take j).length c) (d.take j) := by
  obtain ⟨hl, a', c', e, hc, hm, hnil, hspot, hcell⟩ := h
  simp only [Value.slice.injEq] at e
  obtain ⟨rfl, -, rfl⟩ := e
  refine ⟨by simp, a, c, rfl, by rw [List.length_take]; omega, hm, hnil, hspot, fun i u hi => hcell i u ?_⟩
  rw [List.getElem?_map, List.getElem?_take] at hi
  split at hi
  · rw [List.getElem?_map]; exact hi
  · cases hi

theorem own40_grow5 {W W' : World} {base b2 n : Nat} {v v2 : Value} {xs : List Value} {l : List UInt8} (h : W.ownsRow base 40 2 v n xs) (hb : OwnB W b2 v2 l) (hg : W.grownBy W' v2.ownBlock) : W'.ownsRow base 40 2 v n xs :=
  ownsRow_keeps h (Keeps.of_grown (S := fun k => v2.ownBlock = some k) hg fun k e => e) fun k hk e => by
    obtain ⟨cur, hc⟩ := own_block40 h e.symm
    rcases hb.2 with ⟨rfl, _⟩ | ⟨g, cap, cu2, rfl, _, hh, _⟩
    · cases hk
    · have : g = k := Option.some.inj hk
      subst this
      rw [hh] at hc; cases hc
theorem ownB_grow40 {W W' : World} {base b2 n : Nat} {v v2 : Value} {xs : List Value} {l : List UInt8} (h : OwnB W b2 v2 l) (ho : W.ownsRow base 40 2 v n xs) (hg : W.grownBy W' v.ownBlock) : OwnB W' b2 v2 l :=
  OwnB.keeps h (Keeps.of_grown (S := fun k => v.ownBlock = some k) hg fun k e => e) fun k hk c fr e => by
    obtain ⟨cur, hc⟩ := own_block40 ho hk
    rw [hc] at e; cases e

set_option maxRecDepth 100000 in
set_option maxHeartbeats 4000000 in
theorem laid_any (w : World) (v1 v2 : Value) (first : Nat) (ss : List UInt8) (ds : List (List UInt8)) (h1 : Bytes w v1 ss) (h2 : Lists w v2 ds) (hf : first ≤ 1099511627777) :
    Calls Tryd.prog 24 #[.int .u64 first, v1, v2] w fun e W => ∃ vl vb us, e = .returned (.tuple #[vl, vb]) ∧ W.ownsRow w.heap.size 40 2 vl us.length (rsC us) ∧ Lst W vl (laidL 40 first ss ds) ∧ us.length = (laidL 40 first ss ds).length ∧
      OwnB W w.heap.size vb (formsOf (laidL 40 first ss ds)) ∧ Ext w W := by
  obtain ⟨a1, c1, rfl, hc1, hm1⟩ := h1.shape
  obtain ⟨a2, c2, rfl, hc2, hm2⟩ := h2.shape
  unfold maxLen at hm1 hm2
  generalize hL : laidL 40 first ss ds = L
  have HL := Lib.hid hL
  clear hL
  generalize hn1 : ss.length = n1 at *
  have HN1 := Lib.hid hn1
  generalize hn2 : ds.length = n2 at *
  have HN2 := Lib.hid hn2
  clear hn1 hn2
  go_enter Tryd.func24, Tryd.ntmps24
  go_wp2_with fail
  go_loopw [8, 9, 10, 19] (fun vl vb n i wr => ∃ (k m : Nat) (us : List RS) (xs : List (Nat × List UInt8)), k ≤ n1 ∧ k ≤ 40 ∧ i = .int .i64 k ∧ n = .int .u64 m ∧ m ≤ 1099511627777 ∧ Hid (L = xs ++ laidL (40 - k) m (ss.drop k) (ds.drop k)) ∧
    wr.ownsRow w.heap.size 40 2 vl us.length (rsC us) ∧ us.length = xs.length ∧ xs.length ≤ k ∧ (∀ (j : Nat) (u : RS) (x : Nat × List UInt8), us[j]? = some u → xs[j]? = some x → x.1 = u.n ∧ Bytes w (.slice u.a u.m u.c) x.2) ∧
    OwnB wr w.heap.size vb (formsOf xs) ∧ (formsOf xs).length ≤ 2000 * xs.length ∧ Ext w wr) (fun _ _ _ i _ => n1 - (intOf i).toNat)
  case atStart => exact ⟨0, first, [], [], Nat.zero_le _, by omega, rfl, rfl, hf, HL.out.symm, World.ownsRow_nil _ _ _ _, rfl, Nat.zero_le _, by simp, OwnB.nil _ _, by simp [formsOf], Ext.refl w⟩
  case round =>
    obtain ⟨k, m, us, xs, hk, hk40, rfl, rfl, hm, hrel2, hol, hul, hxk, hrs, hob, hbl, hx⟩ := hrel
    have hfin : ∀ (W : World) (um : List RS) (xm : List (Nat × List UInt8)) (vm vn : Value), Hid (L = xm) → wr.ownsRow w.heap.size 40 2 vm um.length (rsC um) → um.length = xm.length →
        (∀ (j : Nat) (u : RS) (x : Nat × List UInt8), um[j]? = some u → xm[j]? = some x → x.1 = u.n ∧ Bytes w (.slice u.a u.m u.c) x.2) → OwnB wr w.heap.size vn (formsOf xm) → Ext w W → Ext wr W →
        W.ownsRow w.heap.size 40 2 vm um.length (rsC um) ∧ Lst W vm L ∧ um.length = L.length ∧ OwnB W w.heap.size vn (formsOf L) ∧ Ext w W := fun W um xm vm vn e1 e2 e3 e4 e5 e6 e7 => by
      have e1' := e1.out
      subst e1'
      exact ⟨ownsRow_ext e2 e7, ⟨um, Row.of_own (ownsRow_ext e2 e7), e3, fun j u x h1 h2 => ⟨(e4 j u x h1 h2).1, (e4 j u x h1 h2).2.ext e6⟩⟩, e3, e5.ext e7, e6⟩
    by_cases hlt : k < n1
    · by_cases h40 : k = 40
      · have hres : Hid (L = xs) := by show _ = _; rw [hrel2.out, h40]; simp [laidL]
        obtain ⟨b, o, s, rfl, hs, hcell⟩ := h1.get (show k < ss.length by rw [HN1.out]; exact hlt)
        have hcs := hx.cell hcell
        have hd40 : ((k : Int) == 40) = true := beq_iff_eq.2 (by omega)
        clear h40
        obtain ⟨q1, q2, q3, q4, q5⟩ := hfin wr us xs _ _ hres hol hul hrs hob hx (Ext.refl wr)
        go_wp2_with fail
        go_ret2
        exact ⟨_, _, us, rfl, q1, q2, q3, q4, q5⟩
      · have k1 : k < ss.length := by rw [HN1.out]; exact hlt
        obtain ⟨b, o, s, rfl, hs, hcell⟩ := h1.get k1
        have hcs := hx.cell hcell
        have hd40 : ((k : Int) == 40) = false := beq_eq_false_iff_ne.2 (by omega)
        have hsb := byte_lt s
        have hms : m + s.toNat < 18446744073709551616 := by omega
        go_upto_if 34 with fail
        go_cut [] from 34 to 46 (fun wx => ∃ (a : Option Addr) (c : Nat) (D : List UInt8), Hid (D = ((ds.drop k).headD []).take 1500) ∧ D.length ≤ 1500 ∧ Bytes w (.slice a D.length c) D ∧
          wx.heap[wr.heap.size]? = some (.cells #[.int .u64 ((m : Int) + (s.toNat : Int)), .slice a D.length c] 40 (0, 0)) ∧ Ext wr wx)
        case first =>
          by_cases hdl : k < n2
          · have kd : k < ds.length := by rw [HN2.out]; exact hdl
            obtain ⟨bl, o2, u, rfl, hu, hB⟩ := h2.at kd
            have hdat := Lib.hid (data_some kd)
            generalize ds[k] = d at *
            obtain ⟨au, cu, rfl, hcu1, hcu2⟩ := hB.shape
            unfold maxLen at hcu2
            have hcu := (hx.alloc (.cells #[.int .u64 ((m : Int) + (s.toNat : Int)), .slice none 0 0] 40)).cell hu
            have hq : Hid ((if (1500 : Int) < (d.length : Int) then (1500 : Int) else (d.length : Int)).toNat = (d.take 1500).length) := by
              show _ = _
              rw [List.length_take]
              split <;> omega
            have hBt := bytes_take hB 1500
            go_wp2_with fail
            go_region
            rw [hq.out]
            have hq15 : (d.take 1500).length ≤ 1500 := by rw [List.length_take]; omega
            generalize hqq : (d.take 1500).length = q at *
            have HQ := Lib.hid hqq
            clear hqq hq
            go_wp2_with fail
            all_goals
             go_meet
             refine ⟨au, cu, d.take 1500, hdat.out.symm, by rw [HQ.out]; exact hq15, by rw [HQ.out]; exact hBt, ?_, ((Ext.refl wr).alloc _).drew⟩
             rw [HQ.out]
             exact heap_alloc_new _ _
          · have hdat := Lib.hid (data_none (ds := ds) (k := k) (by rw [HN2.out]; omega))
            go_wp2_with fail
            go_meet
            exact ⟨none, 0, [], hdat.out.symm, Nat.zero_le _, Bytes.nil _, heap_alloc_new _ _, (Ext.refl wr).alloc _⟩
        case rest =>
          obtain ⟨a, c, D, hD, hDl, hBD, hR, hxw⟩ := hcut
          have hRl : wr.heap.size < wc.heap.size := (Array.getElem?_eq_some_iff.1 hR).1
          have r0 := cell_of_row wc wr.heap.size 0 _ _ _ hR
          have r1 := cell_of_row wc wr.heap.size 1 _ _ _ hR
          simp at r0 r1
          have hBc := hBD.ext (hx.trans hxw)
          have e1 : ((m : Int) + (s.toNat : Int)) = ((m + s.toNat : Nat) : Int) := by omega
          rw [e1] at r0
          clear e1
          go_wp2_with fail
          refine (sput_any _ (m + s.toNat) _ D hBc (by omega)).mono ?_
          have hfs : Hid (laidL (40 - k) m (ss.drop k) (ds.drop k) = if may (m + s.toNat) then (m + s.toNat, D) :: laidL (40 - (k + 1)) (m + s.toNat + 1) (ss.drop (k + 1)) (ds.drop (k + 1)) else []) := by
            show _ = _
            have e40 : 40 - k = (40 - (k + 1)) + 1 := by omega
            have ess : ss.drop k = s :: ss.drop (k + 1) := by
              rw [List.drop_eq_getElem_cons k1]
              rw [List.getElem?_eq_getElem k1] at hs
              rw [Option.some.inj hs]
            have eds : (ds.drop k).tail = ds.drop (k + 1) := by rw [List.tail_drop]
            rw [e40, ess, hD.out, ← eds]
            rfl
          by_cases hmay : may (m + s.toNat)
          · have hput : putS (m + s.toNat) D = (fr (vput (m + s.toNat) ++ D), 0) := by unfold putS; rw [if_neg (not_not_intro hmay), if_neg (by omega)]
            rw [hput]
            rw [if_pos hmay] at hfs
            clear hput
            rintro e w4 ⟨vf, rfl, hof, hx4⟩
            simp only [] at hof
            have hml := hmay.2
            have hxw4 := hxw.trans hx4
            have hfl : (fr (vput (m + s.toNat) ++ D)).length ≤ 2000 := by
              have := vput_length (m + s.toNat)
              rw [fr_length, List.length_append]; omega
            have hfb := hof.bytes
            have hol4 := ownsRow_ext hol hxw4
            have hob4 := hob.ext hxw4
            have hR4 := (hx4.block wr.heap.size hRl).trans hR
            have s0 := hx4.cell r0
            have s1 := hx4.cell r1
            have hlit := lit_rec w4 ⟨m + s.toNat, a, D.length, c⟩
            have hone : ∀ u ∈ (RS.mk (m + s.toNat) a D.length c).cells, u.oneCell' = true := by intro u hu; simp [RS.cells] at hu; rcases hu with rfl | rfl <;> rfl
            obtain ⟨al, cl, rfl⟩ := own_slice hol
            obtain ⟨ab, cb, rfl, -, -⟩ := hob.bytes.shape
            obtain ⟨af, cf, rfl, -, -⟩ := hfb.shape
            have HUL := Lib.hid hul
            clear hul
            have hwl : Ext w4 (w4.alloc (.cells #[.int .u64 ((m + s.toNat : Nat) : Int), .slice a D.length c] 40)) := (Ext.refl w4).alloc _
            have hol5 := ownsRow_ext hol4 hwl
            have hob5 := hob4.ext hwl
            have hof5 := hof.ext hwl
            have hwb : w.heap.size ≤ (w4.alloc (.cells #[.int .u64 ((m + s.toNat : Nat) : Int), .slice a D.length c] 40)).heap.size := Nat.le_trans hx.size (Nat.le_trans hxw4.size hwl.size)
            have hroom : (formsOf xs).length + (fr (vput (m + s.toNat) ++ D)).length ≤ 140737488355328 := by omega
            have hul12 : us.length ≤ 1000000000000 := by rw [HUL.out]; omega
            have hxwl := hx.trans (hxw4.trans hwl)
            have hRn1 : ∀ e : some wr.heap.size = (Value.slice al us.length cl).ownBlock, False := fun e => by
              obtain ⟨cur', hc'⟩ := own_block40 hol e.symm
              have := (Array.getElem?_eq_some_iff.1 hc').1
              omega
            have hRn2 : ∀ e : some wr.heap.size = (Value.slice ab (formsOf xs).length cb).ownBlock, False := fun e => by
              rcases hob.2 with ⟨e0, _⟩ | ⟨g', cap', cur', e0, _, hh, _⟩
              · rw [e0] at e; cases e
              · rw [e0] at e
                have e9 : wr.heap.size = g' := Option.some.inj e
                have := (Array.getElem?_eq_some_iff.1 hh).1
                omega
            have hR4l : wr.heap.size < w4.heap.size := (Array.getElem?_eq_some_iff.1 hR4).1
            have hRl' := (hwl.block wr.heap.size hR4l).trans hR4
            have HR4 := Lib.hid hRl'
            have hR5l : wr.heap.size < (w4.alloc (.cells #[.int .u64 ((m + s.toNat : Nat) : Int), .slice a D.length c] 40)).heap.size := Nat.lt_of_lt_of_le hR4l hwl.size
            clear hRl' hR4 hR
            go_wp2_with (first | (at_builtin; refine appS (.tmp 54) (.tmp 56) rfl rfl w.heap.size us.length hol5 hlit hone hul12 hwb ?_; intro v5 w5 ho5 hg5; have hob6 := ownB_grow40 hob5 hol5 hg5; have hof6 := ownB_grow40 hof5 hol5 hg5; have hx5 : Ext w w5 := hxwl.grown_none hg5 (own_base hol5); obtain ⟨g5, c5, _, rfl, _, _, _, _⟩ := own_shape2 ho5 (Nat.succ_pos _); have hbb := hx5.size; have hof6b := hof6.bytes; have HR5 := Lib.hid ((hg5.block wr.heap.size hR5l (fun e => hRn1 e)).trans HR4.out); have hR6l := (Array.getElem?_eq_some_iff.1 HR5.out).1) | (at_builtin; refine appB (.tmp 58) (.tmp 59) rfl rfl w.heap.size hob6 hof6b hroom hbb ?_; intro v6 w6 ho6 hg6; have hol6 := own40_grow5 ho5 hob6 hg6; have hx6 : Ext w w6 := hx5.grown_none hg6 (own_base hob6); have HR6 := Lib.hid ((hg6.block wr.heap.size hR6l (fun e => hRn2 e)).trans HR5.out); have t0 := cell_of_row w6 wr.heap.size 0 _ _ _ HR6.out; simp at t0))
            go_roundw
            case rel =>
              refine ⟨k + 1, m + s.toNat + 1, us ++ [⟨m + s.toNat, a, D.length, c⟩], xs ++ [(m + s.toNat, D)], hlt, by omega, by go_num, by go_num, by omega, ?_, ?_, ?_, ?_, ?_, ?_, ?_, hx6⟩
              · show _ = _
                rw [hrel2.out, hfs.out, List.append_assoc]; rfl
              · rw [rsC_snoc, List.length_append]; exact hol6
              · rw [List.length_append, List.length_append, HUL.out]; rfl
              · rw [List.length_append]; simp; omega
              · intro j u x e1 e2
                by_cases hj : j < us.length
                · rw [List.getElem?_append_left hj] at e1
                  rw [List.getElem?_append_left (by rw [← HUL.out]; exact hj)] at e2
                  exact hrs j u x e1 e2
                · rw [List.getElem?_append_right (by omega)] at e1
                  rw [List.getElem?_append_right (by rw [← HUL.out]; omega), ← HUL.out] at e2
                  cases hjj : j - us.length with
                  | zero =>
                    rw [hjj] at e1 e2
                    simp at e1 e2
                    subst e1; subst e2
                    exact ⟨rfl, hBD⟩
                  | succ i => rw [hjj] at e1; simp at e1
              · rw [formsOf_snoc]; exact ho6
              · rw [formsOf_snoc, List.length_append, List.length_append]
                have : (formOf (m + s.toNat, D)).length ≤ 2000 := hfl
                simp; omega
            case measure => simp [intOf]; omega
          · have hput : putS (m + s.toNat) D = ([], 1) := by unfold putS; rw [if_pos hmay]
            rw [hput]
            rw [if_neg hmay] at hfs
            clear hput
            rintro e w4 ⟨vf, rfl, -, hx4⟩
            have hres : Hid (L = xs) := by show _ = _; rw [hrel2.out, hfs.out, List.append_nil]
            obtain ⟨q1, q2, q3, q4, q5⟩ := hfin w4 us xs _ _ hres hol hul hrs hob (hx.trans (hxw.trans hx4)) (hxw.trans hx4)
            go_wp2_with fail
            go_ret2
            exact ⟨_, _, us, rfl, q1, q2, q3, q4, q5⟩
    · obtain rfl : k = n1 := by omega
      have hres : Hid (L = xs) := by
        show _ = _
        rw [hrel2.out, List.drop_of_length_le (by rw [HN1.out]; exact Nat.le_refl _)]
        cases 40 - k <;> simp [laidL]
      obtain ⟨q1, q2, q3, q4, q5⟩ := hfin wr us xs _ _ hres hol hul hrs hob hx (Ext.refl wr)
      go_wp2_with fail
      go_ret2
      exact ⟨_, _, us, rfl, q1, q2, q3, q4, q5⟩

end Go.Proofs.YtkaepcjkpaplfaaDoor
