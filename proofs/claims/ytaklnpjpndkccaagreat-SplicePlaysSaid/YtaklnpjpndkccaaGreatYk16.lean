import Derived.Test.YtaklnpjpndkccaaGreatPk3
import Derived.Test.YtaklnpjpndkccaaGreatYk15
import Derived.Test.YtaklnpjpndkccaaGreatPk10
import Derived.Test.YtaklnpjpndkccaaGreatPk11
import Derived.Test.YtaklnpjpndkccaaGreatYk14
namespace Go.Proofs.YtaklnpjpndkccaaGreat
open Go.RowKit
theorem cCut {ops : Array Oper} {Q : Exit → Act → World → Prop} {a : Act} {w : World} {rest : List Oper} {o : Oper}
 (x : Operand) (lo hi : Option Operand) (us : List CS) (n i j : Nat)
 (ho : o.op = .slice 23 x lo hi none)
 (hw : Region.wanted o (yielded ops a.tmps) = true) (hx : Row w 7 (a.eval x) n (us.flatMap csC))
 (hlo : BoundIs a lo 0 i) (hhi : BoundIs a hi n j) (hij : i ≤ j) (hj : j ≤ n)
 (h : ∀ v, Row w 7 v (j - i) (((us.take j).drop i).flatMap csC) → wpList Tryz.prog ops Q rest (a.put o.dst v) w) : wpList Tryz.prog ops Q (o :: rest) a w := by
 refine wpList_cut 23 94 x lo hi 7 n i j _ ho Tryz.underlying23 (by kernel_rfl) hw hx hlo hhi hij hj fun v hv => h v ?_
 rw [flat_take csC 7 csC_len, flat_drop csC 7 csC_len] at hv
 exact hv
theorem grown_setC (w : World) (b j : Nat) (v : Value) : w.grownBy (w.setCell ⟨b, j, none⟩ v) (some b) := by
 have h := Below.setCell (Below.refl b w) (p := ⟨b, j, none⟩) (Nat.le_refl _) v
 refine ⟨h.os, h.tape, h.output, by rw [World.size_setCell]; exact Nat.le_refl _, fun k hk hne => ?_⟩
 show (w.heap.modify b _)[k]? = w.heap[k]?
 rw [Array.getElem?_modify, if_neg (fun e => hne (by rw [← e]))]
theorem setCell_blockC (w : World) (b i : Nat) (v : Value) (c : Array Value) (t : TypeId) (fr : Nat × Nat) (h : w.heap[b]? = some (.cells c t fr)) : (w.setCell ⟨b, i, none⟩ v).heap[b]? = some (.cells (c.setIfInBounds i v) t fr) := by
 unfold World.setCell
 simp [Array.getElem?_modify, h]
theorem c_row (w : World) (x : CS) : Row (w.alloc (.cells (csC x).toArray 94)) 7 (.slice (some ⟨w.heap.size, 0, none⟩) 1 1) 1 (csC x) :=
 Row.of_own (World.ownsRow_lit (base := w.heap.size) (e := 94) (size := 7) w (csC x).toArray 1 (Nat.le_refl _) (by decide) rfl)
theorem cs_atP {w : World} {a : Option Addr} {n cap : Nat} {us : List CS} (h : Row w 7 (.slice a n cap) n (us.flatMap csC)) {k : Nat} (hk : k < us.length) (hn : 0 < n) :
 ∃ B o, a = some ⟨B, o, none⟩ ∧ ∀ j u, (csC us[k])[j]? = some u → j < 7 → w.cell? ⟨B, o + k * 7 + j, none⟩ = some u := by
 obtain ⟨B, o, rfl⟩ := Row.base h hn (by decide)
 refine ⟨B, o, rfl, fun j u hj h7 => ?_⟩
 have g0 := flat_get csC 7 csC_len us k hk j h7
 have := Row.cellAt h (j := k * 7 + j) (u := u) (g0.trans hj) hn
 rwa [← Nat.add_assoc] at this
set_option maxRecDepth 100000 in
set_option maxHeartbeats 2000000 in
theorem rnormal_no (w : World) (v : Value) (p : List C) (hp : PredR w v p) (hm : mayP p = false) : Calls Tryz.prog 43 #[v] w fun e w' => e = .returned (.tuple #[.slice none 0 0, .int .i64 30]) ∧ Ext w w' := by
 have hc := rpmay_any w v p hp
 rw [hm] at hc
 obtain ⟨a, cap, rfl, _, _⟩ := hp.shape
 have HC := Lib.hid hc
 clear hm hp hc
 generalize p.length = n at *
 go_enter Tryz.func43, Tryz.ntmps43
 go_wp2_with (go_at_call 70; (with_reducible refine HC.out.mono ?_); rintro e w1 ⟨rfl, hx1⟩; have HX1 := Lib.hid hx1; clear hx1)
 exact bodyPost_ret (v := .tuple #[.slice none 0 0, .int .i64 30]) (by simp [results, Tryz.results43, go_sem]) rfl ⟨rfl, HX1.out⟩
set_option maxRecDepth 100000 in
set_option maxHeartbeats 32000000 in
theorem rnormal_own (w : World) (v : Value) (p : List C) (hp : PredR w v p) (hm : mayP p = true) :
 Calls Tryz.prog 43 #[v] w fun e w' => ∃ (v' : Value) (us : List CS), e = .returned (.tuple #[v', .int .i64 0]) ∧ us.map CS.c = normP p ∧ w'.ownsRow w.heap.size 94 7 v' us.length (us.flatMap csC) ∧ (∀ x ∈ us, SetO w.heap.size w' x) ∧ Ext w w' := by
 have hmc := rpmay_any w v p hp
 rw [hm] at hmc
 have hl6 := may_len hm
 have hall := Lib.hid (may_all hm)
 obtain ⟨a, cap, rfl, hc, hcm⟩ := hp.shape
 unfold maxLen at hcm
 have HP := Lib.hid hp
 have HMC := Lib.hid hmc
 clear hm hp hmc
 obtain ⟨n, hn⟩ : ∃ n, n = p.length := ⟨_, rfl⟩
 have HN := Lib.hid hn
 rw [← hn] at hc hl6 ⊢ HP HMC
 clear hn
 go_enter Tryz.func43, Tryz.ntmps43
 go_upto_region 3 with (go_at_call 70; (with_reducible refine HMC.out.mono ?_); rintro e wm ⟨rfl, hx1⟩; have HXM := Lib.hid hx1; clear hx1 HMC)
 go_wp2_with fail
 go_loopw [4, 5] (fun vo i wr => ∃ (k : Nat) (us : List CS), k ≤ n ∧ i = .int .i64 k ∧ Hid (us.map CS.c = sortU orderC ((p.take k).map normC)) ∧ Hid (wr.ownsRow w.heap.size 94 7 vo us.length (us.flatMap csC)) ∧ Hid (∀ x ∈ us, SetO w.heap.size wr x) ∧ Hid (Ext w wr)) (fun _ i _ => n - (intOf i).toNat)
 case atStart => exact ⟨0, [], Nat.zero_le _, rfl, rfl, own_none _ _ _ _, (fun _ h => (by cases h)), HXM.out⟩
 case round =>
  clear HXM
  obtain ⟨k, us, hk, rfl, hus, hown, hset, hx⟩ := hrel
  by_cases hlt : k < n
  · have hI : decide ((k : Int) < (n : Int)) = true := decide_eq_true (by omega)
    have hkN : (k : Int) < (n : Int) := by omega
    have hkl : k < p.length := by have := HN.out; omega
    obtain ⟨B, o, sa, sc, rfl, f0, f1, f2, f3, f4, f5, f6, fs⟩ := (HP.out.ext hx.out).at hkl
    have hmk := hall.out p[k] (List.getElem_mem hkl)
    have hst : sortU orderC ((p.take (k + 1)).map normC) = insU orderC (normC p[k]) (us.map CS.c) := by rw [List.take_succ_eq_append_getElem hkl, List.map_append, hus.out]; exact sortU_snoc _ _
    have HST := Lib.hid hst
    have hmlen : us.length ≤ k := by
     have h1 := congrArg List.length hus.out
     rw [List.length_map] at h1
     have h2 := sortU_len (cf := orderC) ((p.take k).map normC)
     rw [List.length_map, List.length_take] at h2
     omega
    clear hst hus
    generalize p[k] = c at *
    have hs6 := may_set hmk
    go_upto_region 8 with fail
    obtain ⟨hxa, hba⟩ := boxes1 wr (.cells #[.string (strOf c.name), .int .i64 c.op, .int .i64 c.v.k, .int .i64 c.v.n, .string (strOf c.v.s), .bool c.v.b, .slice sa c.set.length sc] 94)
    have q6 := cell_of_row _ _ 6 _ _ _ hba
    have hcall := rset_any _ _ c.set (SetR.ext fs hxa) hs6
    have HCALL := Lib.hid hcall
    have HXA := Lib.hid (hx.out.trans hxa)
    have HBA := Lib.hid hba
    have HOA := Lib.hid (own_ext hown.out hxa)
    have HSA : Hid (∀ x ∈ us, SetO w.heap.size (wr.alloc (.cells #[.string (strOf c.name), .int .i64 c.op, .int .i64 c.v.k, .int .i64 c.v.n, .string (strOf c.v.s), .bool c.v.b, .slice sa c.set.length sc] 94)) x) := fun x hm => (hset.out x hm).ext hxa
    have hbx : w.heap.size ≤ wr.heap.size := hx.out.size
    have hsz : (wr.alloc (.cells #[.string (strOf c.name), .int .i64 c.op, .int .i64 c.v.k, .int .i64 c.v.n, .string (strOf c.v.s), .bool c.v.b, .slice sa c.set.length sc] 94)).heap.size = wr.heap.size + 1 := World.size_alloc _ _
    have hbl : ∀ q, u4.ownBlock = some q → q < wr.heap.size := own_lt hown.out
    have HBL := Lib.hid hbl
    clear hcall hxa hba hown hset f0 f1 f2 f3 f4 f5 f6 fs hx hbl
    generalize hbxn : wr.heap.size = bx at *
    clear hbxn
    generalize wr.alloc (.cells #[.string (strOf c.name), .int .i64 c.op, .int .i64 c.v.k, .int .i64 c.v.n, .string (strOf c.v.s), .bool c.v.b, .slice sa c.set.length sc] 94) = wa at *
    go_upto_block 2 with (go_at_call 71; (with_reducible refine HCALL.out.mono ?_); rintro e w4 ⟨v4, rfl, ho4, hx4⟩; obtain ⟨a4, c4, rfl, _, _⟩ := own_shape ho4; have HO4 := Lib.hid ho4; have HX4 := Lib.hid hx4; have hba4 := block_later HBA.out hx4; have z6 := frozen_of_row _ _ 6 _ _ hba4; have z6c := cell_of_row _ _ 6 _ _ _ hba4; have HBA4 := Lib.hid hba4; clear ho4 hx4 hba4)
    have hg5 := grown_setC w4 bx 6 (.slice a4 (sortU cmpV c.set).length c4)
    have hb5 := setCell_blockC w4 bx 6 (.slice a4 (sortU cmpV c.set).length c4) _ _ _ HBA4.out
    have ho5 := own_keep (own_ext HOA.out HX4.out) hg5 (fun q hq e => by have h1 := HBL.out q hq; have h2 : bx = q := Option.some.inj e; omega)
    have hs5 : ∀ x ∈ us, SetO w.heap.size (w4.setCell ⟨bx, 6, none⟩ (.slice a4 (sortU cmpV c.set).length c4)) x := fun x hm => own_keep ((HSA.out x hm).ext HX4.out) hg5 (fun q hq e => own_ne ((HSA.out x hm).ext HX4.out) HBA4.out (by decide) (hq.trans e.symm))
    have hx5 : SetO w.heap.size (w4.setCell ⟨bx, 6, none⟩ (.slice a4 (sortU cmpV c.set).length c4)) ⟨normC c, .slice a4 (sortU cmpV c.set).length c4⟩ := own_keep (own_low HO4.out (by have := HXA.out.size; omega)) hg5 (fun q hq e => own_ne HO4.out HBA4.out (by decide) (hq.trans e.symm))
    have hxx5 : Ext w (w4.setCell ⟨bx, 6, none⟩ (.slice a4 (sortU cmpV c.set).length c4)) := (HXA.out.trans HX4.out).setCell hbx _
    have HB5 : Hid ((w4.setCell ⟨bx, 6, none⟩ (.slice a4 (sortU cmpV c.set).length c4)).heap[bx]? = some (.cells #[.string (strOf c.name), .int .i64 c.op, .int .i64 c.v.k, .int .i64 c.v.n, .string (strOf c.v.s), .bool c.v.b, .slice a4 (sortU cmpV c.set).length c4] 94 (0, 0))) := hb5
    have HOUT := Lib.hid ho5
    have HSETS := Lib.hid hs5
    have HXSET := Lib.hid hx5
    have HX5 := Lib.hid hxx5
    clear hg5 hb5 ho5 hs5 hx5 hxx5 HBA4 HX4 HO4 HOA HSA HXA HBA z6 z6c q6
    generalize w4.setCell ⟨bx, 6, none⟩ (.slice a4 (sortU cmpV c.set).length c4) = w5 at *
    obtain ⟨x, hxd⟩ : ∃ x : CS, x = ⟨normC c, .slice a4 (sortU cmpV c.set).length c4⟩ := ⟨_, rfl⟩
    have HXD := Lib.hid hxd
    have hxc : x.c = normC c := by rw [hxd]
    rw [← hxd] at HXSET
    rw [← hxc] at HST
    have HXC := Lib.hid hxc
    clear hxd hxc
    obtain ⟨ao, co, hvo, hco, hmo⟩ := own_shape HOUT.out
    obtain ⟨m, hm'⟩ : ∃ m, m = us.length := ⟨_, rfl⟩
    have HM := Lib.hid hm'
    rw [hvo, ← hm'] at HOUT
    rw [hvo]
    rw [← hm'] at hmlen hco ⊢
    have hm6 : m ≤ 6 := by omega
    clear hvo hm'
    unfold maxLen at hmo
    have b0 := cell_of_row _ _ 0 _ _ _ HB5.out
    have b1 := cell_of_row _ _ 1 _ _ _ HB5.out
    have b2 := cell_of_row _ _ 2 _ _ _ HB5.out
    have b3 := cell_of_row _ _ 3 _ _ _ HB5.out
    have b4 := cell_of_row _ _ 4 _ _ _ HB5.out
    have b5 := cell_of_row _ _ 5 _ _ _ HB5.out
    have b6 := cell_of_row _ _ 6 _ _ _ HB5.out
    have hord : ∀ (W : World) (y : CS), Ext w5 W → y ∈ us → ∀ ya yc, y.h = .slice ya y.c.set.length yc → Calls Tryz.prog 72 #[.agg #[.string (strOf y.c.name), .int .i64 y.c.op, .int .i64 y.c.v.k, .int .i64 y.c.v.n, .string (strOf y.c.v.s), .bool y.c.v.b, .slice ya y.c.set.length yc], .agg #[.string (strOf c.name), .int .i64 c.op, .int .i64 c.v.k, .int .i64 c.v.n, .string (strOf c.v.s), .bool c.v.b, .slice a4 (sortU cmpV c.set).length c4]] W fun e w' => e = .returned (.int .i64 (orderC y.c x.c)) ∧ Ext W w' := fun W y hW hy ya yc hyh => by
     have h1 := ((HSETS.out y hy).ext hW).set
     rw [hyh] at h1
     have h2 := (HXSET.out.ext hW).set
     rw [HXD.out] at h2
     rw [HXC.out]
     exact rorder_any W y.c (normC c) ya yc a4 c4 h1 h2
    have HORD := Lib.hid hord
    clear hord
    go_cut [7] from 26 to 40 (fun v7 wx => ∃ j : Nat, v7 = .int .i64 j ∧ j ≤ m ∧ Hid (∀ q (hq : q < us.length), q < j → orderC us[q].c x.c < 0) ∧ Hid (∀ hq : j < us.length, ¬ orderC us[j].c x.c < 0) ∧ Hid (Ext w5 wx))
    case first =>
     go_wp2_with fail
     go_loopw [7] (fun i wq => ∃ j : Nat, j ≤ m ∧ i = .int .i64 j ∧ Hid (∀ q (hq : q < us.length), q < j → orderC us[q].c x.c < 0) ∧ Hid (Ext w5 wq)) (fun i _ => m - (intOf i).toNat)
     case atStart => exact ⟨0, Nat.zero_le _, rfl, fun q _ h => absurd h (Nat.not_lt_zero _), Ext.refl _⟩
     case round =>
      obtain ⟨j, hj, rfl, hlow, hxq⟩ := hrel
      by_cases hjm : j < m
      · have hJ : decide ((j : Int) < (m : Int)) = true := decide_eq_true (by omega)
        have hjM : (j : Int) < (m : Int) := by omega
        have hjl : j < us.length := by have := HM.out; omega
        have hro : Row wr 7 (.slice ao m co) m (us.flatMap csC) := Row.ext (Row.of_own HOUT.out) hxq.out
        obtain ⟨B1, o1, rfl, gg⟩ := cs_atP hro hjl (by omega)
        have hup : orderC us[j].c x.c < 0 → ∀ q (hq : q < us.length), q < j + 1 → orderC us[q].c x.c < 0 := fun e q hq h => by
         by_cases hqj : q = j
         · subst hqj; exact e
         · exact hlow.out q hq (by omega)
        have HUP := Lib.hid hup
        have hym : us[j] ∈ us := List.getElem_mem hjl
        obtain ⟨y, hy⟩ : ∃ y, y = us[j] := ⟨_, rfl⟩
        have HY := Lib.hid hy
        rw [← hy] at gg HUP hym
        obtain ⟨ya, yc, hyh, _, _⟩ := Row.shape (HSETS.out y hym).set
        have HC := Lib.hid (fun (W : World) (hW : Ext w5 W) => HORD.out W y hW hym ya yc hyh)
        have g0 := gg 0 _ rfl (by decide)
        have g1 := gg 1 _ rfl (by decide)
        have g2 := gg 2 _ rfl (by decide)
        have g3 := gg 3 _ rfl (by decide)
        have g4 := gg 4 _ rfl (by decide)
        have g5 := gg 5 _ rfl (by decide)
        have g6 := gg 6 _ rfl (by decide)
        rw [hyh] at g6
        rw [Nat.add_zero] at g0
        clear hro hup hy gg hym hyh
        generalize hr : orderC y.c x.c = r at *
        have HRR := Lib.hid hr
        clear hr
        by_cases hneg : r < 0
        · have hd : decide (r < 0) = true := decide_eq_true hneg
          go_upto_region 10 with fail
          refine wp_region_facts [Fact.eq (.int .i64 j),
           Fact.eq (.slice (some ⟨B1, o1, none⟩) m co),
           Fact.eq (.int .i64 m),
           Fact.eq (.bool true),
           Fact.eq (.bool true),
           Fact.eq (.slice (some ⟨B1, o1, none⟩) m co),
           Fact.eq (.int .i64 j),
           Fact.eq (.pointer (some ⟨B1, o1 + j * 7, none⟩)),
           Fact.eq (.agg #[.string (strOf y.c.name), .int .i64 y.c.op, .int .i64 y.c.v.k, .int .i64 y.c.v.n, .string (strOf y.c.v.s), .bool y.c.v.b, .slice ya y.c.set.length yc]),
           Fact.eq (.agg #[.string (strOf c.name), .int .i64 c.op, .int .i64 c.v.k, .int .i64 c.v.n, .string (strOf c.v.s), .bool c.v.b, .slice a4 (sortU cmpV c.set).length c4]),
           Fact.eq (.int .i64 r),
           Fact.eq (.bool true),
           Fact.eq (.bool true)]
           [[], [], [(1, 27)], [(0, 26), (2, 28)], [(3, 29)], [(4, 30)], [(4, 30)], [(5, 31), (6, 32), (4, 30)], [(7, 33), (4, 30)], [(4, 30)], [(8, 34), (9, 35), (4, 30)], [(10, 36), (4, 30)], [(4, 30), (11, 37)]]
           [(0, 26), (1, 27), (2, 28), (3, 29), (4, 30), (5, 31), (6, 32), (7, 33), (8, 34), (9, 35), (10, 36), (11, 37), (12, 38)] (by kernel_rfl) (by kernel_rfl) ?_ ?_
          · refine ⟨?_, ?_, ?_, ?_, ?_, ?_, ?_, ?_, ?_, ?_, ?_, ?_, ?_, trivial⟩
            · intro w1 hx1; change wpList _ _ _ _ _ _; exact ob_move rfl rfl rfl rfl rfl
            · intro w1 hx1; change wpList _ _ _ _ _ _; exact ob_move rfl rfl rfl rfl rfl
            · rintro w1 hx1 _ rfl; change wpList _ _ _ _ _ _; go_wp2_with fail; exact ⟨rfl, Ext.refl _, rfl, rfl⟩
            · rintro w1 hx1 _ rfl _ rfl; change wpList _ _ _ _ _ _; go_wp2_with fail; exact ⟨rfl, Ext.refl _, rfl, rfl⟩
            · rintro w1 hx1 _ rfl; change wpList _ _ _ _ _ _; exact ob_move rfl rfl rfl rfl rfl
            · rintro w1 hx1 _ rfl; change wpList _ _ _ _ _ _; exact ob_move rfl rfl rfl rfl rfl
            · rintro w1 hx1 _ rfl; change wpList _ _ _ _ _ _; exact ob_move rfl rfl rfl rfl rfl
            · rintro w1 hx1 _ rfl _ rfl _ rfl; change wpList _ _ _ _ _ _; go_wp2_with fail; exact ⟨rfl, Ext.refl _, rfl, rfl⟩
            · rintro w1 hx1 _ rfl _ rfl; change wpList _ _ _ _ _ _; have m0 := hx1.cell g0; have m1 := hx1.cell g1; have m2 := hx1.cell g2; have m3 := hx1.cell g3; have m4 := hx1.cell g4; have m5 := hx1.cell g5; have m6 := hx1.cell g6; go_wp2_with fail; exact ⟨rfl, Ext.refl _, rfl, rfl⟩
            · rintro w1 hx1 _ rfl; change wpList _ _ _ _ _ _; have hxx := hxq.out.trans hx1; have m0 := hxx.cell b0; have m1 := hxx.cell b1; have m2 := hxx.cell b2; have m3 := hxx.cell b3; have m4 := hxx.cell b4; have m5 := hxx.cell b5; have m6 := hxx.cell b6; go_wp2_with fail; exact ⟨rfl, Ext.refl _, rfl, rfl⟩
            · rintro w1 hx1 _ rfl _ rfl _ rfl; change wpList _ _ _ _ _ _; go_wp2_with fail; (with_reducible refine (HC.out _ (hxq.out.trans hx1)).mono ?_); rintro e w7 ⟨rfl, hx2⟩; go_wp2_with fail; exact ⟨rfl, hx2, rfl, rfl⟩
            · rintro w1 hx1 _ rfl _ rfl; change wpList _ _ _ _ _ _; go_wp2_with fail; exact ⟨rfl, Ext.refl _, rfl, rfl⟩
            · rintro w1 hx1 _ rfl _ rfl; change wpList _ _ _ _ _ _; exact ob_pick rfl rfl rfl rfl rfl rfl
          · rintro w1 hx1 _ rfl _ rfl _ rfl _ rfl _ rfl _ rfl _ rfl _ rfl _ rfl _ rfl _ rfl _ rfl _ rfl; refine depsThen_nil ?_; dsimp only; simp only [Act.put, List.setIfInBounds_toArray, List.set_cons_zero, List.set_cons_succ]
            have HXQ := Lib.hid (hxq.out.trans hx1)
            clear g0 g1 g2 g3 g4 g5 g6 hx1 hxq
            go_wp2_with fail
            go_roundw
            case rel => exact ⟨j + 1, hjm, by go_num, HUP.out hneg, HXQ.out⟩
            case measure => simp [intOf]; omega
        · have hd : decide (r < 0) = false := decide_eq_false hneg
          go_upto_region 10 with fail
          refine wp_region_facts [Fact.eq (.int .i64 j),
           Fact.eq (.slice (some ⟨B1, o1, none⟩) m co),
           Fact.eq (.int .i64 m),
           Fact.eq (.bool true),
           Fact.eq (.bool true),
           Fact.eq (.slice (some ⟨B1, o1, none⟩) m co),
           Fact.eq (.int .i64 j),
           Fact.eq (.pointer (some ⟨B1, o1 + j * 7, none⟩)),
           Fact.eq (.agg #[.string (strOf y.c.name), .int .i64 y.c.op, .int .i64 y.c.v.k, .int .i64 y.c.v.n, .string (strOf y.c.v.s), .bool y.c.v.b, .slice ya y.c.set.length yc]),
           Fact.eq (.agg #[.string (strOf c.name), .int .i64 c.op, .int .i64 c.v.k, .int .i64 c.v.n, .string (strOf c.v.s), .bool c.v.b, .slice a4 (sortU cmpV c.set).length c4]),
           Fact.eq (.int .i64 r),
           Fact.eq (.bool false),
           Fact.eq (.bool false)]
           [[], [], [(1, 27)], [(0, 26), (2, 28)], [(3, 29)], [(4, 30)], [(4, 30)], [(5, 31), (6, 32), (4, 30)], [(7, 33), (4, 30)], [(4, 30)], [(8, 34), (9, 35), (4, 30)], [(10, 36), (4, 30)], [(4, 30), (11, 37)]]
           [(0, 26), (1, 27), (2, 28), (3, 29), (4, 30), (5, 31), (6, 32), (7, 33), (8, 34), (9, 35), (10, 36), (11, 37), (12, 38)] (by kernel_rfl) (by kernel_rfl) ?_ ?_
          · refine ⟨?_, ?_, ?_, ?_, ?_, ?_, ?_, ?_, ?_, ?_, ?_, ?_, ?_, trivial⟩
            · intro w1 hx1; change wpList _ _ _ _ _ _; exact ob_move rfl rfl rfl rfl rfl
            · intro w1 hx1; change wpList _ _ _ _ _ _; exact ob_move rfl rfl rfl rfl rfl
            · rintro w1 hx1 _ rfl; change wpList _ _ _ _ _ _; go_wp2_with fail; exact ⟨rfl, Ext.refl _, rfl, rfl⟩
            · rintro w1 hx1 _ rfl _ rfl; change wpList _ _ _ _ _ _; go_wp2_with fail; exact ⟨rfl, Ext.refl _, rfl, rfl⟩
            · rintro w1 hx1 _ rfl; change wpList _ _ _ _ _ _; exact ob_move rfl rfl rfl rfl rfl
            · rintro w1 hx1 _ rfl; change wpList _ _ _ _ _ _; exact ob_move rfl rfl rfl rfl rfl
            · rintro w1 hx1 _ rfl; change wpList _ _ _ _ _ _; exact ob_move rfl rfl rfl rfl rfl
            · rintro w1 hx1 _ rfl _ rfl _ rfl; change wpList _ _ _ _ _ _; go_wp2_with fail; exact ⟨rfl, Ext.refl _, rfl, rfl⟩
            · rintro w1 hx1 _ rfl _ rfl; change wpList _ _ _ _ _ _; have m0 := hx1.cell g0; have m1 := hx1.cell g1; have m2 := hx1.cell g2; have m3 := hx1.cell g3; have m4 := hx1.cell g4; have m5 := hx1.cell g5; have m6 := hx1.cell g6; go_wp2_with fail; exact ⟨rfl, Ext.refl _, rfl, rfl⟩
            · rintro w1 hx1 _ rfl; change wpList _ _ _ _ _ _; have hxx := hxq.out.trans hx1; have m0 := hxx.cell b0; have m1 := hxx.cell b1; have m2 := hxx.cell b2; have m3 := hxx.cell b3; have m4 := hxx.cell b4; have m5 := hxx.cell b5; have m6 := hxx.cell b6; go_wp2_with fail; exact ⟨rfl, Ext.refl _, rfl, rfl⟩
            · rintro w1 hx1 _ rfl _ rfl _ rfl; change wpList _ _ _ _ _ _; go_wp2_with fail; (with_reducible refine (HC.out _ (hxq.out.trans hx1)).mono ?_); rintro e w7 ⟨rfl, hx2⟩; go_wp2_with fail; exact ⟨rfl, hx2, rfl, rfl⟩
            · rintro w1 hx1 _ rfl _ rfl; change wpList _ _ _ _ _ _; go_wp2_with fail; exact ⟨rfl, Ext.refl _, rfl, rfl⟩
            · rintro w1 hx1 _ rfl _ rfl; change wpList _ _ _ _ _ _; exact ob_pick rfl rfl rfl rfl rfl rfl
          · rintro w1 hx1 _ rfl _ rfl _ rfl _ rfl _ rfl _ rfl _ rfl _ rfl _ rfl _ rfl _ rfl _ rfl _ rfl; refine depsThen_nil ?_; dsimp only; simp only [Act.put, List.setIfInBounds_toArray, List.set_cons_zero, List.set_cons_succ]
            have HXQ := Lib.hid (hxq.out.trans hx1)
            clear g0 g1 g2 g3 g4 g5 g6 hx1 hxq
            go_wp2_with fail
            go_meet
            case rel => exact ⟨j, rfl, hj, hlow.out, fun hq => by have h1 := HRR.out; rw [HY.out] at h1; rw [h1]; exact hneg, HXQ.out⟩
      · obtain rfl : j = m := by omega
        have hJ : decide ((j : Int) < (j : Int)) = false := decide_eq_false (by omega)
        go_upto_region 10 with fail
        refine wp_region_facts [Fact.eq (.int .i64 j),
         Fact.eq (.slice ao j co),
         Fact.eq (.int .i64 j),
         Fact.eq (.bool false),
         Fact.eq (.bool false),
         Fact.eq undef,
         Fact.eq undef,
         Fact.eq undef,
         Fact.eq undef,
         Fact.eq undef,
         Fact.eq undef,
         Fact.eq undef,
         Fact.eq (.bool false)]
         [[], [], [(1, 27)], [(0, 26), (2, 28)], [(3, 29)], [(4, 30)], [(4, 30)], [(5, 31), (6, 32), (4, 30)], [(7, 33), (4, 30)], [(4, 30)], [(8, 34), (9, 35), (4, 30)], [(10, 36), (4, 30)], [(4, 30), (11, 37)]]
         [(0, 26), (1, 27), (2, 28), (3, 29), (4, 30), (5, 31), (6, 32), (7, 33), (8, 34), (9, 35), (10, 36), (11, 37), (12, 38)] (by kernel_rfl) (by kernel_rfl) ?_ ?_
        · refine ⟨?_, ?_, ?_, ?_, ?_, ?_, ?_, ?_, ?_, ?_, ?_, ?_, ?_, trivial⟩
          · intro w1 hx1; change wpList _ _ _ _ _ _; exact ob_move rfl rfl rfl rfl rfl
          · intro w1 hx1; change wpList _ _ _ _ _ _; exact ob_move rfl rfl rfl rfl rfl
          · rintro w1 hx1 _ rfl; change wpList _ _ _ _ _ _; go_wp2_with fail; exact ⟨rfl, Ext.refl _, rfl, rfl⟩
          · rintro w1 hx1 _ rfl _ rfl; change wpList _ _ _ _ _ _; go_wp2_with fail; exact ⟨rfl, Ext.refl _, rfl, rfl⟩
          · rintro w1 hx1 _ rfl; change wpList _ _ _ _ _ _; exact ob_move rfl rfl rfl rfl rfl
          · rintro w1 hx1 _ rfl; change wpList _ _ _ _ _ _; exact ob_skip rfl rfl rfl rfl
          · rintro w1 hx1 _ rfl; change wpList _ _ _ _ _ _; exact ob_skip rfl rfl rfl rfl
          · rintro w1 hx1 _ rfl _ rfl _ rfl; change wpList _ _ _ _ _ _; exact ob_skip rfl rfl rfl rfl
          · rintro w1 hx1 _ rfl _ rfl; change wpList _ _ _ _ _ _; exact ob_skip rfl rfl rfl rfl
          · rintro w1 hx1 _ rfl; change wpList _ _ _ _ _ _; exact ob_skip rfl rfl rfl rfl
          · rintro w1 hx1 _ rfl _ rfl _ rfl; change wpList _ _ _ _ _ _; exact ob_skip rfl rfl rfl rfl
          · rintro w1 hx1 _ rfl _ rfl; change wpList _ _ _ _ _ _; exact ob_skip rfl rfl rfl rfl
          · rintro w1 hx1 _ rfl _ rfl; change wpList _ _ _ _ _ _; exact ob_pick rfl rfl rfl rfl rfl rfl
        · rintro w1 hx1 _ rfl _ rfl _ rfl _ rfl _ rfl _ rfl _ rfl _ rfl _ rfl _ rfl _ rfl _ rfl _ rfl; refine depsThen_nil ?_; dsimp only; simp only [Act.put, List.setIfInBounds_toArray, List.set_cons_zero, List.set_cons_succ]
          have HXQ := Lib.hid (hxq.out.trans hx1)
          go_wp2_with fail
          go_meet
          case rel => exact ⟨j, rfl, Nat.le_refl _, hlow.out, fun hq => absurd hq (by rw [← HM.out]; exact Nat.lt_irrefl _), HXQ.out⟩
    case rest =>
     obtain ⟨j, rfl, hj, hlow, hhi, hxc⟩ := hcut
     have hlowm : ∀ q (hq : q < (us.map CS.c).length), q < j → orderC (us.map CS.c)[q] x.c < 0 := fun q hq h => by rw [List.getElem_map]; exact hlow.out q (by rwa [List.length_map] at hq) h
     have HLOWM := Lib.hid hlowm
     have hhere : (∀ h : j < us.length, 0 < orderC us[j].c x.c) → (us.take j ++ x :: us.drop j).map CS.c = sortU orderC ((p.take (k + 1)).map normC) := fun h => by
      rw [HST.out, insU_here orderC x.c (l := us.map CS.c) (k := j) (by rw [List.length_map, ← HM.out]; exact hj) hlowm (fun hq => by rw [List.getElem_map]; exact h (by rwa [List.length_map] at hq))]
      rw [List.map_append, List.map_cons, List.map_take, List.map_drop]
     have HHERE0 := Lib.hid hhere
     clear hlowm hhere
     by_cases hjm : j < m
     · have hJ : decide ((j : Int) < (m : Int)) = true := decide_eq_true (by omega)
       have hjM : (j : Int) < (m : Int) := by omega
       have hjl : j < us.length := by have := HM.out; omega
       have hro : Row wc 7 (.slice ao m co) m (us.flatMap csC) := Row.ext (Row.of_own HOUT.out) hxc.out
       obtain ⟨B1, o1, rfl, gg⟩ := cs_atP hro hjl (by omega)
       have hym : us[j] ∈ us := List.getElem_mem hjl
       have hnl := hhi.out hjl
       have hstop : orderC us[j].c x.c = 0 → us.map CS.c = sortU orderC ((p.take (k + 1)).map normC) := fun e => by
        rw [HST.out, insU_stop orderC x.c (l := us.map CS.c) (k := j) (by rw [List.length_map]; exact hjl) HLOWM.out (by rw [List.getElem_map]; exact e)]
       have hgo : orderC us[j].c x.c ≠ 0 → (us.take j ++ x :: us.drop j).map CS.c = sortU orderC ((p.take (k + 1)).map normC) := fun e => HHERE0.out fun _ => by omega
       have HSTOP := Lib.hid hstop
       have HGO := Lib.hid hgo
       clear hstop hgo
       obtain ⟨y, hy⟩ : ∃ y, y = us[j] := ⟨_, rfl⟩
       rw [← hy] at gg hym hnl HSTOP HGO
       obtain ⟨ya, yc, hyh, _, _⟩ := Row.shape (HSETS.out y hym).set
       have HC := Lib.hid (fun (W : World) (hW : Ext w5 W) => HORD.out W y hW hym ya yc hyh)
       have g0 := gg 0 _ rfl (by decide)
       have g1 := gg 1 _ rfl (by decide)
       have g2 := gg 2 _ rfl (by decide)
       have g3 := gg 3 _ rfl (by decide)
       have g4 := gg 4 _ rfl (by decide)
       have g5 := gg 5 _ rfl (by decide)
       have g6 := gg 6 _ rfl (by decide)
       rw [hyh] at g6
       rw [Nat.add_zero] at g0
       clear hro hy gg hym hyh
       generalize orderC y.c x.c = r at *
       by_cases hz : r = 0
       · have hd : (r == 0) = true := beq_iff_eq.2 hz
         have HEQ := Lib.hid (HSTOP.out hz)
         clear hz hnl
         go_upto_region 12 with fail
         refine wp_region_facts [Fact.eq (.int .i64 j),
          Fact.eq (.slice (some ⟨B1, o1, none⟩) m co),
          Fact.eq (.int .i64 m),
          Fact.eq (.bool true),
          Fact.eq (.bool true),
          Fact.eq (.slice (some ⟨B1, o1, none⟩) m co),
          Fact.eq (.int .i64 j),
          Fact.eq (.pointer (some ⟨B1, o1 + j * 7, none⟩)),
          Fact.eq (.agg #[.string (strOf y.c.name), .int .i64 y.c.op, .int .i64 y.c.v.k, .int .i64 y.c.v.n, .string (strOf y.c.v.s), .bool y.c.v.b, .slice ya y.c.set.length yc]),
          Fact.eq (.agg #[.string (strOf c.name), .int .i64 c.op, .int .i64 c.v.k, .int .i64 c.v.n, .string (strOf c.v.s), .bool c.v.b, .slice a4 (sortU cmpV c.set).length c4]),
          Fact.eq (.int .i64 r),
          Fact.eq (.bool true),
          Fact.eq (.bool true)]
          [[], [], [(1, 42)], [(0, 41), (2, 43)], [(3, 44)], [(4, 45)], [(4, 45)], [(5, 46), (6, 47), (4, 45)], [(7, 48), (4, 45)], [(4, 45)], [(8, 49), (9, 50), (4, 45)], [(10, 51), (4, 45)], [(4, 45), (11, 52)]]
          [(0, 41), (1, 42), (2, 43), (3, 44), (4, 45), (5, 46), (6, 47), (7, 48), (8, 49), (9, 50), (10, 51), (11, 52), (12, 53)] (by kernel_rfl) (by kernel_rfl) ?_ ?_
         · refine ⟨?_, ?_, ?_, ?_, ?_, ?_, ?_, ?_, ?_, ?_, ?_, ?_, ?_, trivial⟩
           · intro w1 hx1; change wpList _ _ _ _ _ _; exact ob_move rfl rfl rfl rfl rfl
           · intro w1 hx1; change wpList _ _ _ _ _ _; exact ob_move rfl rfl rfl rfl rfl
           · rintro w1 hx1 _ rfl; change wpList _ _ _ _ _ _; go_wp2_with fail; exact ⟨rfl, Ext.refl _, rfl, rfl⟩
           · rintro w1 hx1 _ rfl _ rfl; change wpList _ _ _ _ _ _; go_wp2_with fail; exact ⟨rfl, Ext.refl _, rfl, rfl⟩
           · rintro w1 hx1 _ rfl; change wpList _ _ _ _ _ _; exact ob_move rfl rfl rfl rfl rfl
           · rintro w1 hx1 _ rfl; change wpList _ _ _ _ _ _; exact ob_move rfl rfl rfl rfl rfl
           · rintro w1 hx1 _ rfl; change wpList _ _ _ _ _ _; exact ob_move rfl rfl rfl rfl rfl
           · rintro w1 hx1 _ rfl _ rfl _ rfl; change wpList _ _ _ _ _ _; go_wp2_with fail; exact ⟨rfl, Ext.refl _, rfl, rfl⟩
           · rintro w1 hx1 _ rfl _ rfl; change wpList _ _ _ _ _ _; have m0 := hx1.cell g0; have m1 := hx1.cell g1; have m2 := hx1.cell g2; have m3 := hx1.cell g3; have m4 := hx1.cell g4; have m5 := hx1.cell g5; have m6 := hx1.cell g6; go_wp2_with fail; exact ⟨rfl, Ext.refl _, rfl, rfl⟩
           · rintro w1 hx1 _ rfl; change wpList _ _ _ _ _ _; have hxx := hxc.out.trans hx1; have m0 := hxx.cell b0; have m1 := hxx.cell b1; have m2 := hxx.cell b2; have m3 := hxx.cell b3; have m4 := hxx.cell b4; have m5 := hxx.cell b5; have m6 := hxx.cell b6; go_wp2_with fail; exact ⟨rfl, Ext.refl _, rfl, rfl⟩
           · rintro w1 hx1 _ rfl _ rfl _ rfl; change wpList _ _ _ _ _ _; go_wp2_with fail; (with_reducible refine (HC.out _ (hxc.out.trans hx1)).mono ?_); rintro e w7 ⟨rfl, hx2⟩; go_wp2_with fail; exact ⟨rfl, hx2, rfl, rfl⟩
           · rintro w1 hx1 _ rfl _ rfl; change wpList _ _ _ _ _ _; go_wp2_with fail; exact ⟨rfl, Ext.refl _, rfl, rfl⟩
           · rintro w1 hx1 _ rfl _ rfl; change wpList _ _ _ _ _ _; exact ob_pick rfl rfl rfl rfl rfl rfl
         · rintro w1 hx1 _ rfl _ rfl _ rfl _ rfl _ rfl _ rfl _ rfl _ rfl _ rfl _ rfl _ rfl _ rfl _ rfl; refine depsThen_nil ?_; dsimp only; simp only [Act.put, List.setIfInBounds_toArray, List.set_cons_zero, List.set_cons_succ]
           have HXQ := Lib.hid (HX5.out.trans (hxc.out.trans hx1))
           have HOW := Lib.hid (own_ext HOUT.out (hxc.out.trans hx1))
           have HSE : Hid (∀ z ∈ us, SetO w.heap.size w1 z) := fun z hm => (HSETS.out z hm).ext (hxc.out.trans hx1)
           clear g0 g1 g2 g3 g4 g5 g6 hx1 hxc
           go_wp2_with fail
           go_roundw
           case rel => exact ⟨k + 1, us, hlt, by go_num, HEQ.out, by rw [← HM.out]; exact HOW.out, HSE.out, HXQ.out⟩
           case measure => simp [intOf]; omega
       · have hd : (r == 0) = false := beq_eq_false_iff_ne.2 hz
         have HEQ := Lib.hid (HGO.out hz)
         clear hz hnl
         go_upto_region 12 with fail
         refine wp_region_facts [Fact.eq (.int .i64 j),
          Fact.eq (.slice (some ⟨B1, o1, none⟩) m co),
          Fact.eq (.int .i64 m),
          Fact.eq (.bool true),
          Fact.eq (.bool true),
          Fact.eq (.slice (some ⟨B1, o1, none⟩) m co),
          Fact.eq (.int .i64 j),
          Fact.eq (.pointer (some ⟨B1, o1 + j * 7, none⟩)),
          Fact.eq (.agg #[.string (strOf y.c.name), .int .i64 y.c.op, .int .i64 y.c.v.k, .int .i64 y.c.v.n, .string (strOf y.c.v.s), .bool y.c.v.b, .slice ya y.c.set.length yc]),
          Fact.eq (.agg #[.string (strOf c.name), .int .i64 c.op, .int .i64 c.v.k, .int .i64 c.v.n, .string (strOf c.v.s), .bool c.v.b, .slice a4 (sortU cmpV c.set).length c4]),
          Fact.eq (.int .i64 r),
          Fact.eq (.bool false),
          Fact.eq (.bool false)]
          [[], [], [(1, 42)], [(0, 41), (2, 43)], [(3, 44)], [(4, 45)], [(4, 45)], [(5, 46), (6, 47), (4, 45)], [(7, 48), (4, 45)], [(4, 45)], [(8, 49), (9, 50), (4, 45)], [(10, 51), (4, 45)], [(4, 45), (11, 52)]]
          [(0, 41), (1, 42), (2, 43), (3, 44), (4, 45), (5, 46), (6, 47), (7, 48), (8, 49), (9, 50), (10, 51), (11, 52), (12, 53)] (by kernel_rfl) (by kernel_rfl) ?_ ?_
         · refine ⟨?_, ?_, ?_, ?_, ?_, ?_, ?_, ?_, ?_, ?_, ?_, ?_, ?_, trivial⟩
           · intro w1 hx1; change wpList _ _ _ _ _ _; exact ob_move rfl rfl rfl rfl rfl
           · intro w1 hx1; change wpList _ _ _ _ _ _; exact ob_move rfl rfl rfl rfl rfl
           · rintro w1 hx1 _ rfl; change wpList _ _ _ _ _ _; go_wp2_with fail; exact ⟨rfl, Ext.refl _, rfl, rfl⟩
           · rintro w1 hx1 _ rfl _ rfl; change wpList _ _ _ _ _ _; go_wp2_with fail; exact ⟨rfl, Ext.refl _, rfl, rfl⟩
           · rintro w1 hx1 _ rfl; change wpList _ _ _ _ _ _; exact ob_move rfl rfl rfl rfl rfl
           · rintro w1 hx1 _ rfl; change wpList _ _ _ _ _ _; exact ob_move rfl rfl rfl rfl rfl
           · rintro w1 hx1 _ rfl; change wpList _ _ _ _ _ _; exact ob_move rfl rfl rfl rfl rfl
           · rintro w1 hx1 _ rfl _ rfl _ rfl; change wpList _ _ _ _ _ _; go_wp2_with fail; exact ⟨rfl, Ext.refl _, rfl, rfl⟩
           · rintro w1 hx1 _ rfl _ rfl; change wpList _ _ _ _ _ _; have m0 := hx1.cell g0; have m1 := hx1.cell g1; have m2 := hx1.cell g2; have m3 := hx1.cell g3; have m4 := hx1.cell g4; have m5 := hx1.cell g5; have m6 := hx1.cell g6; go_wp2_with fail; exact ⟨rfl, Ext.refl _, rfl, rfl⟩
           · rintro w1 hx1 _ rfl; change wpList _ _ _ _ _ _; have hxx := hxc.out.trans hx1; have m0 := hxx.cell b0; have m1 := hxx.cell b1; have m2 := hxx.cell b2; have m3 := hxx.cell b3; have m4 := hxx.cell b4; have m5 := hxx.cell b5; have m6 := hxx.cell b6; go_wp2_with fail; exact ⟨rfl, Ext.refl _, rfl, rfl⟩
           · rintro w1 hx1 _ rfl _ rfl _ rfl; change wpList _ _ _ _ _ _; go_wp2_with fail; (with_reducible refine (HC.out _ (hxc.out.trans hx1)).mono ?_); rintro e w7 ⟨rfl, hx2⟩; go_wp2_with fail; exact ⟨rfl, hx2, rfl, rfl⟩
           · rintro w1 hx1 _ rfl _ rfl; change wpList _ _ _ _ _ _; go_wp2_with fail; exact ⟨rfl, Ext.refl _, rfl, rfl⟩
           · rintro w1 hx1 _ rfl _ rfl; change wpList _ _ _ _ _ _; exact ob_pick rfl rfl rfl rfl rfl rfl
         · rintro w1 hx1 _ rfl _ rfl _ rfl _ rfl _ rfl _ rfl _ rfl _ rfl _ rfl _ rfl _ rfl _ rfl _ rfl; refine depsThen_nil ?_; dsimp only; simp only [Act.put, List.setIfInBounds_toArray, List.set_cons_zero, List.set_cons_succ]
           clear g0 g1 g2 g3 g4 g5 g6
           have HXQ := Lib.hid (HX5.out.trans (hxc.out.trans hx1))
           have HOW := Lib.hid (own_ext HOUT.out (hxc.out.trans hx1))
           have HW58 := Lib.hid (hxc.out.trans hx1)
           have s0 := HW58.out.cell b0
           have s1 := HW58.out.cell b1
           have s2 := HW58.out.cell b2
           have s3 := HW58.out.cell b3
           have s4 := HW58.out.cell b4
           have s5 := HW58.out.cell b5
           have s6 := HW58.out.cell b6
           clear hx1 hxc
           go_upto_region 14 with fail
           obtain ⟨w8, hw8⟩ : ∃ z : World, z = w1 := ⟨_, rfl⟩
           subst hw8
           have hbase : w.heap.size ≤ w8.heap.size := HXQ.out.size
           have hone : ∀ u ∈ (us.take j).flatMap csC, u.oneCell' = true := csC_one _ fun z hz => (HSETS.out z (List.mem_of_mem_take hz)).one
           have HONE := Lib.hid hone
           have hone2 : ∀ u ∈ ((us.take m).drop j).flatMap csC, u.oneCell' = true := csC_one _ fun z hz => (HSETS.out z (List.mem_of_mem_take (List.mem_of_mem_drop hz))).one
           have HONE2 := Lib.hid hone2
           clear hone hone2
           go_upto_region 15 with (first
            | (refine cCut (.tmp 55) none (some (.tmp 56)) us m 0 j rfl rfl (Row.of_own HOW.out) rfl ⟨_, _, rfl, by omega, by omega⟩ (Nat.zero_le _) (by omega) ?_; intro v57 h57; rw [List.drop_zero, Nat.sub_zero] at h57; obtain ⟨a57, c57, rfl, _, _⟩ := Row.shape h57; have H57 := Lib.hid h57; clear h57)
            | (at_builtin; refine wpList_append_row 23 94 (.tmp 54) (.tmp 57) rfl w8.heap.size _ 7 88 Tryz.underlying23 info31t rfl (by decide) rfl (.slice none 0 0) 0 [] rfl (own_none _ _ _ _) j ((us.take j).flatMap csC) H57.out HONE.out (by omega) (by unfold maxLen; omega) (Nat.le_refl _) ?_; intro v58 w9 hown9 hg9; have HO9 := Lib.hid hown9; have HX9 := Lib.hid ((Ext.refl w8).grown_none (v := .slice none 0 0) hg9 (fun q hq => by cases hq)); clear hown9 hg9))
           have hown9 : w9.ownsRow w8.heap.size 94 7 v58 j ((us.take j).flatMap csC) := by have h := HO9.out; rw [Nat.zero_add, List.nil_append] at h; exact h
           obtain ⟨a58, c58, rfl, _, _⟩ := own_shape hown9
           have t0 := HX9.out.cell s0
           have t1 := HX9.out.cell s1
           have t2 := HX9.out.cell s2
           have t3 := HX9.out.cell s3
           have t4 := HX9.out.cell s4
           have t5 := HX9.out.cell s5
           have t6 := HX9.out.cell s6
           have hcx : csC x = [.string (strOf c.name), .int .i64 c.op, .int .i64 c.v.k, .int .i64 c.v.n, .string (strOf c.v.s), .bool c.v.b, .slice a4 (sortU cmpV c.set).length c4] := by rw [HXD.out]; rfl
           have hxb : Ext w9 (w9.alloc (.cells #[.string (strOf c.name), .int .i64 c.op, .int .i64 c.v.k, .int .i64 c.v.n, .string (strOf c.v.s), .bool c.v.b, .slice a4 (sortU cmpV c.set).length c4] 94)) := (Ext.refl w9).alloc _
           have hrow : Row (w9.alloc (.cells #[.string (strOf c.name), .int .i64 c.op, .int .i64 c.v.k, .int .i64 c.v.n, .string (strOf c.v.s), .bool c.v.b, .slice a4 (sortU cmpV c.set).length c4] 94)) 7 (.slice (some ⟨w9.heap.size, 0, none⟩) 1 1) 1 (csC x) := by have h := c_row w9 x; rw [hcx] at h ⊢; exact h
           have HROW := Lib.hid hrow
           have hone3 : ∀ u ∈ csC x, u.oneCell' = true := fun u hu => csC_one [x] (fun z hz => by rw [List.mem_singleton.1 hz]; exact HXSET.out.one) u (by rw [List.flatMap_singleton]; exact hu)
           have HONE3 := Lib.hid hone3
           have HO10 := Lib.hid (own_ext hown9 hxb)
           have HOWb := Lib.hid (own_ext HOW.out (HX9.out.trans hxb))
           have HX10 := Lib.hid (HX9.out.trans hxb)
           have hb10 : w8.heap.size ≤ (w9.alloc (.cells #[.string (strOf c.name), .int .i64 c.op, .int .i64 c.v.k, .int .i64 c.v.n, .string (strOf c.v.s), .bool c.v.b, .slice a4 (sortU cmpV c.set).length c4] 94)).heap.size := HX10.out.size
           clear hown9 HO9 HX9 hxb H57 s0 s1 s2 s3 s4 s5 s6 hcx hrow hone3
           go_upto_region 16 with (at_builtin; refine wpList_append_row 23 94 (.tmp 59) (.tmp 61) rfl w8.heap.size _ 7 88 Tryz.underlying23 info31t rfl (by decide) rfl _ j ((us.take j).flatMap csC) rfl HO10.out 1 (csC x) HROW.out HONE3.out (by omega) (by unfold maxLen; omega) hb10 ?_; intro v62 w11 hown11 hg11; have HO11 := Lib.hid hown11; have HG11 := Lib.hid hg11; clear hown11 hg11)
           obtain ⟨a62, c62, rfl, _, _⟩ := own_shape HO11.out
           have hkeep1 : ∀ q, (Value.slice (some ⟨B1, o1, none⟩) m co).ownBlock = some q → (Value.slice a58 j c58).ownBlock ≠ some q := fun q hq => own_later HO10.out (Nat.le_refl _) (own_lt HOW.out q hq)
           have HOWc := Lib.hid (own_keep HOWb.out HG11.out (fun q hq e => hkeep1 q hq e))
           have HX11 := Lib.hid (HX10.out.grown_none HG11.out (own_base HO10.out))
           have hb11 : w8.heap.size ≤ w11.heap.size := HX11.out.size
           clear HO10 HROW HOWb HX10 HG11 hkeep1 t0 t1 t2 t3 t4 t5 t6
           go_upto_region 6 with (first
            | (refine cCut (.tmp 64) (some (.tmp 65)) none us m j m rfl rfl (Row.of_own HOWc.out) ⟨_, _, rfl, by omega, by omega⟩ rfl (by omega) (Nat.le_refl _) ?_; intro v66 h66; obtain ⟨a66, c66, rfl, _, _⟩ := Row.shape h66; have H66 := Lib.hid h66; clear h66)
            | (at_builtin; refine wpList_append_row 23 94 (.tmp 63) (.tmp 66) rfl w8.heap.size _ 7 88 Tryz.underlying23 info31t rfl (by decide) rfl _ (j + 1) ((us.take j).flatMap csC ++ csC x) rfl HO11.out (m - j) (((us.take m).drop j).flatMap csC) H66.out HONE2.out (by omega) (by unfold maxLen; omega) hb11 ?_; intro v67 w12 hown12 hg12; have HO12 := Lib.hid hown12; have HX12 := Lib.hid (HX11.out.grown_none hg12 (own_base HO11.out)); clear hown12 hg12))
           have hfin : w12.ownsRow w.heap.size 94 7 v67 (us.take j ++ x :: us.drop j).length ((us.take j ++ x :: us.drop j).flatMap csC) := by
            have h := own_low HO12.out hbase
            have e1 : us.take m = us := List.take_of_length_le (by rw [← HM.out]; exact Nat.le_refl _)
            rw [e1] at h
            have e2 : (us.take j ++ x :: us.drop j).length = j + 1 + (m - j) := by rw [List.length_append, List.length_cons, List.length_take, List.length_drop, ← HM.out]; omega
            have e3 : (us.take j ++ x :: us.drop j).flatMap csC = (us.take j).flatMap csC ++ csC x ++ (us.drop j).flatMap csC := by rw [List.flatMap_append, List.flatMap_cons, List.append_assoc]
            rw [e2, e3]; first | exact h | (rw [e1]; exact h)
           have HFIN := Lib.hid hfin
           have hext := HW58.out.trans HX12.out
           have HSF : Hid (∀ z ∈ us.take j ++ x :: us.drop j, SetO w.heap.size w12 z) := fun z hz => by
            rcases List.mem_append.1 hz with hz | hz
            · exact (HSETS.out z (List.mem_of_mem_take hz)).ext hext
            · rcases List.mem_cons.1 hz with rfl | hz
              · exact HXSET.out.ext hext
              · exact (HSETS.out z (List.mem_of_mem_drop hz)).ext hext
           have HXF := Lib.hid (HXQ.out.trans HX12.out)
           clear hfin hext HO12 HO11 HOWc HX11 H66 HX12 HXQ
           go_wp2_with fail
           go_roundw
           case rel => exact ⟨k + 1, us.take j ++ x :: us.drop j, hlt, by go_num, HEQ.out, HFIN.out, HSF.out, HXF.out⟩
           case measure => simp [intOf]; omega
     · obtain rfl : j = m := by omega
       have hJ : decide ((j : Int) < (j : Int)) = false := decide_eq_false (by omega)
       have HEQ := Lib.hid (HHERE0.out fun h => absurd h (by rw [← HM.out]; exact Nat.lt_irrefl _))
       go_upto_region 12 with fail
       refine wp_region_facts [Fact.eq (.int .i64 j),
        Fact.eq (.slice ao j co),
        Fact.eq (.int .i64 j),
        Fact.eq (.bool false),
        Fact.eq (.bool false),
        Fact.eq undef,
        Fact.eq undef,
        Fact.eq undef,
        Fact.eq undef,
        Fact.eq undef,
        Fact.eq undef,
        Fact.eq undef,
        Fact.eq (.bool false)]
        [[], [], [(1, 42)], [(0, 41), (2, 43)], [(3, 44)], [(4, 45)], [(4, 45)], [(5, 46), (6, 47), (4, 45)], [(7, 48), (4, 45)], [(4, 45)], [(8, 49), (9, 50), (4, 45)], [(10, 51), (4, 45)], [(4, 45), (11, 52)]]
        [(0, 41), (1, 42), (2, 43), (3, 44), (4, 45), (5, 46), (6, 47), (7, 48), (8, 49), (9, 50), (10, 51), (11, 52), (12, 53)] (by kernel_rfl) (by kernel_rfl) ?_ ?_
       · refine ⟨?_, ?_, ?_, ?_, ?_, ?_, ?_, ?_, ?_, ?_, ?_, ?_, ?_, trivial⟩
         · intro w1 hx1; change wpList _ _ _ _ _ _; exact ob_move rfl rfl rfl rfl rfl
         · intro w1 hx1; change wpList _ _ _ _ _ _; exact ob_move rfl rfl rfl rfl rfl
         · rintro w1 hx1 _ rfl; change wpList _ _ _ _ _ _; go_wp2_with fail; exact ⟨rfl, Ext.refl _, rfl, rfl⟩
         · rintro w1 hx1 _ rfl _ rfl; change wpList _ _ _ _ _ _; go_wp2_with fail; exact ⟨rfl, Ext.refl _, rfl, rfl⟩
         · rintro w1 hx1 _ rfl; change wpList _ _ _ _ _ _; exact ob_move rfl rfl rfl rfl rfl
         · rintro w1 hx1 _ rfl; change wpList _ _ _ _ _ _; exact ob_skip rfl rfl rfl rfl
         · rintro w1 hx1 _ rfl; change wpList _ _ _ _ _ _; exact ob_skip rfl rfl rfl rfl
         · rintro w1 hx1 _ rfl _ rfl _ rfl; change wpList _ _ _ _ _ _; exact ob_skip rfl rfl rfl rfl
         · rintro w1 hx1 _ rfl _ rfl; change wpList _ _ _ _ _ _; exact ob_skip rfl rfl rfl rfl
         · rintro w1 hx1 _ rfl; change wpList _ _ _ _ _ _; exact ob_skip rfl rfl rfl rfl
         · rintro w1 hx1 _ rfl _ rfl _ rfl; change wpList _ _ _ _ _ _; exact ob_skip rfl rfl rfl rfl
         · rintro w1 hx1 _ rfl _ rfl; change wpList _ _ _ _ _ _; exact ob_skip rfl rfl rfl rfl
         · rintro w1 hx1 _ rfl _ rfl; change wpList _ _ _ _ _ _; exact ob_pick rfl rfl rfl rfl rfl rfl
       · rintro w1 hx1 _ rfl _ rfl _ rfl _ rfl _ rfl _ rfl _ rfl _ rfl _ rfl _ rfl _ rfl _ rfl _ rfl; refine depsThen_nil ?_; dsimp only; simp only [Act.put, List.setIfInBounds_toArray, List.set_cons_zero, List.set_cons_succ]
         have HXQ := Lib.hid (HX5.out.trans (hxc.out.trans hx1))
         have HOW := Lib.hid (own_ext HOUT.out (hxc.out.trans hx1))
         have HW58 := Lib.hid (hxc.out.trans hx1)
         have s0 := HW58.out.cell b0
         have s1 := HW58.out.cell b1
         have s2 := HW58.out.cell b2
         have s3 := HW58.out.cell b3
         have s4 := HW58.out.cell b4
         have s5 := HW58.out.cell b5
         have s6 := HW58.out.cell b6
         clear hx1 hxc
         go_upto_region 14 with fail
         obtain ⟨w8, hw8⟩ : ∃ z : World, z = w1 := ⟨_, rfl⟩
         subst hw8
         have hbase : w.heap.size ≤ w8.heap.size := HXQ.out.size
         have hone : ∀ u ∈ (us.take j).flatMap csC, u.oneCell' = true := csC_one _ fun z hz => (HSETS.out z (List.mem_of_mem_take hz)).one
         have HONE := Lib.hid hone
         have hone2 : ∀ u ∈ ((us.take j).drop j).flatMap csC, u.oneCell' = true := csC_one _ fun z hz => (HSETS.out z (List.mem_of_mem_take (List.mem_of_mem_drop hz))).one
         have HONE2 := Lib.hid hone2
         clear hone hone2
         go_upto_region 15 with (first
          | (refine cCut (.tmp 55) none (some (.tmp 56)) us j 0 j rfl rfl (Row.of_own HOW.out) rfl ⟨_, _, rfl, by omega, by omega⟩ (Nat.zero_le _) (by omega) ?_; intro v57 h57; rw [List.drop_zero, Nat.sub_zero] at h57; obtain ⟨a57, c57, rfl, _, _⟩ := Row.shape h57; have H57 := Lib.hid h57; clear h57)
          | (at_builtin; refine wpList_append_row 23 94 (.tmp 54) (.tmp 57) rfl w8.heap.size _ 7 88 Tryz.underlying23 info31t rfl (by decide) rfl (.slice none 0 0) 0 [] rfl (own_none _ _ _ _) j ((us.take j).flatMap csC) H57.out HONE.out (by omega) (by unfold maxLen; omega) (Nat.le_refl _) ?_; intro v58 w9 hown9 hg9; have HO9 := Lib.hid hown9; have HX9 := Lib.hid ((Ext.refl w8).grown_none (v := .slice none 0 0) hg9 (fun q hq => by cases hq)); clear hown9 hg9))
         have hown9 : w9.ownsRow w8.heap.size 94 7 v58 j ((us.take j).flatMap csC) := by have h := HO9.out; rw [Nat.zero_add, List.nil_append] at h; exact h
         obtain ⟨a58, c58, rfl, _, _⟩ := own_shape hown9
         have t0 := HX9.out.cell s0
         have t1 := HX9.out.cell s1
         have t2 := HX9.out.cell s2
         have t3 := HX9.out.cell s3
         have t4 := HX9.out.cell s4
         have t5 := HX9.out.cell s5
         have t6 := HX9.out.cell s6
         have hcx : csC x = [.string (strOf c.name), .int .i64 c.op, .int .i64 c.v.k, .int .i64 c.v.n, .string (strOf c.v.s), .bool c.v.b, .slice a4 (sortU cmpV c.set).length c4] := by rw [HXD.out]; rfl
         have hxb : Ext w9 (w9.alloc (.cells #[.string (strOf c.name), .int .i64 c.op, .int .i64 c.v.k, .int .i64 c.v.n, .string (strOf c.v.s), .bool c.v.b, .slice a4 (sortU cmpV c.set).length c4] 94)) := (Ext.refl w9).alloc _
         have hrow : Row (w9.alloc (.cells #[.string (strOf c.name), .int .i64 c.op, .int .i64 c.v.k, .int .i64 c.v.n, .string (strOf c.v.s), .bool c.v.b, .slice a4 (sortU cmpV c.set).length c4] 94)) 7 (.slice (some ⟨w9.heap.size, 0, none⟩) 1 1) 1 (csC x) := by have h := c_row w9 x; rw [hcx] at h ⊢; exact h
         have HROW := Lib.hid hrow
         have hone3 : ∀ u ∈ csC x, u.oneCell' = true := fun u hu => csC_one [x] (fun z hz => by rw [List.mem_singleton.1 hz]; exact HXSET.out.one) u (by rw [List.flatMap_singleton]; exact hu)
         have HONE3 := Lib.hid hone3
         have HO10 := Lib.hid (own_ext hown9 hxb)
         have HOWb := Lib.hid (own_ext HOW.out (HX9.out.trans hxb))
         have HX10 := Lib.hid (HX9.out.trans hxb)
         have hb10 : w8.heap.size ≤ (w9.alloc (.cells #[.string (strOf c.name), .int .i64 c.op, .int .i64 c.v.k, .int .i64 c.v.n, .string (strOf c.v.s), .bool c.v.b, .slice a4 (sortU cmpV c.set).length c4] 94)).heap.size := HX10.out.size
         clear hown9 HO9 HX9 hxb H57 s0 s1 s2 s3 s4 s5 s6 hcx hrow hone3
         go_upto_region 16 with (at_builtin; refine wpList_append_row 23 94 (.tmp 59) (.tmp 61) rfl w8.heap.size _ 7 88 Tryz.underlying23 info31t rfl (by decide) rfl _ j ((us.take j).flatMap csC) rfl HO10.out 1 (csC x) HROW.out HONE3.out (by omega) (by unfold maxLen; omega) hb10 ?_; intro v62 w11 hown11 hg11; have HO11 := Lib.hid hown11; have HG11 := Lib.hid hg11; clear hown11 hg11)
         obtain ⟨a62, c62, rfl, _, _⟩ := own_shape HO11.out
         have hkeep1 : ∀ q, (Value.slice ao j co).ownBlock = some q → (Value.slice a58 j c58).ownBlock ≠ some q := fun q hq => own_later HO10.out (Nat.le_refl _) (own_lt HOW.out q hq)
         have HOWc := Lib.hid (own_keep HOWb.out HG11.out (fun q hq e => hkeep1 q hq e))
         have HX11 := Lib.hid (HX10.out.grown_none HG11.out (own_base HO10.out))
         have hb11 : w8.heap.size ≤ w11.heap.size := HX11.out.size
         clear HO10 HROW HOWb HX10 HG11 hkeep1 t0 t1 t2 t3 t4 t5 t6
         go_upto_region 6 with (first
          | (refine cCut (.tmp 64) (some (.tmp 65)) none us j j j rfl rfl (Row.of_own HOWc.out) ⟨_, _, rfl, by omega, by omega⟩ rfl (by omega) (Nat.le_refl _) ?_; intro v66 h66; obtain ⟨a66, c66, rfl, _, _⟩ := Row.shape h66; have H66 := Lib.hid h66; clear h66)
          | (at_builtin; refine wpList_append_row 23 94 (.tmp 63) (.tmp 66) rfl w8.heap.size _ 7 88 Tryz.underlying23 info31t rfl (by decide) rfl _ (j + 1) ((us.take j).flatMap csC ++ csC x) rfl HO11.out (j - j) (((us.take j).drop j).flatMap csC) H66.out HONE2.out (by omega) (by unfold maxLen; omega) hb11 ?_; intro v67 w12 hown12 hg12; have HO12 := Lib.hid hown12; have HX12 := Lib.hid (HX11.out.grown_none hg12 (own_base HO11.out)); clear hown12 hg12))
         have hfin : w12.ownsRow w.heap.size 94 7 v67 (us.take j ++ x :: us.drop j).length ((us.take j ++ x :: us.drop j).flatMap csC) := by
          have h := own_low HO12.out hbase
          have e1 : us.take j = us := List.take_of_length_le (by rw [← HM.out]; exact Nat.le_refl _)
          rw [e1] at h
          have e2 : (us.take j ++ x :: us.drop j).length = j + 1 + (j - j) := by rw [List.length_append, List.length_cons, List.length_take, List.length_drop, ← HM.out]; omega
          have e3 : (us.take j ++ x :: us.drop j).flatMap csC = (us.take j).flatMap csC ++ csC x ++ (us.drop j).flatMap csC := by rw [List.flatMap_append, List.flatMap_cons, List.append_assoc]
          rw [e2, e3]; first | exact h | (rw [e1]; exact h)
         have HFIN := Lib.hid hfin
         have hext := HW58.out.trans HX12.out
         have HSF : Hid (∀ z ∈ us.take j ++ x :: us.drop j, SetO w.heap.size w12 z) := fun z hz => by
          rcases List.mem_append.1 hz with hz | hz
          · exact (HSETS.out z (List.mem_of_mem_take hz)).ext hext
          · rcases List.mem_cons.1 hz with rfl | hz
            · exact HXSET.out.ext hext
            · exact (HSETS.out z (List.mem_of_mem_drop hz)).ext hext
         have HXF := Lib.hid (HXQ.out.trans HX12.out)
         clear hfin hext HO12 HO11 HOWc HX11 H66 HX12 HXQ
         go_wp2_with fail
         go_roundw
         case rel => exact ⟨k + 1, us.take j ++ x :: us.drop j, hlt, by go_num, HEQ.out, HFIN.out, HSF.out, HXF.out⟩
         case measure => simp [intOf]; omega
  · obtain rfl : k = n := by omega
    have hI : decide ((k : Int) < (k : Int)) = false := decide_eq_false (by omega)
    have hall2 : p.take k = p := List.take_of_length_le (by have := HN.out; omega)
    rw [hall2] at hus
    go_wp2_with fail
    exact bodyPost_ret (v := .tuple #[u4, .int .i64 0]) (by simp [results, Tryz.results43, go_sem]) rfl ⟨_, us, rfl, by unfold normP; rw [← hus.out], hown.out, hset.out, hx.out⟩
end Go.Proofs.YtaklnpjpndkccaaGreat
namespace Go.Proofs.YtaklnpjpndkccaaGreat
open Go.RowKit
set_option maxRecDepth 100000 in
set_option maxHeartbeats 16000000 in
theorem own04_own (w : World) (v : Value) (p : List C) (hp : PredR w v p) (hb : ∀ c ∈ p, c.set.length * 40 ≤ 140737488355328) (hl : p.length * 88 ≤ 140737488355328) :
 Calls Tryz.prog 24 #[v] w fun e w' => ∃ (v' : Value) (us : List CS), e = .returned v' ∧ us.map CS.c = p ∧ w'.ownsRow w.heap.size 94 7 v' us.length (us.flatMap csC) ∧ (∀ x ∈ us, SetO w.heap.size w' x) ∧ Ext w w' := by
 obtain ⟨a, cap, rfl, hc, hcm⟩ := hp.shape
 unfold maxLen at hcm
 have HP := Lib.hid hp
 have HB := Lib.hid hb
 clear hp hb
 obtain ⟨n, hn⟩ : ∃ n, n = p.length := ⟨_, rfl⟩
 have HN := Lib.hid hn
 rw [← hn] at hc hl ⊢ HP
 clear hn
 go_enter Tryz.func24, Tryz.ntmps24
 go_wp2_with fail
 go_loopw [3, 8] (fun vo i wr => ∃ (k : Nat) (us : List CS), k ≤ n ∧ i = .int .i64 k ∧ Hid (us.map CS.c = p.take k) ∧ Hid (us.length = k) ∧ Hid (wr.ownsRow w.heap.size 94 7 vo us.length (us.flatMap csC)) ∧ Hid (∀ x ∈ us, SetO w.heap.size wr x) ∧ Hid (Ext w wr)) (fun _ i _ => n - (intOf i).toNat)
 case atStart => exact ⟨0, [], Nat.zero_le _, rfl, rfl, rfl, own_none _ _ _ _, (fun _ h => (by cases h)), Ext.refl _⟩
 case round =>
  obtain ⟨k, us, hk, rfl, hus, hul, hown, hset, hx⟩ := hrel
  by_cases hlt : k < n
  · have hI : decide ((k : Int) < (n : Int)) = true := decide_eq_true (by omega)
    have hkN : (k : Int) < (n : Int) := by omega
    have hkl : k < p.length := by have := HN.out; omega
    obtain ⟨B, o, sa, sc, rfl, f0, f1, f2, f3, f4, f5, f6, fs⟩ := (HP.out.ext hx.out).at hkl
    have hbk := HB.out p[k] (List.getElem_mem hkl)
    have htk : p.take (k + 1) = p.take k ++ [p[k]] := List.take_succ_eq_append_getElem hkl
    have HTK := Lib.hid htk
    clear htk
    generalize p[k] = c at *
    go_upto_region 5 with fail
    obtain ⟨hxa, hba⟩ := boxes1 wr (.cells #[.string (strOf c.name), .int .i64 c.op, .int .i64 c.v.k, .int .i64 c.v.n, .string (strOf c.v.s), .bool c.v.b, .slice sa c.set.length sc] 94)
    have q6 := cell_of_row _ _ 6 _ _ _ hba
    have z6 := frozen_of_row _ _ 6 _ _ hba
    have HXA := Lib.hid (hx.out.trans hxa)
    have HBA := Lib.hid hba
    have FS := Lib.hid (SetR.ext fs hxa)
    have HOA := Lib.hid (own_ext hown.out hxa)
    have HSA : Hid (∀ x ∈ us, SetO w.heap.size (wr.alloc (.cells #[.string (strOf c.name), .int .i64 c.op, .int .i64 c.v.k, .int .i64 c.v.n, .string (strOf c.v.s), .bool c.v.b, .slice sa c.set.length sc] 94)) x) := fun x hm => (hset.out x hm).ext hxa
    have hbx : w.heap.size ≤ wr.heap.size := hx.out.size
    have hsz : (wr.alloc (.cells #[.string (strOf c.name), .int .i64 c.op, .int .i64 c.v.k, .int .i64 c.v.n, .string (strOf c.v.s), .bool c.v.b, .slice sa c.set.length sc] 94)).heap.size = wr.heap.size + 1 := World.size_alloc _ _
    have HBL := Lib.hid (own_lt hown.out)
    have hbytes : (0 + c.set.length) * 40 ≤ 140737488355328 := by rw [Nat.zero_add]; exact hbk
    have h63 : 0 + c.set.length ≤ maxLen := by unfold maxLen; omega
    obtain ⟨uo, huo⟩ : ∃ x, x = u3 := ⟨_, rfl⟩
    subst huo
    clear hxa hba hown hset f0 f1 f2 f3 f4 f5 f6 fs hx
    generalize hbxn : wr.heap.size = bx at *
    clear hbxn
    generalize wr.alloc (.cells #[.string (strOf c.name), .int .i64 c.op, .int .i64 c.v.k, .int .i64 c.v.n, .string (strOf c.v.s), .bool c.v.b, .slice sa c.set.length sc] 94) = wa at *
    go_upto_region 6 with (at_builtin; refine wpList_append_row 92 80 (.const (.slice none 0 0)) (.tmp 13) rfl wa.heap.size _ 4 40 Tryz.underlying92 info28t rfl (by decide) rfl (.slice none 0 0) 0 [] rfl (own_none _ _ _ _) c.set.length (c.set.flatMap vC) FS.out (vC_one _) hbytes h63 (Nat.le_refl _) ?_; intro v4 w4 hown4 hg4; obtain ⟨a4, c4, e4, _, _⟩ := own_shape hown4; rw [Nat.zero_add] at e4; subst e4; have HX4 := Lib.hid ((Ext.refl wa).grown_none (v := .slice none 0 0) hg4 (fun q hq => by cases hq)); have HO4 : Hid (w4.ownsRow wa.heap.size 80 4 (.slice a4 c.set.length c4) c.set.length (c.set.flatMap vC)) := (by have h := hown4; rw [Nat.zero_add, List.nil_append] at h; exact h); have hba4 := block_later HBA.out HX4.out; have z64 := frozen_of_row _ _ 6 _ _ hba4; have z6c := cell_of_row _ _ 6 _ _ _ hba4; have HBA4 := Lib.hid hba4; clear hown4 hg4 hba4)
    have hg5 := grown_setC w4 bx 6 (.slice a4 c.set.length c4)
    have hb5 := setCell_blockC w4 bx 6 (.slice a4 c.set.length c4) _ _ _ HBA4.out
    have ho5 := own_keep (own_ext HOA.out HX4.out) hg5 (fun q hq e => by have h1 := HBL.out q hq; have h2 : bx = q := Option.some.inj e; omega)
    have hs5 : ∀ x ∈ us, SetO w.heap.size (w4.setCell ⟨bx, 6, none⟩ (.slice a4 c.set.length c4)) x := fun x hm => own_keep ((HSA.out x hm).ext HX4.out) hg5 (fun q hq e => own_ne ((HSA.out x hm).ext HX4.out) HBA4.out (by decide) (hq.trans e.symm))
    have hx5 : SetO w.heap.size (w4.setCell ⟨bx, 6, none⟩ (.slice a4 c.set.length c4)) ⟨c, .slice a4 c.set.length c4⟩ := own_keep (own_low HO4.out (by have := HXA.out.size; omega)) hg5 (fun q hq e => own_ne HO4.out HBA4.out (by decide) (hq.trans e.symm))
    have hxx5 : Ext w (w4.setCell ⟨bx, 6, none⟩ (.slice a4 c.set.length c4)) := (HXA.out.trans HX4.out).setCell hbx _
    have hb5' : (w4.setCell ⟨bx, 6, none⟩ (.slice a4 c.set.length c4)).heap[bx]? = some (.cells #[.string (strOf c.name), .int .i64 c.op, .int .i64 c.v.k, .int .i64 c.v.n, .string (strOf c.v.s), .bool c.v.b, .slice a4 c.set.length c4] 94 (0, 0)) := hb5
    have HOUT := Lib.hid ho5
    have HSETS := Lib.hid hs5
    have HXSET := Lib.hid hx5
    have HX5 := Lib.hid hxx5
    have b0 := cell_of_row _ _ 0 _ _ _ hb5'
    have b1 := cell_of_row _ _ 1 _ _ _ hb5'
    have b2 := cell_of_row _ _ 2 _ _ _ hb5'
    have b3 := cell_of_row _ _ 3 _ _ _ hb5'
    have b4 := cell_of_row _ _ 4 _ _ _ hb5'
    have b5 := cell_of_row _ _ 5 _ _ _ hb5'
    have b6 := cell_of_row _ _ 6 _ _ _ hb5'
    clear hg5 hb5 ho5 hs5 hx5 hxx5 HBA4 HX4 HO4 HOA HSA HXA HBA z6 z6c z64 q6 hb5' FS HBL
    generalize w4.setCell ⟨bx, 6, none⟩ (.slice a4 c.set.length c4) = w5 at *
    obtain ⟨ao, co, hvo, hco, hmo⟩ := own_shape HOUT.out
    rw [hvo] at HOUT
    rw [hvo]
    clear hvo
    have hm100 : (us.length + 1) * 88 ≤ 140737488355328 := by have := hul.out; omega
    have hxb : Ext w5 (w5.alloc (.cells #[.string (strOf c.name), .int .i64 c.op, .int .i64 c.v.k, .int .i64 c.v.n, .string (strOf c.v.s), .bool c.v.b, .slice a4 c.set.length c4] 94)) := (Ext.refl w5).alloc _
    have HROW := Lib.hid (show Row (w5.alloc (.cells #[.string (strOf c.name), .int .i64 c.op, .int .i64 c.v.k, .int .i64 c.v.n, .string (strOf c.v.s), .bool c.v.b, .slice a4 c.set.length c4] 94)) 7 (.slice (some ⟨w5.heap.size, 0, none⟩) 1 1) 1 (csC ⟨c, .slice a4 c.set.length c4⟩) from c_row w5 ⟨c, .slice a4 c.set.length c4⟩)
    have HONE : Hid (∀ u ∈ csC ⟨c, .slice a4 c.set.length c4⟩, u.oneCell' = true) := fun u hu => csC_one [⟨c, .slice a4 c.set.length c4⟩] (fun z hz => by rw [List.mem_singleton.1 hz]; rfl) u (by rw [List.flatMap_singleton]; exact hu)
    have HO10 := Lib.hid (own_ext HOUT.out hxb)
    have HX10 := Lib.hid (HX5.out.trans hxb)
    have hb10 : w.heap.size ≤ (w5.alloc (.cells #[.string (strOf c.name), .int .i64 c.op, .int .i64 c.v.k, .int .i64 c.v.n, .string (strOf c.v.s), .bool c.v.b, .slice a4 c.set.length c4] 94)).heap.size := HX10.out.size
    have HXB := Lib.hid hxb
    clear hxb
    go_upto_region 7 with (at_builtin; refine wpList_append_row 23 94 (.tmp 16) (.tmp 18) rfl w.heap.size _ 7 88 Tryz.underlying23 info31t rfl (by decide) rfl _ us.length (us.flatMap csC) rfl HO10.out 1 (csC ⟨c, .slice a4 c.set.length c4⟩) HROW.out HONE.out (by omega) (by unfold maxLen; omega) hb10 ?_; intro v6 w6 hown6 hg6; have HO6 := Lib.hid hown6; have HG6 := Lib.hid hg6; clear hown6 hg6)
    have hx6 := HX10.out.grown_none HG6.out (own_base HO10.out)
    have hkeep : ∀ z, SetO w.heap.size (w5.alloc (.cells #[.string (strOf c.name), .int .i64 c.op, .int .i64 c.v.k, .int .i64 c.v.n, .string (strOf c.v.s), .bool c.v.b, .slice a4 c.set.length c4] 94)) z → SetO w.heap.size w6 z := fun z hz => hz.keep HO10.out HG6.out
    have HSF : Hid (∀ z ∈ us ++ [(⟨c, .slice a4 c.set.length c4⟩ : CS)], SetO w.heap.size w6 z) := fun z hz => by
     rcases List.mem_append.1 hz with hz | hz
     · exact hkeep z ((HSETS.out z hz).ext HXB.out)
     · rw [List.mem_singleton.1 hz]; exact hkeep _ (HXSET.out.ext HXB.out)
    have HX6 := Lib.hid hx6
    have HOF : Hid (w6.ownsRow w.heap.size 94 7 v6 (us ++ [(⟨c, .slice a4 c.set.length c4⟩ : CS)]).length ((us ++ [(⟨c, .slice a4 c.set.length c4⟩ : CS)]).flatMap csC)) := by
     show World.ownsRow _ _ _ _ _ _ _
     rw [List.length_append, List.flatMap_append, List.flatMap_singleton]
     exact HO6.out
    have HU : Hid ((us ++ [(⟨c, .slice a4 c.set.length c4⟩ : CS)]).map CS.c = p.take (k + 1)) := by show _ = _; rw [HTK.out, List.map_append, hus.out]; rfl
    clear hx6 hkeep
    go_wp2_with fail
    go_roundw
    case rel => exact ⟨k + 1, us ++ [(⟨c, .slice a4 c.set.length c4⟩ : CS)], hlt, by go_num, HU, by show _ = _; rw [List.length_append, List.length_singleton, hul.out], HOF.out, HSF, HX6.out⟩
    case measure => simp [intOf]; omega
  · obtain rfl : k = n := by omega
    have hI : decide ((k : Int) < (k : Int)) = false := decide_eq_false (by omega)
    have hall2 : p.take k = p := List.take_of_length_le (by have := HN.out; omega)
    rw [hall2] at hus
    go_wp2_with fail
    go_ret
    exact ⟨_, us, rfl, hus.out, hown.out, hset.out, hx.out⟩
end Go.Proofs.YtaklnpjpndkccaaGreat
namespace Go.Proofs.YtaklnpjpndkccaaGreat
open Go.RowKit Go.Sort
theorem lay_gap (w : World) (v : Value) (l : List DM) (hl : Row w 6 v l.length (l.flatMap dmC)) (hlen : l.length ≤ 200) (f g : Nat) :
 Calls Tryz.prog 55 #[v, .agg #[.int .u64 0, .int .u64 0, .string ⟨#[]⟩, .slice none 0 0, .int .u64 f, .int .u64 g]] w fun e w' => ∃ v', e = .returned v' ∧ w'.ownsRow w.heap.size 104 6 v' (l.length + 1) ((layM l (DM.ofG (f, g))).flatMap dmC) ∧ Ext w w' :=
 lay_any w v l hl hlen (DM.ofG (f, g))
theorem lay_item (w : World) (v : Value) (l : List DM) (hl : Row w 6 v l.length (l.flatMap dmC)) (hlen : l.length ≤ 200) (x : IM) :
 Calls Tryz.prog 55 #[v, .agg #[.int .u64 x.n, .int .u64 x.t, .string (strOf x.key), .slice x.ha x.av.length x.hc, .int .u64 0, .int .u64 0]] w fun e w' => ∃ v', e = .returned v' ∧ w'.ownsRow w.heap.size 104 6 v' (l.length + 1) ((layM l (DM.ofI x)).flatMap dmC) ∧ Ext w w' :=
 lay_any w v l hl hlen (DM.ofI x)
structure RrowO (w w' : World) (v : Value) (gaps : List (Nat × Nat)) (items : List IM) (L : List DM) : Prop where
 pd : L.map DM.pd = rowR gaps (items.map IM.pi)
 own : w'.ownsRow w.heap.size 104 6 v L.length (L.flatMap dmC)
 src : ∀ x ∈ L, (x.av = [] ∧ x.ha = none ∧ x.hc = 0) ∨ ∃ y ∈ items, x.ha = y.ha ∧ x.hc = y.hc ∧ x.av = y.av
 x : Ext w w'
 len : L.length = gaps.length + items.length
set_option maxRecDepth 100000 in
set_option maxHeartbeats 8000000 in
theorem rrow_any (w : World) (fr en : Nat) (hi hg : Value) (last : Bool) (items : List IM) (gaps : List (Nat × Nat)) (h1 : ImR w hi items) (h2 : GpR w hg gaps) (hl1 : items.length ≤ 40) (hl2 : gaps.length ≤ 40) :
 Calls Tryz.prog 30 #[.agg #[.int .u64 fr, .int .u64 en, hi, hg, .bool last]] w fun e w' => ∃ v L, e = .returned v ∧ Hid (RrowO w w' v gaps items L) := by
 obtain ⟨hx, hb⟩ := boxes1 w (.cells #[.int .u64 fr, .int .u64 en, hi, hg, .bool last] 34)
 obtain ⟨a1, c1, rfl, _, _⟩ := Row.shape h1.row
 obtain ⟨a2, c2, rfl, _, _⟩ := Row.shape h2
 have HB := Lib.hid hb
 have HX := Lib.hid hx
 have H1 := Lib.hid h1
 have H2 := Lib.hid h2
 obtain ⟨n1, hn1⟩ : ∃ n, n = items.length := ⟨_, rfl⟩
 obtain ⟨n2, hn2⟩ : ∃ n, n = gaps.length := ⟨_, rfl⟩
 have HN := Lib.hid (And.intro hn1 hn2)
 rw [← hn1] at HB HX hl1 ⊢
 rw [← hn2] at HB HX hl2 ⊢
 clear hx hb h1 h2 hn1 hn2
 go_enter Tryz.func30, Tryz.ntmps30
 go_upto_region 2 with fail
 generalize hwb : w.alloc (.cells #[.int .u64 fr, .int .u64 en, .slice a1 n1 c1, .slice a2 n2 c2, .bool last] 34) = wb at *
 clear hwb
 go_wp2_with fail
 go_loopw [3, 4] (fun vo iv wr => ∃ (i : Nat) (L : List DM), iv = .int .i64 i ∧ i ≤ n2 ∧ Hid (L.map DM.pd = ((gaps.take i).map PD.ofG).foldl layD [] ∧ L.length = i ∧ wr.ownsRow w.heap.size 104 6 vo L.length (L.flatMap dmC) ∧ (∀ x ∈ L, x.av = [] ∧ x.ha = none ∧ x.hc = 0) ∧ Ext wb wr)) (fun _ iv _ => n2 - (intOf iv).toNat)
 case atStart => exact ⟨0, [], rfl, Nat.zero_le _, rfl, rfl, own_none _ _ _ _, (fun _ h => by cases h), Ext.refl _⟩
 case round =>
  obtain ⟨i, L, rfl, hi, hst⟩ := hrel
  obtain ⟨hpd, hlen, hown, hno, hxr⟩ := hst.out
  have kb := block_later HB.out hxr
  have m2 := cell_of_row _ _ 2 _ _ _ kb
  have m3 := cell_of_row _ _ 3 _ _ _ kb
  clear hst kb
  by_cases h : i < n2
  · have hI : decide ((i : Int) < (n2 : Int)) = true := decide_eq_true (by omega)
    have hil : i < gaps.length := by have := HN.out; omega
    have hr : Row wr 2 (.slice a2 gaps.length c2) gaps.length (gaps.flatMap gpC) := Row.ext (Row.ext H2.out HX.out) hxr
    obtain ⟨B, o, rfl⟩ := Row.base hr (by omega) (by decide)
    have g := fun j hj => flat_get gpC 2 gpC_len gaps i hil j hj
    have g0 := Row.cellAt hr (g 0 (by decide)) (by omega)
    have g1 := Row.cellAt hr (g 1 (by decide)) (by omega)
    rw [Nat.add_zero] at g0
    rw [← Nat.add_assoc] at g1
    replace g0 : wr.cell? ⟨B, o + i * 2, none⟩ = some (.int .u64 gaps[i].1) := g0
    replace g1 : wr.cell? ⟨B, o + i * 2 + 1, none⟩ = some (.int .u64 gaps[i].2) := g1
    obtain ⟨f, hf⟩ : ∃ f, f = gaps[i].1 := ⟨_, rfl⟩
    obtain ⟨t, ht⟩ : ∃ t, t = gaps[i].2 := ⟨_, rfl⟩
    rw [← hf] at g0
    rw [← ht] at g1
    have HFT : Hid (gaps[i] = (f, t)) := by show _ = _; rw [hf, ht]
    have C := Lib.hid (lay_gap wr _ L (Row.of_own hown) (by omega) f t)
    have HO := Lib.hid (And.intro hpd (And.intro hlen (And.intro hno hxr)))
    clear hr g hf ht hown hpd hlen hno hxr
    go_wp2_with (go_at_call 55; (with_reducible refine C.out.mono ?_); rintro e w5 ⟨v5, rfl, ho5, hx5⟩; have HO5 := Lib.hid ho5; have HX5 := Lib.hid hx5; clear ho5 hx5)
    go_roundw
    case rel =>
     obtain ⟨hpd, hlen, hno, hxr⟩ := HO.out
     refine ⟨i + 1, layM L (DM.ofG (f, t)), by rw [Int.natCast_add]; rfl, by omega, ?_, by rw [layM_len, hlen], ?_, ?_, hxr.trans HX5.out⟩
     · rw [layM_pd, hpd, List.take_succ_eq_append_getElem hil, List.map_append, List.foldl_append, HFT.out]; rfl
     · rw [layM_len]; exact own_low HO5.out (HX.out.trans hxr).size
     · intro x hx
       rcases layM_mem hx with rfl | hx
       · exact ⟨rfl, rfl, rfl⟩
       · exact hno x hx
    case measure => simp [intOf]; omega
  · have hI : decide ((i : Int) < (n2 : Int)) = false := decide_eq_false (by omega)
    have HG0 : Hid (L.map DM.pd = (gaps.map PD.ofG).foldl layD []) := by
     show _ = _
     rw [hpd, List.take_of_length_le (by have := HN.out; omega)]
    have HO := Lib.hid (And.intro hown (And.intro (show L.length = n2 by omega) (And.intro hno hxr)))
    clear hpd hown hlen hno hxr
    go_wp2_with fail
    go_loopw [3, 5] (fun vo iv wq => ∃ (i : Nat) (L : List DM), iv = .int .i64 i ∧ i ≤ n1 ∧ Hid (L.map DM.pd = ((items.take i).map fun x => PD.ofI x.pi).foldl layD ((gaps.map PD.ofG).foldl layD []) ∧ L.length = n2 + i ∧ wq.ownsRow w.heap.size 104 6 vo L.length (L.flatMap dmC) ∧ (∀ x ∈ L, (x.av = [] ∧ x.ha = none ∧ x.hc = 0) ∨ ∃ y ∈ items, x.ha = y.ha ∧ x.hc = y.hc ∧ x.av = y.av) ∧ Ext wb wq)) (fun _ iv _ => n1 - (intOf iv).toNat)
    case atStart => exact ⟨0, L, rfl, Nat.zero_le _, HG0.out, HO.out.2.1, HO.out.1, (fun x hx => .inl (HO.out.2.2.1 x hx)), HO.out.2.2.2⟩
    case round =>
     clear HG0 HO m2 m3
     obtain ⟨i, L, rfl, hi, hst⟩ := hrel
     obtain ⟨hpd, hlen, hown, hno, hxr⟩ := hst.out
     have kb := block_later HB.out hxr
     have m2 := cell_of_row _ _ 2 _ _ _ kb
     have m3 := cell_of_row _ _ 3 _ _ _ kb
     clear hst kb
     by_cases h : i < n1
     · have hI : decide ((i : Int) < (n1 : Int)) = true := decide_eq_true (by omega)
       have hil : i < items.length := by have := HN.out; omega
       have hr : Row wr 4 (.slice a1 items.length c1) items.length (items.flatMap imC) := Row.ext (Row.ext H1.out.row HX.out) hxr
       obtain ⟨B, o, rfl⟩ := Row.base hr (by omega) (by decide)
       have g := fun j hj => flat_get imC 4 imC_len items i hil j hj
       have g0 := Row.cellAt hr (g 0 (by decide)) (by omega)
       have g1 := Row.cellAt hr (g 1 (by decide)) (by omega)
       have g2 := Row.cellAt hr (g 2 (by decide)) (by omega)
       have g3 := Row.cellAt hr (g 3 (by decide)) (by omega)
       rw [Nat.add_zero] at g0
       rw [← Nat.add_assoc] at g1 g2 g3
       obtain ⟨x, hx⟩ : ∃ x, x = items[i] := ⟨_, rfl⟩
       rw [← hx] at g0 g1 g2 g3
       replace g0 : wr.cell? ⟨B, o + i * 4, none⟩ = some (.int .u64 x.n) := g0
       replace g1 : wr.cell? ⟨B, o + i * 4 + 1, none⟩ = some (.int .u64 x.t) := g1
       replace g2 : wr.cell? ⟨B, o + i * 4 + 2, none⟩ = some (.string (strOf x.key)) := g2
       replace g3 : wr.cell? ⟨B, o + i * 4 + 3, none⟩ = some (.slice x.ha x.av.length x.hc) := g3
       have HXI := Lib.hid hx
       have C := Lib.hid (lay_item wr _ L (Row.of_own hown) (by omega) x)
       have HO := Lib.hid (And.intro hpd (And.intro hlen (And.intro hno hxr)))
       clear hr g hown hpd hlen hno hxr hx
       go_wp2_with (go_at_call 55; (with_reducible refine C.out.mono ?_); rintro e w5 ⟨v5, rfl, ho5, hx5⟩; have HO5 := Lib.hid ho5; have HX5 := Lib.hid hx5; clear ho5 hx5)
       go_roundw
       case rel =>
        obtain ⟨hpd, hlen, hno, hxr⟩ := HO.out
        refine ⟨i + 1, layM L (DM.ofI x), by rw [Int.natCast_add]; rfl, by omega, ?_, by rw [layM_len, hlen]; rfl, ?_, ?_, hxr.trans HX5.out⟩
        · rw [layM_pd, hpd, List.take_succ_eq_append_getElem hil, List.map_append, List.foldl_append, ← HXI.out]; rfl
        · rw [layM_len]; exact own_low HO5.out (HX.out.trans hxr).size
        · intro z hz
          rcases layM_mem hz with rfl | hz
          · exact .inr ⟨x, by rw [HXI.out]; exact List.getElem_mem hil, rfl, rfl, rfl⟩
          · exact hno z hz
       case measure => simp [intOf]; omega
     · have hI : decide ((i : Int) < (n1 : Int)) = false := decide_eq_false (by omega)
       obtain ⟨va, vc, rfl, _, _⟩ := own_shape hown
       have HO := Lib.hid (And.intro hpd (And.intro hlen (And.intro hown (And.intro hno hxr))))
       clear hpd hlen hown hno hxr
       go_wp2_with fail
       go_ret
       obtain ⟨hpd, hlen, hown, hno, hxr⟩ := HO.out
       have hxx := HX.out.trans hxr
       refine ⟨_, L, rfl, ?_, hown, hno, hxx, by have := HN.out; omega⟩
       rw [hpd, List.take_of_length_le (by have := HN.out; omega)]
       unfold rowR
       rw [List.map_map]; rfl
theorem RrowO.hat {w w' W : World} {v hi : Value} {gaps : List (Nat × Nat)} {items : List IM} {L : List DM} (h : RrowO w w' v gaps items L) (hI : ImR W hi items) {z : DM} (hz : z ∈ L) : AttrR W z.h z.av := by
 rcases h.src z hz with ⟨e1, e2, e3⟩ | ⟨y, hy, e1, e2, e3⟩
 · show Row _ _ (.slice z.ha z.av.length z.hc) _ _
   rw [e1, e2, e3]; exact Row.nil _ _
 · show AttrR _ (.slice z.ha z.av.length z.hc) z.av
   rw [e1, e2, e3]; exact hI.hs y hy
def RsB (w : World) (b : Nat) (pv : Value) (next : Int) (st : Int) (count : Int) : Prop := w.heap[b]? = some (.cells #[pv, .int .u64 next, .int .i64 st, .int .u64 count] 84 (0, 0))
theorem RsB.set1 {w : World} {b : Nat} {pv : Value} {n s c : Int} (h : RsB w b pv n s c) (v : Int) : RsB (w.setCell ⟨b, 1, none⟩ (.int .u64 v)) b pv v s c := by
 have := setCell_blockJ 1 (.int .u64 v) h
 simpa [RsB] using this
theorem RsB.set2 {w : World} {b : Nat} {pv : Value} {n s c : Int} (h : RsB w b pv n s c) (v : Int) : RsB (w.setCell ⟨b, 2, none⟩ (.int .i64 v)) b pv n v c := by
 have := setCell_blockJ 2 (.int .i64 v) h
 simpa [RsB] using this
theorem RsB.set3 {w : World} {b : Nat} {pv : Value} {n s c : Int} (h : RsB w b pv n s c) (v : Int) : RsB (w.setCell ⟨b, 3, none⟩ (.int .u64 v)) b pv n s v := by
 have := setCell_blockJ 3 (.int .u64 v) h
 simpa [RsB] using this
structure RsR (w0 w : World) (bs : Nat) (pv : Value) (p : List C) (next : Nat) (st count : Int) : Prop where
 sp : RsB w bs pv next st count
 old : w0.heap.size ≤ bs
 pr : PredR w0 pv p
 hx : Ext w0 w
theorem RsR.later {w0 w w' : World} {bs : Nat} {pv : Value} {p : List C} {next : Nat} {st cnt : Int} (h : RsR w0 w bs pv p next st cnt) (hx : Ext w w') : RsR w0 w' bs pv p next st cnt := ⟨block_later h.sp hx, h.old, h.pr, h.hx.trans hx⟩
theorem RsR.turn {w0 w w' : World} {bs : Nat} {pv : Value} {p : List C} {next n' : Nat} {st cnt st' cnt' : Int} (h : RsR w0 w bs pv p next st cnt) (hg : w.grownBy w' (some bs)) (hS : RsB w' bs pv n' st' cnt') : RsR w0 w' bs pv p n' st' cnt' := ⟨hS, h.old, h.pr, ext_but h.hx hg h.old⟩
set_option maxRecDepth 100000 in
set_option maxHeartbeats 4000000 in
theorem rnew_may (w : World) (v : Value) (p : List C) (hp : PredR w v p) (hm : mayP p = false) (next : Int) :
 Calls Tryz.prog 25 #[v, .int .u64 next] w fun e w' => e = .returned (.tuple #[.pointer none, .int .i64 30]) ∧ Ext w w' := by
 have CN := Lib.hid (rnormal_no w v p hp hm)
 obtain ⟨a, c, rfl, _, _⟩ := hp.shape
 clear hp hm
 go_enter Tryz.func25, Tryz.ntmps25
 go_wp2_with (go_at_call 43; (with_reducible refine CN.out.mono ?_); rintro e w5 ⟨rfl, hx5⟩; have HX5 := Lib.hid hx5; clear hx5)
 go_ret2
 exact ⟨rfl, HX5.out⟩
set_option maxRecDepth 100000 in
set_option maxHeartbeats 4000000 in
theorem rnew_arg (w : World) (v : Value) (p : List C) (hp : PredR w v p) (hm : mayP p = true) (next : Nat) (hn : next < 1 ∨ 1099511627777 < next) :
 Calls Tryz.prog 25 #[v, .int .u64 next] w fun e w' => e = .returned (.tuple #[.pointer none, .int .i64 1]) ∧ Ext w w' := by
 have CN := Lib.hid (rnormal_own w v p hp hm)
 obtain ⟨a, c, rfl, _, _⟩ := hp.shape
 clear hp hm
 by_cases h1 : next = 0
 · have d1 : ((next : Int) == 0) = true := by rw [h1]; rfl
   have d1' : (next == 0) = true := by rw [h1]; rfl
   clear h1 hn
   go_enter Tryz.func25, Tryz.ntmps25
   go_wp2_with (go_at_call 43; refine CN.out.mono ?_; rintro e w5 ⟨v5, us, rfl, _, _, _, hx5⟩; have HX5 := Lib.hid hx5; clear hx5)
   go_ret2
   exact ⟨rfl, HX5.out⟩
 · have d1 : ((next : Int) == 0) = false := by simp; omega
   have d1' : (next == 0) = false := by simp; omega
   have d2 : decide ((next : Int) > 1099511627777) = true := decide_eq_true (by omega)
   have d2' : decide (1099511627777 < next) = true := decide_eq_true (by omega)
   clear h1 hn
   go_enter Tryz.func25, Tryz.ntmps25
   go_wp2_with (go_at_call 43; refine CN.out.mono ?_; rintro e w5 ⟨v5, us, rfl, _, _, _, hx5⟩; have HX5 := Lib.hid hx5; clear hx5)
   go_ret2
   exact ⟨rfl, HX5.out⟩
set_option maxRecDepth 100000 in
set_option maxHeartbeats 4000000 in
theorem rnew_yesB (w : World) (v : Value) (p : List C) (hp : PredR w v p) (hm : mayP p = true) (next : Nat) (h1 : 1 ≤ next) (h2 : next ≤ 1099511627777) :
 Calls Tryz.prog 25 #[v, .int .u64 next] w fun e w' => ∃ bs : Nat, e = .returned (.tuple #[.pointer (some ⟨bs, 0, none⟩), .int .i64 0]) ∧ Hid (∃ w0 pv, RsR w0 w' bs pv (normP p) next 0 0 ∧ PredB w.heap.size w0 pv (normP p) ∧ Ext w w0 ∧ Ext w w') := by
 have CN := Lib.hid (rnormal_own w v p hp hm)
 obtain ⟨a, c, rfl, _, _⟩ := hp.shape
 clear hp hm
 have d1 : ((next : Int) == 0) = false := by simp; omega
 have d1' : (next == 0) = false := by simp; omega
 have d2 : decide ((next : Int) > 1099511627777) = false := decide_eq_false (by omega)
 have d2' : decide (1099511627777 < next) = false := decide_eq_false (by omega)
 clear h1 h2
 go_enter Tryz.func25, Tryz.ntmps25
 go_wp2_with (go_at_call 43; refine CN.out.mono ?_; rintro e w5 ⟨v5, us, rfl, hus, hown, hset, hx5⟩; have HX5 := Lib.hid hx5; have HPB : Hid (PredB w.heap.size w5 v5 (normP p)) := ⟨us, hus, hown, hset⟩; obtain ⟨a5, c5, rfl, _, _⟩ := own_shape hown; clear hus hown hset hx5)
 go_ret2
 refine ⟨_, rfl, w5, _, ⟨(boxes1 w5 _).2, Nat.le_refl _, HPB.out.pr, (boxes1 w5 _).1⟩, HPB.out, HX5.out, HX5.out.trans (boxes1 w5 _).1⟩
set_option maxHeartbeats 4000000 in
theorem rlit_any (w : World) (b : Nat) (pv : Value) (next st count : Int) (h : RsB w b pv next st count) (known : Bool) :
 Calls Tryz.prog 26 #[.pointer (some ⟨b, 0, none⟩), .bool known] w fun e w' => e = .returned (.tuple #[]) ∧ Hid (RsB w' b pv next (if known then 1 else 0) count ∧ w.grownBy w' (some b)) := by
 have b2 := cell_of_row _ _ 2 _ _ _ h
 have z2 := frozen_of_row _ _ 2 _ _ h
 have b2' := cell_of_row _ _ 2 _ _ _ (h.set2 0)
 have z2' := frozen_of_row _ _ 2 _ _ (h.set2 0)
 have HH := Lib.hid h
 clear h
 cases known
 · go_enter Tryz.func26, Tryz.ntmps26
   go_wp2_with fail
   go_end0
   exact ⟨rfl, HH.out.set2 0, grown_setJ _ _ _ _⟩
 · go_enter Tryz.func26, Tryz.ntmps26
   go_wp2_with fail
   go_end0
   exact ⟨rfl, (HH.out.set2 0).set2 1, grown_at (grown_setJ _ _ _ _) (grown_setJ _ _ _ _)⟩
set_option maxHeartbeats 4000000 in
theorem rask_no (w : World) (b : Nat) (pv : Value) (next st count : Int) (h : RsB w b pv next st count) (hs : st ≠ 1) (cnt : Int) :
 Calls Tryz.prog 27 #[.pointer (some ⟨b, 0, none⟩), .int .u64 cnt] w fun e w' => e = .returned (.tuple #[.int .u64 0, .bool false]) ∧ w' = w := by
 have b2 := cell_of_row _ _ 2 _ _ _ h
 have d1 : (st != 1) = true := bne_iff_ne.2 hs
 clear h hs
 go_enter Tryz.func27, Tryz.ntmps27
 go_wp2_with fail
 go_ret2
 exact ⟨rfl, rfl⟩
set_option maxHeartbeats 4000000 in
theorem rask_yes (w : World) (b : Nat) (pv : Value) (next count : Int) (h : RsB w b pv next 1 count) (cnt : Int) :
 Calls Tryz.prog 27 #[.pointer (some ⟨b, 0, none⟩), .int .u64 cnt] w fun e w' => e = .returned (.tuple #[.int .u64 next, .bool true]) ∧ Hid (RsB w' b pv next 2 cnt ∧ w.grownBy w' (some b)) := by
 have b2 := cell_of_row _ _ 2 _ _ _ h
 have z2 := frozen_of_row _ _ 2 _ _ h
 have b3 := cell_of_row _ _ 3 _ _ _ (h.set2 2)
 have z3 := frozen_of_row _ _ 3 _ _ (h.set2 2)
 have b1 := cell_of_row _ _ 1 _ _ _ ((h.set2 2).set3 cnt)
 have HH := Lib.hid h
 clear h
 go_enter Tryz.func27, Tryz.ntmps27
 go_wp2_with fail
 go_ret2
 exact ⟨rfl, (HH.out.set2 2).set3 cnt, grown_at (grown_setJ _ _ _ _) (grown_setJ _ _ _ _)⟩
end Go.Proofs.YtaklnpjpndkccaaGreat
