/- The reference's Normal (pneumaticref04).
The document's index of predicates (08) in memory: at, has, Add, Remove.
The document's index of predicates (08): Add, Remove. -/
import Derived.Test.YtckigoeomkphhaaGreatPk4
import Derived.Test.YtckigoeomkphhaaGreatPk6
import Derived.Test.YtckigoeomkphhaaGreatPk2
import Derived.Test.YtckigoeomkphhaaGreatPk3
namespace Go.Proofs.YtckigoeomkphhaaGreat
open Go.RowKit

theorem cCut {ops : Array Oper} {Q : Exit → Act → World → Prop} {a : Act} {w : World} {rest : List Oper} {o : Oper}
    (x : Operand) (lo hi : Option Operand) (us : List CS) (n i j : Nat)
    (ho : o.op = .slice 28 x lo hi none)
    (hw : Region.wanted o (yielded ops a.tmps) = true) (hx : Row w 7 (a.eval x) n (us.flatMap csC))
    (hlo : BoundIs a lo 0 i) (hhi : BoundIs a hi n j) (hij : i ≤ j) (hj : j ≤ n)
    (h : ∀ v, Row w 7 v (j - i) (((us.take j).drop i).flatMap csC) → wpList Tryz.prog ops Q rest (a.put o.dst v) w) : wpList Tryz.prog ops Q (o :: rest) a w := by
  refine wpList_cut 28 52 x lo hi 7 n i j _ ho Tryz.underlying28 (by kernel_rfl) hw hx hlo hhi hij hj fun v hv => h v ?_
  rw [flat_take csC 7 csC_len, flat_drop csC 7 csC_len] at hv
  exact hv
theorem grown_setC (w : World) (b j : Nat) (v : Value) : w.grownBy (w.setCell ⟨b, j, none⟩ v) (some b) := by
  have h := Below.setCell (Below.refl b w) (p := ⟨b, j, none⟩) (Nat.le_refl _) v
  refine ⟨h.os, h.tape, h.output, by rw [World.size_setCell]; exact Nat.le_refl _, fun k hk hne => ?_⟩
  show (w.heap.modify b _)[k]? = w.heap[k]?
  rw [Array.getElem?_modify, if_neg (fun e => hne (by rw [← e]))]
theorem setCell_blockC (w : World) (b i : Nat) (v : Value) (c : Array Value) (t : TypeId) (fr : Nat × Nat) (h : w.heap[b]? = some (.cells c t fr)) : (w.setCell ⟨b, i, none⟩ v).heap[b]? = some (.cells (c.setIfInBounds i v) t fr) := by
  unfold World.setCell
  simp [Array.getElem?_modify, h]
theorem c_row (w : World) (x : CS) : Row (w.alloc (.cells (csC x).toArray 52)) 7 (.slice (some ⟨w.heap.size, 0, none⟩) 1 1) 1 (csC x) :=
  Row.of_own (World.ownsRow_lit (base := w.heap.size) (e := 52) (size := 7) w (csC x).toArray 1 (Nat.le_refl _) (by decide) rfl)
theorem cs_atP {w : World} {a : Option Addr} {n cap : Nat} {us : List CS} (h : Row w 7 (.slice a n cap) n (us.flatMap csC)) {k : Nat} (hk : k < us.length) (hn : 0 < n) :
    ∃ B o, a = some ⟨B, o, none⟩ ∧ ∀ j u, (csC us[k])[j]? = some u → j < 7 → w.cell? ⟨B, o + k * 7 + j, none⟩ = some u := by
  obtain ⟨B, o, rfl⟩ := Row.base h hn (by decide)
  refine ⟨B, o, rfl, fun j u hj h7 => ?_⟩
  have g0 := flat_get csC 7 csC_len us k hk j h7
  have := Row.cellAt h (j := k * 7 + j) (u := u) (g0.trans hj) hn
  rwa [← Nat.add_assoc] at this

set_option maxRecDepth 100000 in
set_option maxHeartbeats 2000000 in
theorem rnormal_no (w : World) (v : Value) (p : List C) (hp : PredR w v p) (hm : mayP p = false) : Calls Tryz.prog 39 #[v] w fun e w' => e = .returned (.tuple #[.slice none 0 0, .int .i64 30]) ∧ Ext w w' := by
  have hc := rpmay_any w v p hp
  rw [hm] at hc
  obtain ⟨a, cap, rfl, _, _⟩ := hp.shape
  have HC := Lib.hid hc
  clear hm hp hc
  generalize p.length = n at *
  go_enter Tryz.func39, Tryz.ntmps39
  go_wp2_with (go_at_call 61; (with_reducible refine HC.out.mono ?_); rintro e w1 ⟨rfl, hx1⟩; have HX1 := Lib.hid hx1; clear hx1)
  exact bodyPost_ret (v := .tuple #[.slice none 0 0, .int .i64 30]) (by simp [results, Tryz.results39, go_sem]) rfl ⟨rfl, HX1.out⟩

set_option maxRecDepth 100000 in
set_option maxHeartbeats 32000000 in
theorem rnormal_own (w : World) (v : Value) (p : List C) (hp : PredR w v p) (hm : mayP p = true) :
    Calls Tryz.prog 39 #[v] w fun e w' => ∃ (v' : Value) (us : List CS), e = .returned (.tuple #[v', .int .i64 0]) ∧ us.map CS.c = normP p ∧ w'.ownsRow w.heap.size 52 7 v' us.length (us.flatMap csC) ∧ (∀ x ∈ us, SetO w.heap.size w' x) ∧ Ext w w' := by
  have hmc := rpmay_any w v p hp
  rw [hm] at hmc
  have hl6 := may_len hm
  have hall := Lib.hid (may_all hm)
  obtain ⟨a, cap, rfl, hc, hcm⟩ := hp.shape
  unfold maxLen at hcm
  have HP := Lib.hid hp
  have HMC := Lib.hid hmc
  clear hm hp hmc
  obtain ⟨n, hn⟩ : ∃ n, n = p.length := ⟨_, rfl⟩
  have HN := Lib.hid hn
  rw [← hn] at hc hl6 ⊢ HP HMC
  clear hn
  go_enter Tryz.func39, Tryz.ntmps39
  go_upto_region 3 with (go_at_call 61; (with_reducible refine HMC.out.mono ?_); rintro e wm ⟨rfl, hx1⟩; have HXM := Lib.hid hx1; clear hx1 HMC)
  go_wp2_with fail
  go_loopw [4, 5] (fun vo i wr => ∃ (k : Nat) (us : List CS), k ≤ n ∧ i = .int .i64 k ∧ Hid (us.map CS.c = sortU orderC ((p.take k).map normC)) ∧ Hid (wr.ownsRow w.heap.size 52 7 vo us.length (us.flatMap csC)) ∧ Hid (∀ x ∈ us, SetO w.heap.size wr x) ∧ Hid (Ext w wr)) (fun _ i _ => n - (intOf i).toNat)
  case atStart => exact ⟨0, [], Nat.zero_le _, rfl, rfl, own_none _ _ _ _, (fun _ h => (by cases h)), HXM.out⟩
  case round =>
    clear HXM
    obtain ⟨k, us, hk, rfl, hus, hown, hset, hx⟩ := hrel
    by_cases hlt : k < n
    · have hI : decide ((k : Int) < (n : Int)) = true := decide_eq_true (by omega)
      have hkN : (k : Int) < (n : Int) := by omega
      have hkl : k < p.length := by have := HN.out; omega
      obtain ⟨B, o, sa, sc, rfl, f0, f1, f2, f3, f4, f5, f6, fs⟩ := (HP.out.ext hx.out).at hkl
      have hmk := hall.out p[k] (List.getElem_mem hkl)
      have hst : sortU orderC ((p.take (k + 1)).map normC) = insU orderC (normC p[k]) (us.map CS.c) := by rw [List.take_succ_eq_append_getElem hkl, List.map_append, hus.out]; exact sortU_snoc _ _
      have HST := Lib.hid hst
      have hmlen : us.length ≤ k := by
        have h1 := congrArg List.length hus.out
        rw [List.length_map] at h1
        have h2 := sortU_len (cf := orderC) ((p.take k).map normC)
        rw [List.length_map, List.length_take] at h2
        omega
      clear hst hus
      generalize p[k] = c at *
      have hs6 := may_set hmk
      go_upto_region 8 with fail
      obtain ⟨hxa, hba⟩ := boxes1 wr (.cells #[.string (strOf c.name), .int .i64 c.op, .int .i64 c.v.k, .int .i64 c.v.n, .string (strOf c.v.s), .bool c.v.b, .slice sa c.set.length sc] 52)
      have q6 := cell_of_row _ _ 6 _ _ _ hba
      have hcall := rset_any _ _ c.set (SetR.ext fs hxa) hs6
      have HCALL := Lib.hid hcall
      have HXA := Lib.hid (hx.out.trans hxa)
      have HBA := Lib.hid hba
      have HOA := Lib.hid (own_ext hown.out hxa)
      have HSA : Hid (∀ x ∈ us, SetO w.heap.size (wr.alloc (.cells #[.string (strOf c.name), .int .i64 c.op, .int .i64 c.v.k, .int .i64 c.v.n, .string (strOf c.v.s), .bool c.v.b, .slice sa c.set.length sc] 52)) x) := fun x hm => (hset.out x hm).ext hxa
      have hbx : w.heap.size ≤ wr.heap.size := hx.out.size
      have hsz : (wr.alloc (.cells #[.string (strOf c.name), .int .i64 c.op, .int .i64 c.v.k, .int .i64 c.v.n, .string (strOf c.v.s), .bool c.v.b, .slice sa c.set.length sc] 52)).heap.size = wr.heap.size + 1 := World.size_alloc _ _
      have hbl : ∀ q, u4.ownBlock = some q → q < wr.heap.size := own_lt hown.out
      have HBL := Lib.hid hbl
      clear hcall hxa hba hown hset f0 f1 f2 f3 f4 f5 f6 fs hx hbl
      generalize hbxn : wr.heap.size = bx at *
      clear hbxn
      generalize wr.alloc (.cells #[.string (strOf c.name), .int .i64 c.op, .int .i64 c.v.k, .int .i64 c.v.n, .string (strOf c.v.s), .bool c.v.b, .slice sa c.set.length sc] 52) = wa at *
      go_upto_block 2 with (go_at_call 62; (with_reducible refine HCALL.out.mono ?_); rintro e w4 ⟨v4, rfl, ho4, hx4⟩; obtain ⟨a4, c4, rfl, _, _⟩ := own_shape ho4; have HO4 := Lib.hid ho4; have HX4 := Lib.hid hx4; have hba4 := block_later HBA.out hx4; have z6 := frozen_of_row _ _ 6 _ _ hba4; have z6c := cell_of_row _ _ 6 _ _ _ hba4; have HBA4 := Lib.hid hba4; clear ho4 hx4 hba4)
      have hg5 := grown_setC w4 bx 6 (.slice a4 (sortU cmpV c.set).length c4)
      have hb5 := setCell_blockC w4 bx 6 (.slice a4 (sortU cmpV c.set).length c4) _ _ _ HBA4.out
      have ho5 := own_keep (own_ext HOA.out HX4.out) hg5 (fun q hq e => by have h1 := HBL.out q hq; have h2 : bx = q := Option.some.inj e; omega)
      have hs5 : ∀ x ∈ us, SetO w.heap.size (w4.setCell ⟨bx, 6, none⟩ (.slice a4 (sortU cmpV c.set).length c4)) x := fun x hm => own_keep ((HSA.out x hm).ext HX4.out) hg5 (fun q hq e => own_ne ((HSA.out x hm).ext HX4.out) HBA4.out (by decide) (hq.trans e.symm))
      have hx5 : SetO w.heap.size (w4.setCell ⟨bx, 6, none⟩ (.slice a4 (sortU cmpV c.set).length c4)) ⟨normC c, .slice a4 (sortU cmpV c.set).length c4⟩ := own_keep (own_low HO4.out (by have := HXA.out.size; omega)) hg5 (fun q hq e => own_ne HO4.out HBA4.out (by decide) (hq.trans e.symm))
      have hxx5 : Ext w (w4.setCell ⟨bx, 6, none⟩ (.slice a4 (sortU cmpV c.set).length c4)) := (HXA.out.trans HX4.out).setCell hbx _
      have HB5 : Hid ((w4.setCell ⟨bx, 6, none⟩ (.slice a4 (sortU cmpV c.set).length c4)).heap[bx]? = some (.cells #[.string (strOf c.name), .int .i64 c.op, .int .i64 c.v.k, .int .i64 c.v.n, .string (strOf c.v.s), .bool c.v.b, .slice a4 (sortU cmpV c.set).length c4] 52 (0, 0))) := hb5
      have HOUT := Lib.hid ho5
      have HSETS := Lib.hid hs5
      have HXSET := Lib.hid hx5
      have HX5 := Lib.hid hxx5
      clear hg5 hb5 ho5 hs5 hx5 hxx5 HBA4 HX4 HO4 HOA HSA HXA HBA z6 z6c q6
      generalize w4.setCell ⟨bx, 6, none⟩ (.slice a4 (sortU cmpV c.set).length c4) = w5 at *
      obtain ⟨x, hxd⟩ : ∃ x : CS, x = ⟨normC c, .slice a4 (sortU cmpV c.set).length c4⟩ := ⟨_, rfl⟩
      have HXD := Lib.hid hxd
      have hxc : x.c = normC c := by rw [hxd]
      rw [← hxd] at HXSET
      rw [← hxc] at HST
      have HXC := Lib.hid hxc
      clear hxd hxc
      obtain ⟨ao, co, hvo, hco, hmo⟩ := own_shape HOUT.out
      obtain ⟨m, hm'⟩ : ∃ m, m = us.length := ⟨_, rfl⟩
      have HM := Lib.hid hm'
      rw [hvo, ← hm'] at HOUT
      rw [hvo]
      rw [← hm'] at hmlen hco ⊢
      have hm6 : m ≤ 6 := by omega
      clear hvo hm'
      unfold maxLen at hmo
      have b0 := cell_of_row _ _ 0 _ _ _ HB5.out
      have b1 := cell_of_row _ _ 1 _ _ _ HB5.out
      have b2 := cell_of_row _ _ 2 _ _ _ HB5.out
      have b3 := cell_of_row _ _ 3 _ _ _ HB5.out
      have b4 := cell_of_row _ _ 4 _ _ _ HB5.out
      have b5 := cell_of_row _ _ 5 _ _ _ HB5.out
      have b6 := cell_of_row _ _ 6 _ _ _ HB5.out
      have hord : ∀ (W : World) (y : CS), Ext w5 W → y ∈ us → ∀ ya yc, y.h = .slice ya y.c.set.length yc → Calls Tryz.prog 63 #[.agg #[.string (strOf y.c.name), .int .i64 y.c.op, .int .i64 y.c.v.k, .int .i64 y.c.v.n, .string (strOf y.c.v.s), .bool y.c.v.b, .slice ya y.c.set.length yc], .agg #[.string (strOf c.name), .int .i64 c.op, .int .i64 c.v.k, .int .i64 c.v.n, .string (strOf c.v.s), .bool c.v.b, .slice a4 (sortU cmpV c.set).length c4]] W fun e w' => e = .returned (.int .i64 (orderC y.c x.c)) ∧ Ext W w' := fun W y hW hy ya yc hyh => by
        have h1 := ((HSETS.out y hy).ext hW).set
        rw [hyh] at h1
        have h2 := (HXSET.out.ext hW).set
        rw [HXD.out] at h2
        rw [HXC.out]
        exact rorder_any W y.c (normC c) ya yc a4 c4 h1 h2
      have HORD := Lib.hid hord
      clear hord
      go_cut [7] from 26 to 40 (fun v7 wx => ∃ j : Nat, v7 = .int .i64 j ∧ j ≤ m ∧ Hid (∀ q (hq : q < us.length), q < j → orderC us[q].c x.c < 0) ∧ Hid (∀ hq : j < us.length, ¬ orderC us[j].c x.c < 0) ∧ Hid (Ext w5 wx))
      case first =>
        go_wp2_with fail
        go_loopw [7] (fun i wq => ∃ j : Nat, j ≤ m ∧ i = .int .i64 j ∧ Hid (∀ q (hq : q < us.length), q < j → orderC us[q].c x.c < 0) ∧ Hid (Ext w5 wq)) (fun i _ => m - (intOf i).toNat)
        case atStart => exact ⟨0, Nat.zero_le _, rfl, fun q _ h => absurd h (Nat.not_lt_zero _), Ext.refl _⟩
        case round =>
          obtain ⟨j, hj, rfl, hlow, hxq⟩ := hrel
          by_cases hjm : j < m
          · have hJ : decide ((j : Int) < (m : Int)) = true := decide_eq_true (by omega)
            have hjM : (j : Int) < (m : Int) := by omega
            have hjl : j < us.length := by have := HM.out; omega
            have hro : Row wr 7 (.slice ao m co) m (us.flatMap csC) := Row.ext (Row.of_own HOUT.out) hxq.out
            obtain ⟨B1, o1, rfl, gg⟩ := cs_atP hro hjl (by omega)
            have hup : orderC us[j].c x.c < 0 → ∀ q (hq : q < us.length), q < j + 1 → orderC us[q].c x.c < 0 := fun e q hq h => by
              by_cases hqj : q = j
              · subst hqj; exact e
              · exact hlow.out q hq (by omega)
            have HUP := Lib.hid hup
            have hym : us[j] ∈ us := List.getElem_mem hjl
            obtain ⟨y, hy⟩ : ∃ y, y = us[j] := ⟨_, rfl⟩
            have HY := Lib.hid hy
            rw [← hy] at gg HUP hym
            obtain ⟨ya, yc, hyh, _, _⟩ := Row.shape (HSETS.out y hym).set
            have HC := Lib.hid (fun (W : World) (hW : Ext w5 W) => HORD.out W y hW hym ya yc hyh)
            have g0 := gg 0 _ rfl (by decide)
            have g1 := gg 1 _ rfl (by decide)
            have g2 := gg 2 _ rfl (by decide)
            have g3 := gg 3 _ rfl (by decide)
            have g4 := gg 4 _ rfl (by decide)
            have g5 := gg 5 _ rfl (by decide)
            have g6 := gg 6 _ rfl (by decide)
            rw [hyh] at g6
            rw [Nat.add_zero] at g0
            clear hro hup hy gg hym hyh
            generalize hr : orderC y.c x.c = r at *
            have HRR := Lib.hid hr
            clear hr
            by_cases hneg : r < 0
            · have hd : decide (r < 0) = true := decide_eq_true hneg
              go_upto_region 10 with fail
              refine wp_region_facts [Fact.eq (.int .i64 j),
                  Fact.eq (.slice (some ⟨B1, o1, none⟩) m co),
                  Fact.eq (.int .i64 m),
                  Fact.eq (.bool true),
                  Fact.eq (.bool true),
                  Fact.eq (.slice (some ⟨B1, o1, none⟩) m co),
                  Fact.eq (.int .i64 j),
                  Fact.eq (.pointer (some ⟨B1, o1 + j * 7, none⟩)),
                  Fact.eq (.agg #[.string (strOf y.c.name), .int .i64 y.c.op, .int .i64 y.c.v.k, .int .i64 y.c.v.n, .string (strOf y.c.v.s), .bool y.c.v.b, .slice ya y.c.set.length yc]),
                  Fact.eq (.agg #[.string (strOf c.name), .int .i64 c.op, .int .i64 c.v.k, .int .i64 c.v.n, .string (strOf c.v.s), .bool c.v.b, .slice a4 (sortU cmpV c.set).length c4]),
                  Fact.eq (.int .i64 r),
                  Fact.eq (.bool true),
                  Fact.eq (.bool true)]
                [[], [], [(1, 27)], [(0, 26), (2, 28)], [(3, 29)], [(4, 30)], [(4, 30)], [(5, 31), (6, 32), (4, 30)], [(7, 33), (4, 30)], [(4, 30)], [(8, 34), (9, 35), (4, 30)], [(10, 36), (4, 30)], [(4, 30), (11, 37)]]
                [(0, 26), (1, 27), (2, 28), (3, 29), (4, 30), (5, 31), (6, 32), (7, 33), (8, 34), (9, 35), (10, 36), (11, 37), (12, 38)] (by kernel_rfl) (by kernel_rfl) ?_ ?_
              · refine ⟨?_, ?_, ?_, ?_, ?_, ?_, ?_, ?_, ?_, ?_, ?_, ?_, ?_, trivial⟩
                · intro w1 hx1; change wpList _ _ _ _ _ _; exact ob_move rfl rfl rfl rfl rfl
                · intro w1 hx1; change wpList _ _ _ _ _ _; exact ob_move rfl rfl rfl rfl rfl
                · intro w1 hx1; rintro _ rfl; change wpList _ _ _ _ _ _; go_wp2_with fail; exact ⟨rfl, Ext.refl _, rfl, rfl⟩
                · intro w1 hx1; rintro _ rfl; rintro _ rfl; change wpList _ _ _ _ _ _; go_wp2_with fail; exact ⟨rfl, Ext.refl _, rfl, rfl⟩
                · intro w1 hx1; rintro _ rfl; change wpList _ _ _ _ _ _; exact ob_move rfl rfl rfl rfl rfl
                · intro w1 hx1; rintro _ rfl; change wpList _ _ _ _ _ _; exact ob_move rfl rfl rfl rfl rfl
                · intro w1 hx1; rintro _ rfl; change wpList _ _ _ _ _ _; exact ob_move rfl rfl rfl rfl rfl
                · intro w1 hx1; rintro _ rfl; rintro _ rfl; rintro _ rfl; change wpList _ _ _ _ _ _; go_wp2_with fail; exact ⟨rfl, Ext.refl _, rfl, rfl⟩
                · intro w1 hx1; rintro _ rfl; rintro _ rfl; change wpList _ _ _ _ _ _; have m0 := hx1.cell g0; have m1 := hx1.cell g1; have m2 := hx1.cell g2; have m3 := hx1.cell g3; have m4 := hx1.cell g4; have m5 := hx1.cell g5; have m6 := hx1.cell g6; go_wp2_with fail; exact ⟨rfl, Ext.refl _, rfl, rfl⟩
                · intro w1 hx1; rintro _ rfl; change wpList _ _ _ _ _ _; have hxx := hxq.out.trans hx1; have m0 := hxx.cell b0; have m1 := hxx.cell b1; have m2 := hxx.cell b2; have m3 := hxx.cell b3; have m4 := hxx.cell b4; have m5 := hxx.cell b5; have m6 := hxx.cell b6; go_wp2_with fail; exact ⟨rfl, Ext.refl _, rfl, rfl⟩
                · intro w1 hx1; rintro _ rfl; rintro _ rfl; rintro _ rfl; change wpList _ _ _ _ _ _; go_wp2_with fail; (with_reducible refine (HC.out _ (hxq.out.trans hx1)).mono ?_); rintro e w7 ⟨rfl, hx2⟩; go_wp2_with fail; exact ⟨rfl, hx2, rfl, rfl⟩
                · intro w1 hx1; rintro _ rfl; rintro _ rfl; change wpList _ _ _ _ _ _; go_wp2_with fail; exact ⟨rfl, Ext.refl _, rfl, rfl⟩
                · intro w1 hx1; rintro _ rfl; rintro _ rfl; change wpList _ _ _ _ _ _; exact ob_pick rfl rfl rfl rfl rfl rfl
              · intro w1 hx1; rintro _ rfl; rintro _ rfl; rintro _ rfl; rintro _ rfl; rintro _ rfl; rintro _ rfl; rintro _ rfl; rintro _ rfl; rintro _ rfl; rintro _ rfl; rintro _ rfl; rintro _ rfl; rintro _ rfl; refine depsThen_nil ?_; dsimp only; simp only [Act.put, List.setIfInBounds_toArray, List.set_cons_zero, List.set_cons_succ]
                have HXQ := Lib.hid (hxq.out.trans hx1)
                clear g0 g1 g2 g3 g4 g5 g6 hx1 hxq
                go_wp2_with fail
                go_roundw
                case rel => exact ⟨j + 1, hjm, by go_num, HUP.out hneg, HXQ.out⟩
                case measure => simp [intOf]; omega
            · have hd : decide (r < 0) = false := decide_eq_false hneg
              go_upto_region 10 with fail
              refine wp_region_facts [Fact.eq (.int .i64 j),
                  Fact.eq (.slice (some ⟨B1, o1, none⟩) m co),
                  Fact.eq (.int .i64 m),
                  Fact.eq (.bool true),
                  Fact.eq (.bool true),
                  Fact.eq (.slice (some ⟨B1, o1, none⟩) m co),
                  Fact.eq (.int .i64 j),
                  Fact.eq (.pointer (some ⟨B1, o1 + j * 7, none⟩)),
                  Fact.eq (.agg #[.string (strOf y.c.name), .int .i64 y.c.op, .int .i64 y.c.v.k, .int .i64 y.c.v.n, .string (strOf y.c.v.s), .bool y.c.v.b, .slice ya y.c.set.length yc]),
                  Fact.eq (.agg #[.string (strOf c.name), .int .i64 c.op, .int .i64 c.v.k, .int .i64 c.v.n, .string (strOf c.v.s), .bool c.v.b, .slice a4 (sortU cmpV c.set).length c4]),
                  Fact.eq (.int .i64 r),
                  Fact.eq (.bool false),
                  Fact.eq (.bool false)]
                [[], [], [(1, 27)], [(0, 26), (2, 28)], [(3, 29)], [(4, 30)], [(4, 30)], [(5, 31), (6, 32), (4, 30)], [(7, 33), (4, 30)], [(4, 30)], [(8, 34), (9, 35), (4, 30)], [(10, 36), (4, 30)], [(4, 30), (11, 37)]]
                [(0, 26), (1, 27), (2, 28), (3, 29), (4, 30), (5, 31), (6, 32), (7, 33), (8, 34), (9, 35), (10, 36), (11, 37), (12, 38)] (by kernel_rfl) (by kernel_rfl) ?_ ?_
              · refine ⟨?_, ?_, ?_, ?_, ?_, ?_, ?_, ?_, ?_, ?_, ?_, ?_, ?_, trivial⟩
                · intro w1 hx1; change wpList _ _ _ _ _ _; exact ob_move rfl rfl rfl rfl rfl
                · intro w1 hx1; change wpList _ _ _ _ _ _; exact ob_move rfl rfl rfl rfl rfl
                · intro w1 hx1; rintro _ rfl; change wpList _ _ _ _ _ _; go_wp2_with fail; exact ⟨rfl, Ext.refl _, rfl, rfl⟩
                · intro w1 hx1; rintro _ rfl; rintro _ rfl; change wpList _ _ _ _ _ _; go_wp2_with fail; exact ⟨rfl, Ext.refl _, rfl, rfl⟩
                · intro w1 hx1; rintro _ rfl; change wpList _ _ _ _ _ _; exact ob_move rfl rfl rfl rfl rfl
                · intro w1 hx1; rintro _ rfl; change wpList _ _ _ _ _ _; exact ob_move rfl rfl rfl rfl rfl
                · intro w1 hx1; rintro _ rfl; change wpList _ _ _ _ _ _; exact ob_move rfl rfl rfl rfl rfl
                · intro w1 hx1; rintro _ rfl; rintro _ rfl; rintro _ rfl; change wpList _ _ _ _ _ _; go_wp2_with fail; exact ⟨rfl, Ext.refl _, rfl, rfl⟩
                · intro w1 hx1; rintro _ rfl; rintro _ rfl; change wpList _ _ _ _ _ _; have m0 := hx1.cell g0; have m1 := hx1.cell g1; have m2 := hx1.cell g2; have m3 := hx1.cell g3; have m4 := hx1.cell g4; have m5 := hx1.cell g5; have m6 := hx1.cell g6; go_wp2_with fail; exact ⟨rfl, Ext.refl _, rfl, rfl⟩
                · intro w1 hx1; rintro _ rfl; change wpList _ _ _ _ _ _; have hxx := hxq.out.trans hx1; have m0 := hxx.cell b0; have m1 := hxx.cell b1; have m2 := hxx.cell b2; have m3 := hxx.cell b3; have m4 := hxx.cell b4; have m5 := hxx.cell b5; have m6 := hxx.cell b6; go_wp2_with fail; exact ⟨rfl, Ext.refl _, rfl, rfl⟩
                · intro w1 hx1; rintro _ rfl; rintro _ rfl; rintro _ rfl; change wpList _ _ _ _ _ _; go_wp2_with fail; (with_reducible refine (HC.out _ (hxq.out.trans hx1)).mono ?_); rintro e w7 ⟨rfl, hx2⟩; go_wp2_with fail; exact ⟨rfl, hx2, rfl, rfl⟩
                · intro w1 hx1; rintro _ rfl; rintro _ rfl; change wpList _ _ _ _ _ _; go_wp2_with fail; exact ⟨rfl, Ext.refl _, rfl, rfl⟩
                · intro w1 hx1; rintro _ rfl; rintro _ rfl; change wpList _ _ _ _ _ _; exact ob_pick rfl rfl rfl rfl rfl rfl
              · intro w1 hx1; rintro _ rfl; rintro _ rfl; rintro _ rfl; rintro _ rfl; rintro _ rfl; rintro _ rfl; rintro _ rfl; rintro _ rfl; rintro _ rfl; rintro _ rfl; rintro _ rfl; rintro _ rfl; rintro _ rfl; refine depsThen_nil ?_; dsimp only; simp only [Act.put, List.setIfInBounds_toArray, List.set_cons_zero, List.set_cons_succ]
                have HXQ := Lib.hid (hxq.out.trans hx1)
                clear g0 g1 g2 g3 g4 g5 g6 hx1 hxq
                go_wp2_with fail
                go_meet
                case rel => exact ⟨j, rfl, hj, hlow.out, fun hq => by have h1 := HRR.out; rw [HY.out] at h1; rw [h1]; exact hneg, HXQ.out⟩
          · obtain rfl : j = m := by omega
            have hJ : decide ((j : Int) < (j : Int)) = false := decide_eq_false (by omega)
            go_upto_region 10 with fail
            refine wp_region_facts [Fact.eq (.int .i64 j),
                Fact.eq (.slice ao j co),
                Fact.eq (.int .i64 j),
                Fact.eq (.bool false),
                Fact.eq (.bool false),
                Fact.eq undef,
                Fact.eq undef,
                Fact.eq undef,
                Fact.eq undef,
                Fact.eq undef,
                Fact.eq undef,
                Fact.eq undef,
                Fact.eq (.bool false)]
              [[], [], [(1, 27)], [(0, 26), (2, 28)], [(3, 29)], [(4, 30)], [(4, 30)], [(5, 31), (6, 32), (4, 30)], [(7, 33), (4, 30)], [(4, 30)], [(8, 34), (9, 35), (4, 30)], [(10, 36), (4, 30)], [(4, 30), (11, 37)]]
              [(0, 26), (1, 27), (2, 28), (3, 29), (4, 30), (5, 31), (6, 32), (7, 33), (8, 34), (9, 35), (10, 36), (11, 37), (12, 38)] (by kernel_rfl) (by kernel_rfl) ?_ ?_
            · refine ⟨?_, ?_, ?_, ?_, ?_, ?_, ?_, ?_, ?_, ?_, ?_, ?_, ?_, trivial⟩
              · intro w1 hx1; change wpList _ _ _ _ _ _; exact ob_move rfl rfl rfl rfl rfl
              · intro w1 hx1; change wpList _ _ _ _ _ _; exact ob_move rfl rfl rfl rfl rfl
              · intro w1 hx1; rintro _ rfl; change wpList _ _ _ _ _ _; go_wp2_with fail; exact ⟨rfl, Ext.refl _, rfl, rfl⟩
              · intro w1 hx1; rintro _ rfl; rintro _ rfl; change wpList _ _ _ _ _ _; go_wp2_with fail; exact ⟨rfl, Ext.refl _, rfl, rfl⟩
              · intro w1 hx1; rintro _ rfl; change wpList _ _ _ _ _ _; exact ob_move rfl rfl rfl rfl rfl
              · intro w1 hx1; rintro _ rfl; change wpList _ _ _ _ _ _; exact ob_skip rfl rfl rfl rfl
              · intro w1 hx1; rintro _ rfl; change wpList _ _ _ _ _ _; exact ob_skip rfl rfl rfl rfl
              · intro w1 hx1; rintro _ rfl; rintro _ rfl; rintro _ rfl; change wpList _ _ _ _ _ _; exact ob_skip rfl rfl rfl rfl
              · intro w1 hx1; rintro _ rfl; rintro _ rfl; change wpList _ _ _ _ _ _; exact ob_skip rfl rfl rfl rfl
              · intro w1 hx1; rintro _ rfl; change wpList _ _ _ _ _ _; exact ob_skip rfl rfl rfl rfl
              · intro w1 hx1; rintro _ rfl; rintro _ rfl; rintro _ rfl; change wpList _ _ _ _ _ _; exact ob_skip rfl rfl rfl rfl
              · intro w1 hx1; rintro _ rfl; rintro _ rfl; change wpList _ _ _ _ _ _; exact ob_skip rfl rfl rfl rfl
              · intro w1 hx1; rintro _ rfl; rintro _ rfl; change wpList _ _ _ _ _ _; exact ob_pick rfl rfl rfl rfl rfl rfl
            · intro w1 hx1; rintro _ rfl; rintro _ rfl; rintro _ rfl; rintro _ rfl; rintro _ rfl; rintro _ rfl; rintro _ rfl; rintro _ rfl; rintro _ rfl; rintro _ rfl; rintro _ rfl; rintro _ rfl; rintro _ rfl; refine depsThen_nil ?_; dsimp only; simp only [Act.put, List.setIfInBounds_toArray, List.set_cons_zero, List.set_cons_succ]
              have HXQ := Lib.hid (hxq.out.trans hx1)
              go_wp2_with fail
              go_meet
              case rel => exact ⟨j, rfl, Nat.le_refl _, hlow.out, fun hq => absurd hq (by rw [← HM.out]; exact Nat.lt_irrefl _), HXQ.out⟩
      case rest =>
        obtain ⟨j, rfl, hj, hlow, hhi, hxc⟩ := hcut
        have hlowm : ∀ q (hq : q < (us.map CS.c).length), q < j → orderC (us.map CS.c)[q] x.c < 0 := fun q hq h => by rw [List.getElem_map]; exact hlow.out q (by rwa [List.length_map] at hq) h
        have HLOWM := Lib.hid hlowm
        have hhere : (∀ h : j < us.length, 0 < orderC us[j].c x.c) → (us.take j ++ x :: us.drop j).map CS.c = sortU orderC ((p.take (k + 1)).map normC) := fun h => by
          rw [HST.out, insU_here orderC x.c (l := us.map CS.c) (k := j) (by rw [List.length_map, ← HM.out]; exact hj) hlowm (fun hq => by rw [List.getElem_map]; exact h (by rwa [List.length_map] at hq))]
          rw [List.map_append, List.map_cons, List.map_take, List.map_drop]
        have HHERE0 := Lib.hid hhere
        clear hlowm hhere
        by_cases hjm : j < m
        · have hJ : decide ((j : Int) < (m : Int)) = true := decide_eq_true (by omega)
          have hjM : (j : Int) < (m : Int) := by omega
          have hjl : j < us.length := by have := HM.out; omega
          have hro : Row wc 7 (.slice ao m co) m (us.flatMap csC) := Row.ext (Row.of_own HOUT.out) hxc.out
          obtain ⟨B1, o1, rfl, gg⟩ := cs_atP hro hjl (by omega)
          have hym : us[j] ∈ us := List.getElem_mem hjl
          have hnl := hhi.out hjl
          have hstop : orderC us[j].c x.c = 0 → us.map CS.c = sortU orderC ((p.take (k + 1)).map normC) := fun e => by
            rw [HST.out, insU_stop orderC x.c (l := us.map CS.c) (k := j) (by rw [List.length_map]; exact hjl) HLOWM.out (by rw [List.getElem_map]; exact e)]
          have hgo : orderC us[j].c x.c ≠ 0 → (us.take j ++ x :: us.drop j).map CS.c = sortU orderC ((p.take (k + 1)).map normC) := fun e => HHERE0.out fun _ => by omega
          have HSTOP := Lib.hid hstop
          have HGO := Lib.hid hgo
          clear hstop hgo
          obtain ⟨y, hy⟩ : ∃ y, y = us[j] := ⟨_, rfl⟩
          rw [← hy] at gg hym hnl HSTOP HGO
          obtain ⟨ya, yc, hyh, _, _⟩ := Row.shape (HSETS.out y hym).set
          have HC := Lib.hid (fun (W : World) (hW : Ext w5 W) => HORD.out W y hW hym ya yc hyh)
          have g0 := gg 0 _ rfl (by decide)
          have g1 := gg 1 _ rfl (by decide)
          have g2 := gg 2 _ rfl (by decide)
          have g3 := gg 3 _ rfl (by decide)
          have g4 := gg 4 _ rfl (by decide)
          have g5 := gg 5 _ rfl (by decide)
          have g6 := gg 6 _ rfl (by decide)
          rw [hyh] at g6
          rw [Nat.add_zero] at g0
          clear hro hy gg hym hyh
          generalize orderC y.c x.c = r at *
          by_cases hz : r = 0
          · have hd : (r == 0) = true := beq_iff_eq.2 hz
            have HEQ := Lib.hid (HSTOP.out hz)
            clear hz hnl
            go_upto_region 12 with fail
            refine wp_region_facts [Fact.eq (.int .i64 j),
                Fact.eq (.slice (some ⟨B1, o1, none⟩) m co),
                Fact.eq (.int .i64 m),
                Fact.eq (.bool true),
                Fact.eq (.bool true),
                Fact.eq (.slice (some ⟨B1, o1, none⟩) m co),
                Fact.eq (.int .i64 j),
                Fact.eq (.pointer (some ⟨B1, o1 + j * 7, none⟩)),
                Fact.eq (.agg #[.string (strOf y.c.name), .int .i64 y.c.op, .int .i64 y.c.v.k, .int .i64 y.c.v.n, .string (strOf y.c.v.s), .bool y.c.v.b, .slice ya y.c.set.length yc]),
                Fact.eq (.agg #[.string (strOf c.name), .int .i64 c.op, .int .i64 c.v.k, .int .i64 c.v.n, .string (strOf c.v.s), .bool c.v.b, .slice a4 (sortU cmpV c.set).length c4]),
                Fact.eq (.int .i64 r),
                Fact.eq (.bool true),
                Fact.eq (.bool true)]
              [[], [], [(1, 42)], [(0, 41), (2, 43)], [(3, 44)], [(4, 45)], [(4, 45)], [(5, 46), (6, 47), (4, 45)], [(7, 48), (4, 45)], [(4, 45)], [(8, 49), (9, 50), (4, 45)], [(10, 51), (4, 45)], [(4, 45), (11, 52)]]
              [(0, 41), (1, 42), (2, 43), (3, 44), (4, 45), (5, 46), (6, 47), (7, 48), (8, 49), (9, 50), (10, 51), (11, 52), (12, 53)] (by kernel_rfl) (by kernel_rfl) ?_ ?_
            · refine ⟨?_, ?_, ?_, ?_, ?_, ?_, ?_, ?_, ?_, ?_, ?_, ?_, ?_, trivial⟩
              · intro w1 hx1; change wpList _ _ _ _ _ _; exact ob_move rfl rfl rfl rfl rfl
              · intro w1 hx1; change wpList _ _ _ _ _ _; exact ob_move rfl rfl rfl rfl rfl
              · intro w1 hx1; rintro _ rfl; change wpList _ _ _ _ _ _; go_wp2_with fail; exact ⟨rfl, Ext.refl _, rfl, rfl⟩
              · intro w1 hx1; rintro _ rfl; rintro _ rfl; change wpList _ _ _ _ _ _; go_wp2_with fail; exact ⟨rfl, Ext.refl _, rfl, rfl⟩
              · intro w1 hx1; rintro _ rfl; change wpList _ _ _ _ _ _; exact ob_move rfl rfl rfl rfl rfl
              · intro w1 hx1; rintro _ rfl; change wpList _ _ _ _ _ _; exact ob_move rfl rfl rfl rfl rfl
              · intro w1 hx1; rintro _ rfl; change wpList _ _ _ _ _ _; exact ob_move rfl rfl rfl rfl rfl
              · intro w1 hx1; rintro _ rfl; rintro _ rfl; rintro _ rfl; change wpList _ _ _ _ _ _; go_wp2_with fail; exact ⟨rfl, Ext.refl _, rfl, rfl⟩
              · intro w1 hx1; rintro _ rfl; rintro _ rfl; change wpList _ _ _ _ _ _; have m0 := hx1.cell g0; have m1 := hx1.cell g1; have m2 := hx1.cell g2; have m3 := hx1.cell g3; have m4 := hx1.cell g4; have m5 := hx1.cell g5; have m6 := hx1.cell g6; go_wp2_with fail; exact ⟨rfl, Ext.refl _, rfl, rfl⟩
              · intro w1 hx1; rintro _ rfl; change wpList _ _ _ _ _ _; have hxx := hxc.out.trans hx1; have m0 := hxx.cell b0; have m1 := hxx.cell b1; have m2 := hxx.cell b2; have m3 := hxx.cell b3; have m4 := hxx.cell b4; have m5 := hxx.cell b5; have m6 := hxx.cell b6; go_wp2_with fail; exact ⟨rfl, Ext.refl _, rfl, rfl⟩
              · intro w1 hx1; rintro _ rfl; rintro _ rfl; rintro _ rfl; change wpList _ _ _ _ _ _; go_wp2_with fail; (with_reducible refine (HC.out _ (hxc.out.trans hx1)).mono ?_); rintro e w7 ⟨rfl, hx2⟩; go_wp2_with fail; exact ⟨rfl, hx2, rfl, rfl⟩
              · intro w1 hx1; rintro _ rfl; rintro _ rfl; change wpList _ _ _ _ _ _; go_wp2_with fail; exact ⟨rfl, Ext.refl _, rfl, rfl⟩
              · intro w1 hx1; rintro _ rfl; rintro _ rfl; change wpList _ _ _ _ _ _; exact ob_pick rfl rfl rfl rfl rfl rfl
            · intro w1 hx1; rintro _ rfl; rintro _ rfl; rintro _ rfl; rintro _ rfl; rintro _ rfl; rintro _ rfl; rintro _ rfl; rintro _ rfl; rintro _ rfl; rintro _ rfl; rintro _ rfl; rintro _ rfl; rintro _ rfl; refine depsThen_nil ?_; dsimp only; simp only [Act.put, List.setIfInBounds_toArray, List.set_cons_zero, List.set_cons_succ]
              have HXQ := Lib.hid (HX5.out.trans (hxc.out.trans hx1))
              have HOW := Lib.hid (own_ext HOUT.out (hxc.out.trans hx1))
              have HSE : Hid (∀ z ∈ us, SetO w.heap.size w1 z) := fun z hm => (HSETS.out z hm).ext (hxc.out.trans hx1)
              clear g0 g1 g2 g3 g4 g5 g6 hx1 hxc
              go_wp2_with fail
              go_roundw
              case rel => exact ⟨k + 1, us, hlt, by go_num, HEQ.out, by rw [← HM.out]; exact HOW.out, HSE.out, HXQ.out⟩
              case measure => simp [intOf]; omega
          · have hd : (r == 0) = false := beq_eq_false_iff_ne.2 hz
            have HEQ := Lib.hid (HGO.out hz)
            clear hz hnl
            go_upto_region 12 with fail
            refine wp_region_facts [Fact.eq (.int .i64 j),
                Fact.eq (.slice (some ⟨B1, o1, none⟩) m co),
                Fact.eq (.int .i64 m),
                Fact.eq (.bool true),
                Fact.eq (.bool true),
                Fact.eq (.slice (some ⟨B1, o1, none⟩) m co),
                Fact.eq (.int .i64 j),
                Fact.eq (.pointer (some ⟨B1, o1 + j * 7, none⟩)),
                Fact.eq (.agg #[.string (strOf y.c.name), .int .i64 y.c.op, .int .i64 y.c.v.k, .int .i64 y.c.v.n, .string (strOf y.c.v.s), .bool y.c.v.b, .slice ya y.c.set.length yc]),
                Fact.eq (.agg #[.string (strOf c.name), .int .i64 c.op, .int .i64 c.v.k, .int .i64 c.v.n, .string (strOf c.v.s), .bool c.v.b, .slice a4 (sortU cmpV c.set).length c4]),
                Fact.eq (.int .i64 r),
                Fact.eq (.bool false),
                Fact.eq (.bool false)]
              [[], [], [(1, 42)], [(0, 41), (2, 43)], [(3, 44)], [(4, 45)], [(4, 45)], [(5, 46), (6, 47), (4, 45)], [(7, 48), (4, 45)], [(4, 45)], [(8, 49), (9, 50), (4, 45)], [(10, 51), (4, 45)], [(4, 45), (11, 52)]]
              [(0, 41), (1, 42), (2, 43), (3, 44), (4, 45), (5, 46), (6, 47), (7, 48), (8, 49), (9, 50), (10, 51), (11, 52), (12, 53)] (by kernel_rfl) (by kernel_rfl) ?_ ?_
            · refine ⟨?_, ?_, ?_, ?_, ?_, ?_, ?_, ?_, ?_, ?_, ?_, ?_, ?_, trivial⟩
              · intro w1 hx1; change wpList _ _ _ _ _ _; exact ob_move rfl rfl rfl rfl rfl
              · intro w1 hx1; change wpList _ _ _ _ _ _; exact ob_move rfl rfl rfl rfl rfl
              · intro w1 hx1; rintro _ rfl; change wpList _ _ _ _ _ _; go_wp2_with fail; exact ⟨rfl, Ext.refl _, rfl, rfl⟩
              · intro w1 hx1; rintro _ rfl; rintro _ rfl; change wpList _ _ _ _ _ _; go_wp2_with fail; exact ⟨rfl, Ext.refl _, rfl, rfl⟩
              · intro w1 hx1; rintro _ rfl; change wpList _ _ _ _ _ _; exact ob_move rfl rfl rfl rfl rfl
              · intro w1 hx1; rintro _ rfl; change wpList _ _ _ _ _ _; exact ob_move rfl rfl rfl rfl rfl
              · intro w1 hx1; rintro _ rfl; change wpList _ _ _ _ _ _; exact ob_move rfl rfl rfl rfl rfl
              · intro w1 hx1; rintro _ rfl; rintro _ rfl; rintro _ rfl; change wpList _ _ _ _ _ _; go_wp2_with fail; exact ⟨rfl, Ext.refl _, rfl, rfl⟩
              · intro w1 hx1; rintro _ rfl; rintro _ rfl; change wpList _ _ _ _ _ _; have m0 := hx1.cell g0; have m1 := hx1.cell g1; have m2 := hx1.cell g2; have m3 := hx1.cell g3; have m4 := hx1.cell g4; have m5 := hx1.cell g5; have m6 := hx1.cell g6; go_wp2_with fail; exact ⟨rfl, Ext.refl _, rfl, rfl⟩
              · intro w1 hx1; rintro _ rfl; change wpList _ _ _ _ _ _; have hxx := hxc.out.trans hx1; have m0 := hxx.cell b0; have m1 := hxx.cell b1; have m2 := hxx.cell b2; have m3 := hxx.cell b3; have m4 := hxx.cell b4; have m5 := hxx.cell b5; have m6 := hxx.cell b6; go_wp2_with fail; exact ⟨rfl, Ext.refl _, rfl, rfl⟩
              · intro w1 hx1; rintro _ rfl; rintro _ rfl; rintro _ rfl; change wpList _ _ _ _ _ _; go_wp2_with fail; (with_reducible refine (HC.out _ (hxc.out.trans hx1)).mono ?_); rintro e w7 ⟨rfl, hx2⟩; go_wp2_with fail; exact ⟨rfl, hx2, rfl, rfl⟩
              · intro w1 hx1; rintro _ rfl; rintro _ rfl; change wpList _ _ _ _ _ _; go_wp2_with fail; exact ⟨rfl, Ext.refl _, rfl, rfl⟩
              · intro w1 hx1; rintro _ rfl; rintro _ rfl; change wpList _ _ _ _ _ _; exact ob_pick rfl rfl rfl rfl rfl rfl
            · intro w1 hx1; rintro _ rfl; rintro _ rfl; rintro _ rfl; rintro _ rfl; rintro _ rfl; rintro _ rfl; rintro _ rfl; rintro _ rfl; rintro _ rfl; rintro _ rfl; rintro _ rfl; rintro _ rfl; rintro _ rfl; refine depsThen_nil ?_; dsimp only; simp only [Act.put, List.setIfInBounds_toArray, List.set_cons_zero, List.set_cons_succ]
              clear g0 g1 g2 g3 g4 g5 g6
              have HXQ := Lib.hid (HX5.out.trans (hxc.out.trans hx1))
              have HOW := Lib.hid (own_ext HOUT.out (hxc.out.trans hx1))
              have HW58 := Lib.hid (hxc.out.trans hx1)
              have s0 := HW58.out.cell b0
              have s1 := HW58.out.cell b1
              have s2 := HW58.out.cell b2
              have s3 := HW58.out.cell b3
              have s4 := HW58.out.cell b4
              have s5 := HW58.out.cell b5
              have s6 := HW58.out.cell b6
              clear hx1 hxc
              go_upto_region 14 with fail
              obtain ⟨w8, hw8⟩ : ∃ z : World, z = w1 := ⟨_, rfl⟩
              subst hw8
              have hbase : w.heap.size ≤ w8.heap.size := HXQ.out.size
              have hone : ∀ u ∈ (us.take j).flatMap csC, u.oneCell' = true := csC_one _ fun z hz => (HSETS.out z (List.mem_of_mem_take hz)).one
              have HONE := Lib.hid hone
              have hone2 : ∀ u ∈ ((us.take m).drop j).flatMap csC, u.oneCell' = true := csC_one _ fun z hz => (HSETS.out z (List.mem_of_mem_take (List.mem_of_mem_drop hz))).one
              have HONE2 := Lib.hid hone2
              clear hone hone2
              go_upto_region 15 with (first
                | (refine cCut (.tmp 55) none (some (.tmp 56)) us m 0 j rfl rfl (Row.of_own HOW.out) rfl ⟨_, _, rfl, by omega, by omega⟩ (Nat.zero_le _) (by omega) ?_; intro v57 h57; rw [List.drop_zero, Nat.sub_zero] at h57; obtain ⟨a57, c57, rfl, _, _⟩ := Row.shape h57; have H57 := Lib.hid h57; clear h57)
                | (at_builtin; refine wpList_append_row 28 52 (.tmp 54) (.tmp 57) rfl w8.heap.size _ 7 88 Tryz.underlying28 info31t rfl (by decide) rfl (.slice none 0 0) 0 [] rfl (own_none _ _ _ _) j ((us.take j).flatMap csC) H57.out HONE.out (by omega) (by unfold maxLen; omega) (Nat.le_refl _) ?_; intro v58 w9 hown9 hg9; have HO9 := Lib.hid hown9; have HX9 := Lib.hid ((Ext.refl w8).grown_none (v := .slice none 0 0) hg9 (fun q hq => by cases hq)); clear hown9 hg9))
              have hown9 : w9.ownsRow w8.heap.size 52 7 v58 j ((us.take j).flatMap csC) := by have h := HO9.out; rw [Nat.zero_add, List.nil_append] at h; exact h
              obtain ⟨a58, c58, rfl, _, _⟩ := own_shape hown9
              have t0 := HX9.out.cell s0
              have t1 := HX9.out.cell s1
              have t2 := HX9.out.cell s2
              have t3 := HX9.out.cell s3
              have t4 := HX9.out.cell s4
              have t5 := HX9.out.cell s5
              have t6 := HX9.out.cell s6
              have hcx : csC x = [.string (strOf c.name), .int .i64 c.op, .int .i64 c.v.k, .int .i64 c.v.n, .string (strOf c.v.s), .bool c.v.b, .slice a4 (sortU cmpV c.set).length c4] := by rw [HXD.out]; rfl
              have hxb : Ext w9 (w9.alloc (.cells #[.string (strOf c.name), .int .i64 c.op, .int .i64 c.v.k, .int .i64 c.v.n, .string (strOf c.v.s), .bool c.v.b, .slice a4 (sortU cmpV c.set).length c4] 52)) := (Ext.refl w9).alloc _
              have hrow : Row (w9.alloc (.cells #[.string (strOf c.name), .int .i64 c.op, .int .i64 c.v.k, .int .i64 c.v.n, .string (strOf c.v.s), .bool c.v.b, .slice a4 (sortU cmpV c.set).length c4] 52)) 7 (.slice (some ⟨w9.heap.size, 0, none⟩) 1 1) 1 (csC x) := by have h := c_row w9 x; rw [hcx] at h ⊢; exact h
              have HROW := Lib.hid hrow
              have hone3 : ∀ u ∈ csC x, u.oneCell' = true := fun u hu => csC_one [x] (fun z hz => by rw [List.mem_singleton.1 hz]; exact HXSET.out.one) u (by rw [List.flatMap_singleton]; exact hu)
              have HONE3 := Lib.hid hone3
              have HO10 := Lib.hid (own_ext hown9 hxb)
              have HOWb := Lib.hid (own_ext HOW.out (HX9.out.trans hxb))
              have HX10 := Lib.hid (HX9.out.trans hxb)
              have hb10 : w8.heap.size ≤ (w9.alloc (.cells #[.string (strOf c.name), .int .i64 c.op, .int .i64 c.v.k, .int .i64 c.v.n, .string (strOf c.v.s), .bool c.v.b, .slice a4 (sortU cmpV c.set).length c4] 52)).heap.size := HX10.out.size
              clear hown9 HO9 HX9 hxb H57 s0 s1 s2 s3 s4 s5 s6 hcx hrow hone3
              go_upto_region 16 with (at_builtin; refine wpList_append_row 28 52 (.tmp 59) (.tmp 61) rfl w8.heap.size _ 7 88 Tryz.underlying28 info31t rfl (by decide) rfl _ j ((us.take j).flatMap csC) rfl HO10.out 1 (csC x) HROW.out HONE3.out (by omega) (by unfold maxLen; omega) hb10 ?_; intro v62 w11 hown11 hg11; have HO11 := Lib.hid hown11; have HG11 := Lib.hid hg11; clear hown11 hg11)
              obtain ⟨a62, c62, rfl, _, _⟩ := own_shape HO11.out
              have hkeep1 : ∀ q, (Value.slice (some ⟨B1, o1, none⟩) m co).ownBlock = some q → (Value.slice a58 j c58).ownBlock ≠ some q := fun q hq => own_later HO10.out (Nat.le_refl _) (own_lt HOW.out q hq)
              have HOWc := Lib.hid (own_keep HOWb.out HG11.out (fun q hq e => hkeep1 q hq e))
              have HX11 := Lib.hid (HX10.out.grown_none HG11.out (own_base HO10.out))
              have hb11 : w8.heap.size ≤ w11.heap.size := HX11.out.size
              clear HO10 HROW HOWb HX10 HG11 hkeep1 t0 t1 t2 t3 t4 t5 t6
              go_upto_region 6 with (first
                | (refine cCut (.tmp 64) (some (.tmp 65)) none us m j m rfl rfl (Row.of_own HOWc.out) ⟨_, _, rfl, by omega, by omega⟩ rfl (by omega) (Nat.le_refl _) ?_; intro v66 h66; obtain ⟨a66, c66, rfl, _, _⟩ := Row.shape h66; have H66 := Lib.hid h66; clear h66)
                | (at_builtin; refine wpList_append_row 28 52 (.tmp 63) (.tmp 66) rfl w8.heap.size _ 7 88 Tryz.underlying28 info31t rfl (by decide) rfl _ (j + 1) ((us.take j).flatMap csC ++ csC x) rfl HO11.out (m - j) (((us.take m).drop j).flatMap csC) H66.out HONE2.out (by omega) (by unfold maxLen; omega) hb11 ?_; intro v67 w12 hown12 hg12; have HO12 := Lib.hid hown12; have HX12 := Lib.hid (HX11.out.grown_none hg12 (own_base HO11.out)); clear hown12 hg12))
              have hfin : w12.ownsRow w.heap.size 52 7 v67 (us.take j ++ x :: us.drop j).length ((us.take j ++ x :: us.drop j).flatMap csC) := by
                have h := own_low HO12.out hbase
                have e1 : us.take m = us := List.take_of_length_le (by rw [← HM.out]; exact Nat.le_refl _)
                rw [e1] at h
                have e2 : (us.take j ++ x :: us.drop j).length = j + 1 + (m - j) := by rw [List.length_append, List.length_cons, List.length_take, List.length_drop, ← HM.out]; omega
                have e3 : (us.take j ++ x :: us.drop j).flatMap csC = (us.take j).flatMap csC ++ csC x ++ (us.drop j).flatMap csC := by rw [List.flatMap_append, List.flatMap_cons, List.append_assoc]
                rw [e2, e3]; first | exact h | (rw [e1]; exact h)
              have HFIN := Lib.hid hfin
              have hext := HW58.out.trans HX12.out
              have HSF : Hid (∀ z ∈ us.take j ++ x :: us.drop j, SetO w.heap.size w12 z) := fun z hz => by
                rcases List.mem_append.1 hz with hz | hz
                · exact (HSETS.out z (List.mem_of_mem_take hz)).ext hext
                · rcases List.mem_cons.1 hz with rfl | hz
                  · exact HXSET.out.ext hext
                  · exact (HSETS.out z (List.mem_of_mem_drop hz)).ext hext
              have HXF := Lib.hid (HXQ.out.trans HX12.out)
              clear hfin hext HO12 HO11 HOWc HX11 H66 HX12 HXQ
              go_wp2_with fail
              go_roundw
              case rel => exact ⟨k + 1, us.take j ++ x :: us.drop j, hlt, by go_num, HEQ.out, HFIN.out, HSF.out, HXF.out⟩
              case measure => simp [intOf]; omega
        · obtain rfl : j = m := by omega
          have hJ : decide ((j : Int) < (j : Int)) = false := decide_eq_false (by omega)
          have HEQ := Lib.hid (HHERE0.out fun h => absurd h (by rw [← HM.out]; exact Nat.lt_irrefl _))
          go_upto_region 12 with fail
          refine wp_region_facts [Fact.eq (.int .i64 j),
              Fact.eq (.slice ao j co),
              Fact.eq (.int .i64 j),
              Fact.eq (.bool false),
              Fact.eq (.bool false),
              Fact.eq undef,
              Fact.eq undef,
              Fact.eq undef,
              Fact.eq undef,
              Fact.eq undef,
              Fact.eq undef,
              Fact.eq undef,
              Fact.eq (.bool false)]
            [[], [], [(1, 42)], [(0, 41), (2, 43)], [(3, 44)], [(4, 45)], [(4, 45)], [(5, 46), (6, 47), (4, 45)], [(7, 48), (4, 45)], [(4, 45)], [(8, 49), (9, 50), (4, 45)], [(10, 51), (4, 45)], [(4, 45), (11, 52)]]
            [(0, 41), (1, 42), (2, 43), (3, 44), (4, 45), (5, 46), (6, 47), (7, 48), (8, 49), (9, 50), (10, 51), (11, 52), (12, 53)] (by kernel_rfl) (by kernel_rfl) ?_ ?_
          · refine ⟨?_, ?_, ?_, ?_, ?_, ?_, ?_, ?_, ?_, ?_, ?_, ?_, ?_, trivial⟩
            · intro w1 hx1; change wpList _ _ _ _ _ _; exact ob_move rfl rfl rfl rfl rfl
            · intro w1 hx1; change wpList _ _ _ _ _ _; exact ob_move rfl rfl rfl rfl rfl
            · intro w1 hx1; rintro _ rfl; change wpList _ _ _ _ _ _; go_wp2_with fail; exact ⟨rfl, Ext.refl _, rfl, rfl⟩
            · intro w1 hx1; rintro _ rfl; rintro _ rfl; change wpList _ _ _ _ _ _; go_wp2_with fail; exact ⟨rfl, Ext.refl _, rfl, rfl⟩
            · intro w1 hx1; rintro _ rfl; change wpList _ _ _ _ _ _; exact ob_move rfl rfl rfl rfl rfl
            · intro w1 hx1; rintro _ rfl; change wpList _ _ _ _ _ _; exact ob_skip rfl rfl rfl rfl
            · intro w1 hx1; rintro _ rfl; change wpList _ _ _ _ _ _; exact ob_skip rfl rfl rfl rfl
            · intro w1 hx1; rintro _ rfl; rintro _ rfl; rintro _ rfl; change wpList _ _ _ _ _ _; exact ob_skip rfl rfl rfl rfl
            · intro w1 hx1; rintro _ rfl; rintro _ rfl; change wpList _ _ _ _ _ _; exact ob_skip rfl rfl rfl rfl
            · intro w1 hx1; rintro _ rfl; change wpList _ _ _ _ _ _; exact ob_skip rfl rfl rfl rfl
            · intro w1 hx1; rintro _ rfl; rintro _ rfl; rintro _ rfl; change wpList _ _ _ _ _ _; exact ob_skip rfl rfl rfl rfl
            · intro w1 hx1; rintro _ rfl; rintro _ rfl; change wpList _ _ _ _ _ _; exact ob_skip rfl rfl rfl rfl
            · intro w1 hx1; rintro _ rfl; rintro _ rfl; change wpList _ _ _ _ _ _; exact ob_pick rfl rfl rfl rfl rfl rfl
          · intro w1 hx1; rintro _ rfl; rintro _ rfl; rintro _ rfl; rintro _ rfl; rintro _ rfl; rintro _ rfl; rintro _ rfl; rintro _ rfl; rintro _ rfl; rintro _ rfl; rintro _ rfl; rintro _ rfl; rintro _ rfl; refine depsThen_nil ?_; dsimp only; simp only [Act.put, List.setIfInBounds_toArray, List.set_cons_zero, List.set_cons_succ]
            have HXQ := Lib.hid (HX5.out.trans (hxc.out.trans hx1))
            have HOW := Lib.hid (own_ext HOUT.out (hxc.out.trans hx1))
            have HW58 := Lib.hid (hxc.out.trans hx1)
            have s0 := HW58.out.cell b0
            have s1 := HW58.out.cell b1
            have s2 := HW58.out.cell b2
            have s3 := HW58.out.cell b3
            have s4 := HW58.out.cell b4
            have s5 := HW58.out.cell b5
            have s6 := HW58.out.cell b6
            clear hx1 hxc
            go_upto_region 14 with fail
            obtain ⟨w8, hw8⟩ : ∃ z : World, z = w1 := ⟨_, rfl⟩
            subst hw8
            have hbase : w.heap.size ≤ w8.heap.size := HXQ.out.size
            have hone : ∀ u ∈ (us.take j).flatMap csC, u.oneCell' = true := csC_one _ fun z hz => (HSETS.out z (List.mem_of_mem_take hz)).one
            have HONE := Lib.hid hone
            have hone2 : ∀ u ∈ ((us.take j).drop j).flatMap csC, u.oneCell' = true := csC_one _ fun z hz => (HSETS.out z (List.mem_of_mem_take (List.mem_of_mem_drop hz))).one
            have HONE2 := Lib.hid hone2
            clear hone hone2
            go_upto_region 15 with (first
              | (refine cCut (.tmp 55) none (some (.tmp 56)) us j 0 j rfl rfl (Row.of_own HOW.out) rfl ⟨_, _, rfl, by omega, by omega⟩ (Nat.zero_le _) (by omega) ?_; intro v57 h57; rw [List.drop_zero, Nat.sub_zero] at h57; obtain ⟨a57, c57, rfl, _, _⟩ := Row.shape h57; have H57 := Lib.hid h57; clear h57)
              | (at_builtin; refine wpList_append_row 28 52 (.tmp 54) (.tmp 57) rfl w8.heap.size _ 7 88 Tryz.underlying28 info31t rfl (by decide) rfl (.slice none 0 0) 0 [] rfl (own_none _ _ _ _) j ((us.take j).flatMap csC) H57.out HONE.out (by omega) (by unfold maxLen; omega) (Nat.le_refl _) ?_; intro v58 w9 hown9 hg9; have HO9 := Lib.hid hown9; have HX9 := Lib.hid ((Ext.refl w8).grown_none (v := .slice none 0 0) hg9 (fun q hq => by cases hq)); clear hown9 hg9))
            have hown9 : w9.ownsRow w8.heap.size 52 7 v58 j ((us.take j).flatMap csC) := by have h := HO9.out; rw [Nat.zero_add, List.nil_append] at h; exact h
            obtain ⟨a58, c58, rfl, _, _⟩ := own_shape hown9
            have t0 := HX9.out.cell s0
            have t1 := HX9.out.cell s1
            have t2 := HX9.out.cell s2
            have t3 := HX9.out.cell s3
            have t4 := HX9.out.cell s4
            have t5 := HX9.out.cell s5
            have t6 := HX9.out.cell s6
            have hcx : csC x = [.string (strOf c.name), .int .i64 c.op, .int .i64 c.v.k, .int .i64 c.v.n, .string (strOf c.v.s), .bool c.v.b, .slice a4 (sortU cmpV c.set).length c4] := by rw [HXD.out]; rfl
            have hxb : Ext w9 (w9.alloc (.cells #[.string (strOf c.name), .int .i64 c.op, .int .i64 c.v.k, .int .i64 c.v.n, .string (strOf c.v.s), .bool c.v.b, .slice a4 (sortU cmpV c.set).length c4] 52)) := (Ext.refl w9).alloc _
            have hrow : Row (w9.alloc (.cells #[.string (strOf c.name), .int .i64 c.op, .int .i64 c.v.k, .int .i64 c.v.n, .string (strOf c.v.s), .bool c.v.b, .slice a4 (sortU cmpV c.set).length c4] 52)) 7 (.slice (some ⟨w9.heap.size, 0, none⟩) 1 1) 1 (csC x) := by have h := c_row w9 x; rw [hcx] at h ⊢; exact h
            have HROW := Lib.hid hrow
            have hone3 : ∀ u ∈ csC x, u.oneCell' = true := fun u hu => csC_one [x] (fun z hz => by rw [List.mem_singleton.1 hz]; exact HXSET.out.one) u (by rw [List.flatMap_singleton]; exact hu)
            have HONE3 := Lib.hid hone3
            have HO10 := Lib.hid (own_ext hown9 hxb)
            have HOWb := Lib.hid (own_ext HOW.out (HX9.out.trans hxb))
            have HX10 := Lib.hid (HX9.out.trans hxb)
            have hb10 : w8.heap.size ≤ (w9.alloc (.cells #[.string (strOf c.name), .int .i64 c.op, .int .i64 c.v.k, .int .i64 c.v.n, .string (strOf c.v.s), .bool c.v.b, .slice a4 (sortU cmpV c.set).length c4] 52)).heap.size := HX10.out.size
            clear hown9 HO9 HX9 hxb H57 s0 s1 s2 s3 s4 s5 s6 hcx hrow hone3
            go_upto_region 16 with (at_builtin; refine wpList_append_row 28 52 (.tmp 59) (.tmp 61) rfl w8.heap.size _ 7 88 Tryz.underlying28 info31t rfl (by decide) rfl _ j ((us.take j).flatMap csC) rfl HO10.out 1 (csC x) HROW.out HONE3.out (by omega) (by unfold maxLen; omega) hb10 ?_; intro v62 w11 hown11 hg11; have HO11 := Lib.hid hown11; have HG11 := Lib.hid hg11; clear hown11 hg11)
            obtain ⟨a62, c62, rfl, _, _⟩ := own_shape HO11.out
            have hkeep1 : ∀ q, (Value.slice ao j co).ownBlock = some q → (Value.slice a58 j c58).ownBlock ≠ some q := fun q hq => own_later HO10.out (Nat.le_refl _) (own_lt HOW.out q hq)
            have HOWc := Lib.hid (own_keep HOWb.out HG11.out (fun q hq e => hkeep1 q hq e))
            have HX11 := Lib.hid (HX10.out.grown_none HG11.out (own_base HO10.out))
            have hb11 : w8.heap.size ≤ w11.heap.size := HX11.out.size
            clear HO10 HROW HOWb HX10 HG11 hkeep1 t0 t1 t2 t3 t4 t5 t6
            go_upto_region 6 with (first
              | (refine cCut (.tmp 64) (some (.tmp 65)) none us j j j rfl rfl (Row.of_own HOWc.out) ⟨_, _, rfl, by omega, by omega⟩ rfl (by omega) (Nat.le_refl _) ?_; intro v66 h66; obtain ⟨a66, c66, rfl, _, _⟩ := Row.shape h66; have H66 := Lib.hid h66; clear h66)
              | (at_builtin; refine wpList_append_row 28 52 (.tmp 63) (.tmp 66) rfl w8.heap.size _ 7 88 Tryz.underlying28 info31t rfl (by decide) rfl _ (j + 1) ((us.take j).flatMap csC ++ csC x) rfl HO11.out (j - j) (((us.take j).drop j).flatMap csC) H66.out HONE2.out (by omega) (by unfold maxLen; omega) hb11 ?_; intro v67 w12 hown12 hg12; have HO12 := Lib.hid hown12; have HX12 := Lib.hid (HX11.out.grown_none hg12 (own_base HO11.out)); clear hown12 hg12))
            have hfin : w12.ownsRow w.heap.size 52 7 v67 (us.take j ++ x :: us.drop j).length ((us.take j ++ x :: us.drop j).flatMap csC) := by
              have h := own_low HO12.out hbase
              have e1 : us.take j = us := List.take_of_length_le (by rw [← HM.out]; exact Nat.le_refl _)
              rw [e1] at h
              have e2 : (us.take j ++ x :: us.drop j).length = j + 1 + (j - j) := by rw [List.length_append, List.length_cons, List.length_take, List.length_drop, ← HM.out]; omega
              have e3 : (us.take j ++ x :: us.drop j).flatMap csC = (us.take j).flatMap csC ++ csC x ++ (us.drop j).flatMap csC := by rw [List.flatMap_append, List.flatMap_cons, List.append_assoc]
              rw [e2, e3]; first | exact h | (rw [e1]; exact h)
            have HFIN := Lib.hid hfin
            have hext := HW58.out.trans HX12.out
            have HSF : Hid (∀ z ∈ us.take j ++ x :: us.drop j, SetO w.heap.size w12 z) := fun z hz => by
              rcases List.mem_append.1 hz with hz | hz
              · exact (HSETS.out z (List.mem_of_mem_take hz)).ext hext
              · rcases List.mem_cons.1 hz with rfl | hz
                · exact HXSET.out.ext hext
                · exact (HSETS.out z (List.mem_of_mem_drop hz)).ext hext
            have HXF := Lib.hid (HXQ.out.trans HX12.out)
            clear hfin hext HO12 HO11 HOWc HX11 H66 HX12 HXQ
            go_wp2_with fail
            go_roundw
            case rel => exact ⟨k + 1, us.take j ++ x :: us.drop j, hlt, by go_num, HEQ.out, HFIN.out, HSF.out, HXF.out⟩
            case measure => simp [intOf]; omega
    · obtain rfl : k = n := by omega
      have hI : decide ((k : Int) < (k : Int)) = false := decide_eq_false (by omega)
      have hall2 : p.take k = p := List.take_of_length_le (by have := HN.out; omega)
      rw [hall2] at hus
      go_wp2_with fail
      exact bodyPost_ret (v := .tuple #[u4, .int .i64 0]) (by simp [results, Tryz.results39, go_sem]) rfl ⟨_, us, rfl, by unfold normP; rw [← hus.out], hown.out, hset.out, hx.out⟩
theorem rnormal_yes (w : World) (v : Value) (p : List C) (hp : PredR w v p) (hm : mayP p = true) :
    Calls Tryz.prog 39 #[v] w fun e w' => ∃ v', e = .returned (.tuple #[v', .int .i64 0]) ∧ PredR w' v' (normP p) ∧ Ext w w' := by
  refine (rnormal_own w v p hp hm).mono ?_
  rintro e w' ⟨v', us, rfl, h1, h2, h3, h4⟩
  exact ⟨v', rfl, by rw [← h1]; exact PredR.mk us (Row.of_own h2) fun x hm => (h3 x hm).set, h4⟩
end Go.Proofs.YtckigoeomkphhaaGreat

namespace Go.Proofs.YtckigoeomkphhaaGreat
open Go.RowKit

def itC (k : PE) : List Value := [.int .i64 k.id, k.h]
theorem itC_len (k : PE) : (itC k).length = 2 := rfl
/-- Block rb is the document's index: its row is lv, it holds L. -/
structure RefI (w : World) (base rb : Nat) (lv : Value) (L : List PE) : Prop where
  box : w.heap[rb]? = some (.cells #[lv] 43 (0, 0))
  row : w.ownsRow base 57 2 lv L.length (L.flatMap itC)
  preds : ∀ k ∈ L, PredT base w k.h k.p
theorem RefI.ext {w w' : World} {base rb : Nat} {lv : Value} {L : List PE} (h : RefI w base rb lv L) (hx : Ext w w') : RefI w' base rb lv L :=
  ⟨block_later h.box hx, own_ext h.row hx, fun k hk => (h.preds k hk).ext hx⟩
theorem RefI.at {w : World} {base rb : Nat} {a : Option Addr} {n cap : Nat} {L : List PE} (h : RefI w base rb (.slice a n cap) L) {k : Nat} (hk : k < L.length) :
    ∃ B o, a = some ⟨B, o, none⟩ ∧ w.cell? ⟨B, o + k * 2, none⟩ = some (.int .i64 L[k].id) ∧ w.cell? ⟨B, o + k * 2 + 1, none⟩ = some L[k].h := by
  have hr := Row.of_own h.row
  obtain ⟨a', cap', e, _, _⟩ := Row.shape hr
  cases e
  obtain ⟨B, o, rfl⟩ := Row.base hr (by omega) (by decide)
  have q := fun j u hj (e : (itC L[k])[j]? = some u) => Row.cellAt hr ((flat_get itC 2 itC_len L k hk j hj).trans e) (by omega)
  exact ⟨B, o, rfl, q 0 _ (by decide) rfl, by have := q 1 _ (by decide) rfl; rwa [← Nat.add_assoc] at this⟩
theorem itC_one {L : List PE} (h : ∀ k ∈ L, ∃ a n c, k.h = .slice a n c) : ∀ u ∈ L.flatMap itC, u.oneCell' = true := by
  intro u hu
  obtain ⟨x, hx, hu⟩ := List.mem_flatMap.1 hu
  obtain ⟨a, n, c, e⟩ := h x hx
  simp only [itC, List.mem_cons, List.not_mem_nil, or_false, e] at hu
  rcases hu with rfl | rfl <;> rfl
theorem RefI.one {w : World} {base rb : Nat} {lv : Value} {L : List PE} (h : RefI w base rb lv L) : ∀ k ∈ L, ∃ a n c, k.h = .slice a n c := fun k hk => by
  obtain ⟨a, c, e, _⟩ := (h.preds k hk).pred.shape
  exact ⟨a, _, c, e⟩
theorem sS_len (L : List PE) : (sS L).length = L.length := by unfold sS; rw [List.length_map]
theorem sS_fst {L : List PE} {j : Nat} (h : j < (sS L).length) (h2 : j < L.length) : ((sS L)[j]).1 = L[j].id := by simp [sS]
def hasS (S : SP) (id : Int) : Bool := S.any fun k => decide (k.1 = id)
theorem hasS_iff {S : SP} {id : Int} : hasS S id = true ↔ ∃ k ∈ S, k.1 = id := by
  unfold hasS; rw [List.any_eq_true]
  exact ⟨fun ⟨k, h1, h2⟩ => ⟨k, h1, of_decide_eq_true h2⟩, fun ⟨k, h1, h2⟩ => ⟨k, h1, decide_eq_true h2⟩⟩
theorem info_item : (Tryz.prog.info? 57).map (fun i => (i.zero, i.size, i.bytes)) = some (some (.agg #[.int .i64 0, .slice none 0 0]), 2, 32) := by kernel_rfl
theorem info_itemS : (Tryz.prog.info? 57).map (·.size) = some 2 := by kernel_rfl

set_option maxRecDepth 100000 in
set_option maxHeartbeats 4000000 in
theorem rat_any (w : World) (base rb : Nat) (lv : Value) (L : List PE) (hr : RefI w base rb lv L) (id : Int) :
    Calls Tryz.prog 41 #[.pointer (some ⟨rb, 0, none⟩), .int .i64 id] w fun e w' => ∃ i : Nat, e = .returned (.int .i64 i) ∧ AtSL (sS L) id i ∧ Ext w w' := by
  obtain ⟨a, cap, rfl, hcap, hmax⟩ := own_shape hr.row
  unfold maxLen at hmax
  obtain ⟨n, hn⟩ : ∃ n, n = L.length := ⟨_, rfl⟩
  have HN := Lib.hid hn
  rw [← hn] at hr hcap
  have HR := Lib.hid hr
  clear hr hn
  go_enter Tryz.func41, Tryz.ntmps41
  go_wp2_with fail
  go_loopw [5] (fun i wr => ∃ k : Nat, k ≤ n ∧ i = .int .i64 k ∧ Hid (∀ j (hj : j < L.length), j < k → L[j].id < id) ∧ Hid (Ext w wr)) (fun i _ => n - (intOf i).toNat)
  case atStart => exact ⟨0, Nat.zero_le _, rfl, fun j _ h => absurd h (Nat.not_lt_zero _), Ext.refl _⟩
  case round =>
    obtain ⟨k, hk, rfl, hlow, hx⟩ := hrel
    have rb0 := cell_of_row _ _ 0 _ _ _ (HR.out.ext hx.out).box
    by_cases hlt : k < n
    · have hI : decide ((k : Int) < (n : Int)) = true := decide_eq_true (by omega)
      have hkN : (k : Int) < (n : Int) := by omega
      have hkl : k < L.length := by have := HN.out; omega
      obtain ⟨B, o, rfl, f0, f1⟩ := (HR.out.ext hx.out).at hkl
      by_cases hid : L[k].id < id
      · have hd : decide (L[k].id < id) = true := decide_eq_true hid
        have hup : ∀ j (hj : j < L.length), j < k + 1 → L[j].id < id := fun j hj h => by
          by_cases e : j = k
          · subst e; exact hid
          · exact hlow.out j hj (by omega)
        have HUP := Lib.hid hup
        clear hup hid
        generalize L[k].id = z at *
        go_wp2_with fail
        go_roundw
        case rel => exact ⟨k + 1, hlt, by go_num, HUP.out, hx.out⟩
        case measure => simp [intOf]; omega
      · have hd : decide (L[k].id < id) = false := decide_eq_false hid
        have hat : AtSL (sS L) id k := ⟨by rw [sS_len]; omega, fun j hj h => by rw [sS_fst hj (by rwa [sS_len] at hj)]; exact hlow.out j (by rwa [sS_len] at hj) h, fun h => by rw [sS_fst h hkl]; exact hid⟩
        have HAT := Lib.hid hat
        clear hat hid
        generalize L[k].id = z at *
        go_wp2_with fail
        go_ret
        exact ⟨k, rfl, HAT.out, hx.out⟩
    · obtain rfl : k = n := by omega
      have hI : decide ((k : Int) < (k : Int)) = false := decide_eq_false (by omega)
      have hat : AtSL (sS L) id k := ⟨by rw [sS_len]; have := HN.out; omega, fun j hj h => by rw [sS_fst hj (by rwa [sS_len] at hj)]; exact hlow.out j (by rwa [sS_len] at hj) h, fun h => by rw [sS_len] at h; have := HN.out; omega⟩
      have HAT := Lib.hid hat
      clear hat
      go_wp2_with fail
      go_ret
      exact ⟨k, rfl, HAT.out, hx.out⟩

set_option maxRecDepth 100000 in
set_option maxHeartbeats 4000000 in
theorem rhas_any (w : World) (base rb : Nat) (lv : Value) (L : List PE) (hr : RefI w base rb lv L) (S : SP) (hS : RelSL S (sS L)) (id : Int) :
    Calls Tryz.prog 40 #[.pointer (some ⟨rb, 0, none⟩), .int .i64 id] w fun e w' => e = .returned (.bool (hasS S id)) ∧ Ext w w' := by
  have hat := rat_any w base rb lv L hr id
  obtain ⟨a, cap, rfl, hcap, hmax⟩ := own_shape hr.row
  unfold maxLen at hmax
  obtain ⟨n, hn⟩ : ∃ n, n = L.length := ⟨_, rfl⟩
  have HN := Lib.hid hn
  rw [← hn] at hr hcap
  have HR := Lib.hid hr
  have HAT := Lib.hid hat
  clear hr hn hat
  go_enter Tryz.func40, Tryz.ntmps40
  go_upto_region 2 with (go_at_call 41; (with_reducible refine HAT.out.mono ?_); rintro e w1 ⟨i, rfl, hA, hx⟩; have HA := Lib.hid hA; have HX := Lib.hid hx; clear hA hx)
  have rb0 := cell_of_row _ _ 0 _ _ _ (HR.out.ext HX.out).box
  have hle : i ≤ n := by have h := HA.out.le; rw [sS_len] at h; have := HN.out; omega
  have hhas := HA.out.has hS
  by_cases hlt : i < n
  · have hI : decide ((i : Int) < (n : Int)) = true := decide_eq_true (by omega)
    have hkN : (i : Int) < (n : Int) := by omega
    have hkl : i < L.length := by have := HN.out; omega
    obtain ⟨B, o, rfl, f0, f1⟩ := (HR.out.ext HX.out).at hkl
    have hres : hasS S id = (L[i].id == id) := by
      rw [Bool.eq_iff_iff, hasS_iff, hhas, beq_iff_eq]
      constructor
      · rintro ⟨h1, h2⟩; rw [sS_fst h1 hkl] at h2; exact h2
      · intro h2; exact ⟨by rw [sS_len]; exact hkl, by rw [sS_fst (by rw [sS_len]; exact hkl) hkl]; exact h2⟩
    have HRES := Lib.hid hres
    clear hres hhas
    generalize L[i].id = z at *
    cases hz : (z == id) with
    | false =>
      go_wp2_with fail
      go_ret
      exact ⟨by rw [HRES.out, hz]; rfl, HX.out⟩
    | true =>
      go_wp2_with fail
      go_ret
      exact ⟨by rw [HRES.out, hz]; rfl, HX.out⟩
  · obtain rfl : i = n := by omega
    have hI : decide ((i : Int) < (i : Int)) = false := decide_eq_false (by omega)
    have hres : hasS S id = false := by
      rw [Bool.eq_false_iff]
      intro h
      obtain ⟨h1, _⟩ := hhas.1 (hasS_iff.1 h)
      rw [sS_len] at h1; have := HN.out; omega
    have HRES := Lib.hid hres
    clear hres hhas
    go_wp2_with fail
    go_ret
    exact ⟨by rw [HRES.out]; rfl, HX.out⟩
end Go.Proofs.YtckigoeomkphhaaGreat

namespace Go.Proofs.YtckigoeomkphhaaGreat
open Go.RowKit

def addE (S : SP) (id : Int) (p : List C) : Int := if id < 0 then 1 else if mayP p = false then 30 else if hasS S id then 9 else if 256 ≤ S.length then 7 else 0
def addS (S : SP) (id : Int) (p : List C) : SP := if addE S id p = 0 then S ++ [(id, normP p)] else S
def delE (S : SP) (id : Int) : Int := if hasS S id then 0 else 6
def delS (S : SP) (id : Int) : SP := S.filter fun k => !decide (k.1 = id)
theorem delS_no {S : SP} {id : Int} (h : hasS S id = false) : delS S id = S := List.filter_eq_self.2 fun k hk => by
  have : ¬ k.1 = id := fun e => by
    have := hasS_iff.2 ⟨k, hk, e⟩
    rw [h] at this; cases this
  simp [this]
theorem itCut {ops : Array Oper} {Q : Exit → Act → World → Prop} {a : Act} {w : World} {rest : List Oper} {o : Oper}
    (x : Operand) (lo hi : Option Operand) (us : List PE) (n i j : Nat)
    (ho : o.op = .slice 41 x lo hi none)
    (hw : Region.wanted o (yielded ops a.tmps) = true) (hx : Row w 2 (a.eval x) n (us.flatMap itC))
    (hlo : BoundIs a lo 0 i) (hhi : BoundIs a hi n j) (hij : i ≤ j) (hj : j ≤ n)
    (h : ∀ v, Row w 2 v (j - i) (((us.take j).drop i).flatMap itC) → wpList Tryz.prog ops Q rest (a.put o.dst v) w) : wpList Tryz.prog ops Q (o :: rest) a w := by
  refine wpList_cut 41 57 x lo hi 2 n i j _ ho Tryz.underlying41 (by kernel_rfl) hw hx hlo hhi hij hj fun v hv => h v ?_
  rw [flat_take itC 2 itC_len, flat_drop itC 2 itC_len] at hv
  exact hv
theorem it_row (w : World) (id : Int) (h : Value) : Row (w.alloc (.cells #[.int .i64 id, h] 57)) 2 (.slice (some ⟨w.heap.size, 0, none⟩) 1 1) 1 [.int .i64 id, h] :=
  Row.of_own (World.ownsRow_lit (base := w.heap.size) (e := 57) (size := 2) w #[.int .i64 id, h] 1 (Nat.le_refl _) (by decide) rfl)
theorem sS_take (L : List PE) (i : Nat) : sS (L.take i) = (sS L).take i := by unfold sS; rw [List.map_take]
theorem sS_drop (L : List PE) (i : Nat) : sS (L.drop i) = (sS L).drop i := by unfold sS; rw [List.map_drop]
theorem itR_setCell {w : World} (rb : Nat) (v u : Value) (t : TypeId) (h : w.heap[rb]? = some (.cells #[v] t (0, 0))) : (w.setCell ⟨rb, 0, none⟩ u).heap[rb]? = some (.cells #[u] t (0, 0)) := by
  rw [setCell_blockC w rb 0 u _ _ _ h]; rfl
/-- The index's row is another one: what stays. -/
theorem RefI.set {w w1 : World} {base rb : Nat} {lv v : Value} {L L' : List PE} (h : RefI w base rb lv L) (hx : Ext w w1) (ho : w1.ownsRow base 57 2 v L'.length (L'.flatMap itC)) (hp : ∀ k ∈ L', PredT base w1 k.h k.p) :
    RefI (w1.setCell ⟨rb, 0, none⟩ v) base rb v L' ∧ w.grownBy (w1.setCell ⟨rb, 0, none⟩ v) (some rb) := by
  have hb := block_later h.box hx
  have hg := grown_setC w1 rb 0 v
  have key : ∀ {b size n : Nat} {e : TypeId} {u : Value} {xs : List Value}, w1.ownsRow b e size u n xs → e ≠ 43 → (w1.setCell ⟨rb, 0, none⟩ v).ownsRow b e size u n xs := fun ho he => own_keep ho hg fun k hk e => own_ne ho hb he (by rw [hk]; exact e.symm)
  refine ⟨⟨itR_setCell rb lv v _ hb, key ho (by decide), fun k hk => ?_⟩, ⟨hg.os.trans hx.os, hg.tape.trans hx.tape, hg.output.trans hx.output, Nat.le_trans hx.size hg.size, fun k hk hne => (hg.block k (Nat.lt_of_lt_of_le hk hx.size) hne).trans (hx.block k hk)⟩⟩
  obtain ⟨us, e, h1, h2⟩ := hp k hk
  exact ⟨us, e, key h1 (by decide), fun x hx => key (h2 x hx) (by decide)⟩

set_option maxRecDepth 100000 in
set_option maxHeartbeats 16000000 in
theorem radd_any (w : World) (base rb : Nat) (lv : Value) (L : List PE) (hr : RefI w base rb lv L) (hbase : base ≤ w.heap.size) (S : SP) (hS : RelSL S (sS L)) (hl256 : L.length ≤ 256) (id : Int) (v : Value) (p : List C) (hp : PredR w v p) :
    Calls Tryz.prog 15 #[.pointer (some ⟨rb, 0, none⟩), .int .i64 id, v] w fun e w' => e = .returned (.int .i64 (addE S id p)) ∧ (∃ lv' L', RefI w' base rb lv' L' ∧ RelSL (addS S id p) (sS L') ∧ L'.length ≤ 256 ∧ ∀ k ∈ L', k ∈ L ∨ ∀ q, k.h.ownBlock = some q → w.heap.size ≤ q) ∧ w.grownBy w' (some rb) := by
  have hlen : S.length = L.length := by rw [← hS.len]; unfold sS; rw [List.length_map]
  have hno : ∀ (w' : World) (e : Int), addE S id p = e → e ≠ 0 → Ext w w' → ((∃ lv' L', RefI w' base rb lv' L' ∧ RelSL (addS S id p) (sS L') ∧ L'.length ≤ 256 ∧ ∀ k ∈ L', k ∈ L ∨ ∀ q, k.h.ownBlock = some q → w.heap.size ≤ q) ∧ w.grownBy w' (some rb)) := fun w' e h1 h2 hx =>
    ⟨⟨lv, L, hr.ext hx, by unfold addS; rw [h1, if_neg h2]; exact hS, hl256, fun k hk => .inl hk⟩, ⟨hx.os, hx.tape, hx.output, hx.size, fun k hk _ => hx.block k hk⟩⟩
  obtain ⟨av, cv, rfl, _, _⟩ := hp.shape
  by_cases hneg : id < 0
  · have hd : decide (id < 0) = true := decide_eq_true hneg
    have he : addE S id p = 1 := by unfold addE; rw [if_pos hneg]
    have HE := Lib.hid he
    have HNO := Lib.hid hno
    clear hno hr hS hp he hneg hlen
    go_enter Tryz.func15, Tryz.ntmps15
    go_wp2_with fail
    go_ret
    exact ⟨by rw [HE.out]; rfl, HNO.out _ _ HE.out (by decide) (Ext.refl _)⟩
  have hd : decide (id < 0) = false := decide_eq_false hneg
  cases hm : mayP p with
  | false =>
    have hn := rnormal_no w _ p hp hm
    have he : addE S id p = 30 := by unfold addE; rw [if_neg hneg, if_pos hm]
    have HN := Lib.hid hn
    have HE := Lib.hid he
    have HNO := Lib.hid hno
    clear hno hr hS hp he hneg hn hm hlen
    generalize p.length = pl at *
    go_enter Tryz.func15, Tryz.ntmps15
    go_wp2_with (go_at_call 39; (with_reducible refine HN.out.mono ?_); rintro e w1 ⟨rfl, hx⟩; have HX := Lib.hid hx; clear hx)
    go_ret
    exact ⟨by rw [HE.out]; rfl, HNO.out _ _ HE.out (by decide) HX.out⟩
  | true =>
    have hn := rnormal_own w _ p hp hm
    have HN := Lib.hid hn
    have HR := Lib.hid hr
    have HS := Lib.hid hS
    have HM : Hid (mayP p = true) := hm
    have HNG := Lib.hid hneg
    have HLEN := Lib.hid hlen
    clear hn hr hS hp hm hneg hlen
    generalize p.length = pl at *
    go_enter Tryz.func15, Tryz.ntmps15
    go_upto_region 6 with (go_at_call 39; (with_reducible refine HN.out.mono ?_); rintro e w1 ⟨nv, us, rfl, hus, hown, hset, hx⟩; obtain ⟨na, nc, rfl, _, _⟩ := own_shape hown; have HUS := Lib.hid hus; have HOWN := Lib.hid hown; have HSET := Lib.hid hset; have HX := Lib.hid hx; clear hus hown hset hx)
    have hhas := rhas_any w1 base rb lv L (HR.out.ext HX.out) S HS.out id
    have HHAS := Lib.hid hhas
    clear hhas
    cases hh : hasS S id with
    | true =>
      have he : addE S id p = 9 := by unfold addE; rw [if_neg (by have := HNG.out; omega), if_neg (by rw [HM.out]; decide), if_pos hh]
      have HE := Lib.hid he
      have HNO := Lib.hid hno
      have HH := Lib.hid hh
      clear hno he hh
      generalize us.length = ul at *
      go_wp2_with (go_at_call 40; (with_reducible refine HHAS.out.mono ?_); rw [HH.out]; rintro e w2 ⟨rfl, hx2⟩; have HX2 := Lib.hid hx2; clear hx2)
      go_ret
      exact ⟨by rw [HE.out]; rfl, HNO.out _ _ HE.out (by decide) (HX.out.trans HX2.out)⟩
    | false =>
      have HH := Lib.hid hh
      clear hh
      obtain ⟨ul, hul⟩ : ∃ ul, ul = us.length := ⟨_, rfl⟩
      have HUL := Lib.hid hul
      rw [← hul] at HOWN ⊢
      clear hul
      obtain ⟨la, lc, rfl, hlc, hlm⟩ := own_shape HR.out.row
      unfold maxLen at hlm
      obtain ⟨n, hnn⟩ : ∃ n, n = L.length := ⟨_, rfl⟩
      have HNN := Lib.hid hnn
      have HL := Lib.hid HR.out
      rw [← hnn] at HL hlc hl256 HLEN
      clear hnn HHAS
      have hhas := rhas_any w1 base rb _ L (HR.out.ext HX.out) S HS.out id
      rw [HH.out] at hhas
      have HHAS := Lib.hid hhas
      clear hhas
      go_upto_region 8 with (go_at_call 40; (with_reducible refine HHAS.out.mono ?_); rintro e w2 ⟨rfl, hx2⟩; have HX2 := Lib.hid (HX.out.trans hx2); have HX12 := Lib.hid hx2; clear hx2)
      have rb0 := cell_of_row _ _ 0 _ _ _ (HL.out.ext HX2.out).box
      by_cases hful : 256 ≤ n
      · have hF : decide ((256 : Int) ≤ (n : Int)) = true := decide_eq_true (by omega)
        have he : addE S id p = 7 := by unfold addE; rw [if_neg (by have := HNG.out; omega), if_neg (by rw [HM.out]; decide), if_neg (by rw [HH.out]; decide), if_pos (by rw [HLEN.out]; exact hful)]
        have HE := Lib.hid he
        have HNO := Lib.hid hno
        clear hno he
        go_wp2_with fail
        go_ret
        exact ⟨by rw [HE.out]; rfl, HNO.out _ _ HE.out (by decide) HX2.out⟩
      · have hF : decide ((256 : Int) ≤ (n : Int)) = false := decide_eq_false (by omega)
        have he : addE S id p = 0 := by unfold addE; rw [if_neg (by have := HNG.out; omega), if_neg (by rw [HM.out]; decide), if_neg (by rw [HH.out]; decide), if_neg (by rw [HLEN.out]; exact hful)]
        have HE := Lib.hid he
        clear hno he
        have hat := rat_any w2 base rb _ L (HL.out.ext HX2.out) id
        have HAT := Lib.hid hat
        clear hat
        go_upto_region 12 with (go_at_call 41; (with_reducible refine HAT.out.mono ?_); rintro e w3 ⟨i, rfl, hA, hx3⟩; have HA := Lib.hid hA; have HX3 := Lib.hid (HX2.out.trans hx3); have HX13 := Lib.hid (HX12.out.trans hx3); clear hA hx3)
        have hin : i ≤ n := by have h := HA.out.le; rw [sS_len] at h; have := HNN.out; omega
        have hL3 := HL.out.ext HX3.out
        have HL3 := Lib.hid hL3
        have hrl := hL3.row
        rw [← HNN.out] at hrl
        have HRL := Lib.hid hrl
        clear hL3 hrl rb0 HAT HHAS
        have rb0 := cell_of_row _ _ 0 _ _ _ HL3.out.box
        have hone := itC_one HR.out.one
        have h1a : ∀ u ∈ (L.take i).flatMap itC, u.oneCell' = true := itC_one fun k hk => HR.out.one k (List.mem_of_mem_take hk)
        have h1b : ∀ u ∈ ((L.take n).drop i).flatMap itC, u.oneCell' = true := itC_one fun k hk => HR.out.one k (List.mem_of_mem_take (List.mem_of_mem_drop hk))
        have H1A := Lib.hid h1a
        have H1B := Lib.hid h1b
        clear hone h1a h1b
        have hb3 : base ≤ w3.heap.size := Nat.le_trans hbase HX3.out.size
        go_upto_region 13 with (first
          | (refine itCut (.tmp 37) none (some (.tmp 38)) L n 0 i rfl rfl (Row.of_own HRL.out) rfl ⟨_, _, rfl, by omega, by omega⟩ (Nat.zero_le _) (by omega) ?_; intro v39 h39; rw [List.drop_zero, Nat.sub_zero] at h39; obtain ⟨a39, c39, rfl, _, _⟩ := Row.shape h39; have H39 := Lib.hid h39; clear h39)
          | (at_builtin; refine wpList_append_row 41 57 (.tmp 33) (.tmp 39) rfl w3.heap.size _ 2 32 Tryz.underlying41 info_item rfl (by decide) rfl (.slice none 0 0) 0 [] rfl (own_none _ _ _ _) i ((L.take i).flatMap itC) H39.out H1A.out (by omega) (by unfold maxLen; omega) (Nat.le_refl _) ?_; intro v40 w4 hown4 hg4; have HO4 := Lib.hid hown4; have HX4 := Lib.hid ((Ext.refl w3).grown_none (v := .slice none 0 0) hg4 (fun q hq => by cases hq)); clear hown4 hg4))
        have hown4 : w4.ownsRow w3.heap.size 57 2 v40 i ((L.take i).flatMap itC) := by have h := HO4.out; rw [Nat.zero_add, List.nil_append] at h; exact h
        obtain ⟨a40, c40, rfl, _, _⟩ := own_shape hown4
        have hxb : Ext w4 (w4.alloc (.cells #[.int .i64 id, .slice na ul nc] 57)) := (Ext.refl w4).alloc _
        have HROW := Lib.hid (it_row w4 id (.slice na ul nc))
        have HO5 := Lib.hid (own_ext hown4 hxb)
        have HX5 := Lib.hid (HX4.out.trans hxb)
        have hb5 : w3.heap.size ≤ (w4.alloc (.cells #[.int .i64 id, .slice na ul nc] 57)).heap.size := HX5.out.size
        have h1c : ∀ u ∈ [Value.int .i64 id, .slice na ul nc], u.oneCell' = true := fun u hu => by simp only [List.mem_cons, List.not_mem_nil, or_false] at hu; rcases hu with rfl | rfl <;> rfl
        have H1C := Lib.hid h1c
        clear hown4 HO4 HX4 hxb H39 rb0 h1c
        go_upto_region 14 with (at_builtin; refine wpList_append_row 41 57 (.tmp 41) (.tmp 45) rfl w3.heap.size _ 2 32 Tryz.underlying41 info_item rfl (by decide) rfl _ i ((L.take i).flatMap itC) rfl HO5.out 1 [.int .i64 id, .slice na ul nc] HROW.out H1C.out (by omega) (by unfold maxLen; omega) hb5 ?_; intro v46 w6 hown6 hg6; have HO6 := Lib.hid hown6; have HX6 := Lib.hid (HX5.out.grown_none hg6 (own_base HO5.out)); clear hown6 hg6)
        obtain ⟨a46, c46, rfl, _, _⟩ := own_shape HO6.out
        have HL6 := Lib.hid (HL3.out.ext HX6.out)
        have HRL6 := Lib.hid (own_ext HRL.out HX6.out)
        have rb0 := cell_of_row _ _ 0 _ _ _ HL6.out.box
        have zb0 := frozen_of_row _ _ 0 _ _ HL6.out.box
        have hb6 : w3.heap.size ≤ w6.heap.size := HX6.out.size
        clear HO5 HROW HX5 HL3
        go_upto_region 15 with (first
          | (refine itCut (.tmp 52) (some (.tmp 53)) none L n i n rfl rfl (Row.of_own HRL6.out) ⟨_, _, rfl, by omega, by omega⟩ rfl (by omega) (Nat.le_refl _) ?_; intro v54 h54; obtain ⟨a54, c54, rfl, _, _⟩ := Row.shape h54; have H54 := Lib.hid h54; clear h54)
          | (at_builtin; refine wpList_append_row 41 57 (.tmp 48) (.tmp 54) rfl w3.heap.size _ 2 32 Tryz.underlying41 info_item rfl (by decide) rfl (.slice a46 (i + 1) c46) (i + 1) ((L.take i).flatMap itC ++ [.int .i64 id, .slice na ul nc]) rfl HO6.out (n - i) (((L.take n).drop i).flatMap itC) H54.out H1B.out (by omega) (by unfold maxLen; omega) hb6 ?_; intro v55 w7 hown7 hg7; have HO7 := Lib.hid hown7; have HX7 := Lib.hid (HX6.out.grown_none hg7 (own_base HO6.out)); clear hown7 hg7; obtain ⟨a55, c55, rfl, _, _⟩ := own_shape HO7.out; have rb7 := cell_of_row _ _ 0 _ _ _ ((HL.out.ext HX3.out).ext HX7.out).box; have zb7 := frozen_of_row _ _ 0 _ _ ((HL.out.ext HX3.out).ext HX7.out).box))
        go_wp2_with fail
        go_ret
        have hus : us.map CS.c = normP p := HUS.out
        have hln : L.length = n := HNN.out.symm
        have hnew : PredT base w7 (.slice na ul nc) (normP p) := by
          rw [← hus]
          exact (PredT.of (by rw [← HUL.out]; exact own_ext HOWN.out (HX13.out.trans HX7.out)) fun x hx => (HSET.out x hx).ext (HX13.out.trans HX7.out)).low (Nat.le_trans hbase (Nat.le_refl _))
        have hfin : w7.ownsRow base 57 2 (.slice a55 (i + 1 + (n - i)) c55) (L.take i ++ ⟨id, normP p, .slice na ul nc⟩ :: L.drop i).length ((L.take i ++ ⟨id, normP p, .slice na ul nc⟩ :: L.drop i).flatMap itC) := by
          have h := own_low HO7.out hb3
          have e1 : L.take n = L := List.take_of_length_le (by omega)
          have e2 : (L.take i ++ (⟨id, normP p, .slice na ul nc⟩ : PE) :: L.drop i).length = i + 1 + (n - i) := by rw [List.length_append, List.length_cons, List.length_take, List.length_drop]; omega
          have e3 : (L.take i ++ (⟨id, normP p, .slice na ul nc⟩ : PE) :: L.drop i).flatMap itC = (L.take i).flatMap itC ++ [.int .i64 id, .slice na ul nc] ++ ((L.take n).drop i).flatMap itC := by rw [e1, List.flatMap_append, List.flatMap_cons, List.append_assoc]; rfl
          rw [e2, e3]; exact h
        have hset := (HR.out.ext (HX3.out.trans HX7.out) |> fun h => RefI.set (by rw [hln] at h; exact h) (Ext.refl w7) hfin (fun k hk => by
          rcases List.mem_append.1 hk with hk | hk
          · exact (HR.out.preds k (List.mem_of_mem_take hk)).ext (HX3.out.trans HX7.out)
          · rcases List.mem_cons.1 hk with rfl | hk
            · exact hnew
            · exact (HR.out.preds k (List.mem_of_mem_drop hk)).ext (HX3.out.trans HX7.out)))
        refine ⟨by rw [HE.out]; rfl, ⟨_, _, hset.1, ?_, ?_, fun z hz => ?_⟩, ⟨hset.2.os.trans (HX3.out.trans HX7.out).os, hset.2.tape.trans (HX3.out.trans HX7.out).tape, hset.2.output.trans (HX3.out.trans HX7.out).output, Nat.le_trans (HX3.out.trans HX7.out).size hset.2.size, fun q hq hne => (hset.2.block q (Nat.lt_of_lt_of_le hq (HX3.out.trans HX7.out).size) hne).trans ((HX3.out.trans HX7.out).block q hq)⟩⟩
        · have hadd := HS.out.add HA.out (normP p) (fun h => by have := hasS_iff.2 h; rw [HH.out] at this; cases this)
          unfold addS
          rw [HE.out, if_pos rfl]
          have e : sS (L.take i ++ (⟨id, normP p, .slice na ul nc⟩ : PE) :: L.drop i) = (sS L).take i ++ (id, normP p) :: (sS L).drop i := by unfold sS; rw [List.map_append, List.map_cons, List.map_take, List.map_drop]
          rw [e]; exact hadd
        · rw [List.length_append, List.length_cons, List.length_take, List.length_drop]; omega
        · rcases List.mem_append.1 hz with hz | hz
          · exact .inl (List.mem_of_mem_take hz)
          · rcases List.mem_cons.1 hz with rfl | hz
            · exact .inr fun q hq => own_base HOWN.out q hq
            · exact .inl (List.mem_of_mem_drop hz)
end Go.Proofs.YtckigoeomkphhaaGreat
