/- The walk through PredMay. -/
import Derived.Test.YtfkemgkbkhacmaaGreatPk7
import Derived.Test.YtfkemgkbkhacmaaGreatPk5
import Derived.Test.YtfkemgkbkhacmaaGreatPk8
namespace Go.Proofs.YtfkemgkbkhacmaaGreat
open Go.RowKit

theorem wpList_min2P {P : Program} {ops : Array Oper} {Q : Exit → Act → World → Prop} {a : Act} {w : World} {rest : List Oper} {o : Oper} (x y : Operand) (ts : Array TypeId)
    (ho : o.op = .call { callee := .builtin .min, args := #[x, y], argTypes := ts }) (hw : Region.wanted o (yielded ops a.tmps) = true) (p q : Int) (r : Nat)
    (hx : a.eval x = .int .i64 p) (hy : a.eval y = .int .i64 q) (hr : min p q = r)
    (h : wpList P ops Q rest (a.put o.dst (.int .i64 r)) w) : wpList P ops Q (o :: rest) a w := by
  refine wpList_val hw ?_ h
  have hr2 := run_min_int2 (P := P) (w := w) ts o.type .i64 .i64 p q
  have e : (if q < p then q else p) = (r : Int) := by rw [← hr]; split <;> omega
  rw [e] at hr2
  simp [execOp, ho, resolve, invoke, builtin, hx, hy, hr2, Result.andThen]
def Fact.pr (p : List C) : Fact := ⟨fun v w => PredR w v p, fun _ _ _ hx h => PredR.ext h hx⟩
theorem predR_cut {w : World} {v' : Value} {us : List CS} {j : Nat} (hs : ∀ x ∈ us, SetR w x.h x.c.set) (hj : j ≤ us.length) (h : Row w 7 v' j ((us.take j).flatMap csC)) : PredR w v' ((us.map CS.c).take j) := by
  rw [← List.map_take]
  exact PredR.mk (us.take j) (by rw [List.length_take, Nat.min_eq_left hj]; exact h) fun x hx => hs x (List.mem_of_mem_take hx)

/-- Both normal forms, in one saying each. -/
def nfP (p : List C) : List C := if mayP p then normP p else []
def erP (p : List C) : Int := if mayP p then 0 else 30
theorem normal_both (w : World) (v : Value) (p : List C) (hp : PredR w v p) :
    Calls Tryz.prog 5 #[v] w fun e w' => ∃ (a : Option Addr) (cap : Nat) (us : List CS), e = .returned (.tuple #[.slice a us.length cap, .int .i64 (erP p)]) ∧ us.length ≤ cap ∧ cap ≤ maxLen ∧ us.map CS.c = nfP p ∧ w'.ownsRow w.heap.size 37 7 (.slice a us.length cap) us.length (us.flatMap csC) ∧ (∀ x ∈ us, SetO w.heap.size w' x) ∧ Ext w w' := by
  by_cases hm : mayP p = true
  · refine (normal_yes w v p hp hm).mono ?_
    rintro e w' ⟨v', us, rfl, h1, h2, h3, h4⟩
    obtain ⟨a, cap, rfl, h5, h6⟩ := own_shape h2
    exact ⟨a, cap, us, by unfold erP; rw [if_pos hm], h5, h6, by unfold nfP; rw [if_pos hm]; exact h1, h2, h3, h4⟩
  · refine (normal_no w v p hp (Bool.eq_false_iff.2 hm)).mono ?_
    rintro e w' ⟨rfl, h4⟩
    exact ⟨none, 0, [], by unfold erP; rw [if_neg hm]; rfl, Nat.le_refl _, by decide, by unfold nfP; rw [if_neg hm]; rfl, own_none _ _ _ _, (fun _ h => by cases h), h4⟩
theorem rnormal_both (w : World) (v : Value) (p : List C) (hp : PredR w v p) :
    Calls Tryz.prog 6 #[v] w fun e w' => ∃ (a : Option Addr) (cap : Nat), e = .returned (.tuple #[.slice a (nfP p).length cap, .int .i64 (erP p)]) ∧ PredR w' (.slice a (nfP p).length cap) (nfP p) ∧ Ext w w' := by
  by_cases hm : mayP p = true
  · refine (rnormal_yes w v p hp hm).mono ?_
    rintro e w' ⟨v', rfl, h1, h4⟩
    have e : nfP p = normP p := by unfold nfP; rw [if_pos hm]
    obtain ⟨a, cap, rfl, h5, h6⟩ := h1.shape
    rw [e]
    exact ⟨a, cap, by unfold erP; rw [if_pos hm], h1, h4⟩
  · refine (rnormal_no w v p hp (Bool.eq_false_iff.2 hm)).mono ?_
    rintro e w' ⟨rfl, h4⟩
    have e : nfP p = [] := by unfold nfP; rw [if_neg hm]
    rw [e]
    exact ⟨none, 0, by unfold erP; rw [if_neg hm]; rfl, PredR.nil _, h4⟩
/-- A set's memory, whatever it holds. -/
def SetM (b : Nat) (w : World) (h : Value) (n : Nat) : Prop := ∀ a k c, h = .slice a k c → k = n ∧ (0 < n → ∃ g, a = some ⟨g, 0, none⟩ ∧ b ≤ g ∧ ∃ cs, w.heap[g]? = some (.cells cs 34 (0, 0)) ∧ n * 4 ≤ cs.size)
theorem SetM.of {b : Nat} {w : World} {x : CS} (h : SetO b w x) : SetM b w x.h x.c.set.length := by
  intro a k c e
  rcases h.2 with ⟨e1, e2⟩ | ⟨g, cap, cur, e1, hb, hg, hn, hc, hs, ht⟩
  · rw [e] at e1
    simp only [Value.slice.injEq] at e1
    exact ⟨by have := e1.2.1; omega, fun h0 => absurd h0 (by omega)⟩
  · rw [e] at e1
    simp only [Value.slice.injEq] at e1
    refine ⟨e1.2.1, fun h0 => ⟨g, e1.1, hb, cur, hg, ?_⟩⟩
    rw [hs]; exact Nat.mul_le_mul_right _ hn
theorem SetM.setCell {b : Nat} {w : World} {h : Value} {n : Nat} (hm : SetM b w h n) (B i : Nat) (u : Value) : SetM b (w.setCell ⟨B, i, none⟩ u) h n := by
  intro a k c e
  obtain ⟨h1, h2⟩ := hm a k c e
  refine ⟨h1, fun h0 => ?_⟩
  obtain ⟨g, e1, e2, cs, e3, e4⟩ := h2 h0
  by_cases hg : g = B
  · subst hg
    exact ⟨g, e1, e2, _, setCell_blockC w g i u _ _ _ e3, by rw [Array.size_setIfInBounds]; exact e4⟩
  · exact ⟨g, e1, e2, cs, by rw [setCell_block_far w ⟨B, i, none⟩ u g hg]; exact e3, e4⟩
theorem SetM.setCells {b : Nat} {h : Value} {n : Nat} (B : Nat) : ∀ (vs : List Value) {w : World} (_ : SetM b w h n) (i : Nat), SetM b (w.setCells B i vs) h n
  | [], _, hm, _ => hm
  | v :: vs, _, hm, i => SetM.setCells B vs (hm.setCell B i v) (i + 1)
theorem grown_setCells (B : Nat) : ∀ (vs : List Value) (w : World) (i : Nat), w.grownBy (w.setCells B i vs) (some B)
  | [], w, _ => ⟨rfl, rfl, rfl, Nat.le_refl _, fun _ _ _ => rfl⟩
  | v :: vs, w, i => by
      have h1 := grown_setC w B i v
      have h2 := grown_setCells B vs (w.setCell ⟨B, i, none⟩ v) (i + 1)
      exact ⟨h2.os.trans h1.os, h2.tape.trans h1.tape, h2.output.trans h1.output, Nat.le_trans h1.size h2.size, fun k hk hne => (h2.block k (Nat.lt_of_lt_of_le hk h1.size) hne).trans (h1.block k hk hne)⟩
theorem cells_in {w : World} {g : Nat} {cs : Array Value} {t : TypeId} (h : w.heap[g]? = some (.cells cs t (0, 0))) {i : Nat} (hi : i < cs.size) : (∃ u, w.cell? ⟨g, i, none⟩ = some u) ∧ w.frozen? ⟨g, i, none⟩ = false :=
  ⟨⟨cs[i], by simp [World.cell?, h, hi]⟩, by simp [World.frozen?, h]⟩
theorem ext_setCells {w0 : World} (B : Nat) (hB : w0.heap.size ≤ B) : ∀ (vs : List Value) {w : World} (_ : Ext w0 w) (i : Nat), Ext w0 (w.setCells B i vs)
  | [], _, h, _ => h
  | v :: vs, _, h, i => ext_setCells B hB vs (h.setCell hB v) (i + 1)

set_option maxRecDepth 100000 in
set_option maxHeartbeats 32000000 in
theorem predMay_walk (W : World) (v0 v1 : Value) (p q : List C) (hp : PredR W v0 p) (hq : PredR W v1 q) (hb : ∀ c ∈ p, c.set.length * 40 ≤ 140737488355328) :
    Calls Tryz.prog 3 #[v0, v1] W fun e W' => e = .returned (.bool true) ∧ Ext W W' := by
  obtain ⟨us, rfl, hru, hsu⟩ := hp
  obtain ⟨vs, rfl, hrv, hsv⟩ := hq
  obtain ⟨ap, cp, rfl, hcp, hmp⟩ := Row.shape hru
  obtain ⟨aq, cq, rfl, hcq, hmq⟩ := Row.shape hrv
  unfold maxLen at hmp hmq
  obtain ⟨n, hn⟩ : ∃ n, n = min us.length 100 := ⟨_, rfl⟩
  obtain ⟨m, hm⟩ : ∃ m, m = min vs.length 100 := ⟨_, rfl⟩
  have hnl : n ≤ us.length := by omega
  have hml : m ≤ vs.length := by omega
  have hn100 : n ≤ 100 := by omega
  have hmin1 : min (us.length : Int) 100 = (n : Int) := by omega
  have hmin2 : min (vs.length : Int) 100 = (m : Int) := by omega
  have HRU := Lib.hid hru
  have HRV := Lib.hid hrv
  have HSU := Lib.hid hsu
  have HSV := Lib.hid hsv
  have HB : Hid (∀ c ∈ (us.map CS.c).take n, c.set.length * 40 ≤ 140737488355328) := fun c hc => hb c (List.mem_of_mem_take hc)
  have HM1 := Lib.hid hmin1
  have HM2 := Lib.hid hmin2
  clear hru hrv hsu hsv hb hn hm hmin1 hmin2
  have HPL : Hid (((us.map CS.c).take n).length = n) := by show _ = _; rw [List.length_take, List.length_map, Nat.min_eq_left hnl]
  go_enter Tryz.func3, Tryz.ntmps3
  go_upto_region 1 with fail
  refine wp_region_facts [Fact.eq (.slice ap us.length cp),
      Fact.eq (.slice ap us.length cp),
      Fact.eq (.int .i64 us.length),
      Fact.eq (.int .i64 n),
      Fact.pr ((us.map CS.c).take n),
      Fact.eq (.slice aq vs.length cq),
      Fact.eq (.slice aq vs.length cq),
      Fact.eq (.int .i64 vs.length),
      Fact.eq (.int .i64 m),
      Fact.pr ((vs.map CS.c).take m),
      Fact.pr ((us.map CS.c).take n),
      Fact.pr ((vs.map CS.c).take m)]
    [[], [], [(1, 14)], [(2, 15)], [(0, 13), (3, 16)], [], [], [(6, 19)], [(7, 20)], [(5, 18), (8, 21)], [(4, 17)], [(9, 22)]]
    [(0, 13), (1, 14), (2, 15), (3, 16), (4, 17), (5, 18), (6, 19), (7, 20), (8, 21), (9, 22), (10, 0), (11, 1)] (by kernel_rfl) (by kernel_rfl) ?_ ?_
  · refine ⟨?_, ?_, ?_, ?_, ?_, ?_, ?_, ?_, ?_, ?_, ?_, ?_, trivial⟩
    · intro w1 hx1; change wpList _ _ _ _ _ _; exact ob_move rfl rfl rfl rfl rfl
    · intro w1 hx1; change wpList _ _ _ _ _ _; exact ob_move rfl rfl rfl rfl rfl
    · intro w1 hx1; rintro _ rfl; change wpList _ _ _ _ _ _; go_wp2_with fail; exact ⟨rfl, Ext.refl _, rfl, rfl⟩
    · intro w1 hx1; rintro _ rfl; change wpList _ _ _ _ _ _; refine wpList_min2P (.tmp 15) (.const (.int .i64 100)) _ rfl rfl _ _ n rfl rfl HM1.out ?_; exact wpList_nil ⟨rfl, Ext.refl _, rfl, rfl⟩
    · intro w1 hx1; rintro _ rfl; rintro _ rfl; change wpList _ _ _ _ _ _; refine cCut (.tmp 13) none (some (.tmp 16)) us us.length 0 n rfl rfl (Row.ext HRU.out hx1) rfl ⟨_, _, rfl, by omega, by omega⟩ (Nat.zero_le _) hnl ?_; intro v17 h17; rw [List.drop_zero, Nat.sub_zero] at h17; exact wpList_nil ⟨rfl, Ext.refl _, rfl, predR_cut (fun x hx => SetR.ext (HSU.out x hx) hx1) hnl h17⟩
    · intro w1 hx1; change wpList _ _ _ _ _ _; exact ob_move rfl rfl rfl rfl rfl
    · intro w1 hx1; change wpList _ _ _ _ _ _; exact ob_move rfl rfl rfl rfl rfl
    · intro w1 hx1; rintro _ rfl; change wpList _ _ _ _ _ _; go_wp2_with fail; exact ⟨rfl, Ext.refl _, rfl, rfl⟩
    · intro w1 hx1; rintro _ rfl; change wpList _ _ _ _ _ _; refine wpList_min2P (.tmp 20) (.const (.int .i64 100)) _ rfl rfl _ _ m rfl rfl HM2.out ?_; exact wpList_nil ⟨rfl, Ext.refl _, rfl, rfl⟩
    · intro w1 hx1; rintro _ rfl; rintro _ rfl; change wpList _ _ _ _ _ _; refine cCut (.tmp 18) none (some (.tmp 21)) vs vs.length 0 m rfl rfl (Row.ext HRV.out hx1) rfl ⟨_, _, rfl, by omega, by omega⟩ (Nat.zero_le _) hml ?_; intro v22 h22; rw [List.drop_zero, Nat.sub_zero] at h22; exact wpList_nil ⟨rfl, Ext.refl _, rfl, predR_cut (fun x hx => SetR.ext (HSV.out x hx) hx1) hml h22⟩
    · intro w1 hx1; intro v17 h17; change wpList _ _ _ _ _ _; exact ob_assign rfl rfl rfl rfl h17
    · intro w1 hx1; intro v22 h22; change wpList _ _ _ _ _ _; exact ob_assign rfl rfl rfl rfl h22
  · intro w1 hx1; rintro _ rfl; rintro _ rfl; rintro _ rfl; rintro _ rfl; intro v17 h17; rintro _ rfl; rintro _ rfl; rintro _ rfl; rintro _ rfl; intro v22 h22; intro v0 h0; intro v1 h1; refine depsThen_nil ?_; dsimp only; simp only [Act.put, List.setIfInBounds_toArray, List.set_cons_zero, List.set_cons_succ]
    replace h17 : (Fact.pr ((us.map CS.c).take n)).p v17 w1 := h17
    replace h22 : (Fact.pr ((vs.map CS.c).take m)).p v22 w1 := h22
    replace h0 : (Fact.pr ((us.map CS.c).take n)).p v0 w1 := h0
    replace h1 : (Fact.pr ((vs.map CS.c).take m)).p v1 w1 := h1
    have HX1 := Lib.hid hx1
    have hp0 : PredR w1 v0 ((us.map CS.c).take n) := h0
    have hq0 : PredR w1 v1 ((vs.map CS.c).take m) := h1
    clear h0 h1 h17 h22 HRU HRV HSU HSV HM1 HM2
    generalize (us.map CS.c).take n = p at *
    generalize (vs.map CS.c).take m = q at *
    obtain ⟨N, hN⟩ : ∃ N, N = p.length := ⟨_, rfl⟩
    have HN := Lib.hid hN
    obtain ⟨a0, c0, rfl, hc0, hm0⟩ := hp0.shape
    obtain ⟨a1, c1, rfl, hc1, hm1⟩ := hq0.shape
    have hN100 : N ≤ 100 := by have := HPL.out; omega
    rw [← hN] at hp0 hc0 ⊢
    unfold maxLen at hm0 hm1
    have HP := Lib.hid hp0
    have HQ := Lib.hid hq0
    have HL : Hid (p.length ≤ 100) := by show _ ≤ _; omega
    clear hp0 hq0 hN HPL hx1 hn100 hnl hml hcp hmp hcq hmq
    go_wp2_with fail
    (with_reducible refine (own04_any _ _ p HP.out HB.out HL.out).mono ?_); rintro e w2 ⟨vo, rfl, hvo, hx2⟩
    obtain ⟨ao, co, rfl, hco, hmo⟩ := hvo.shape
    rw [← HN.out] at hvo hco ⊢
    unfold maxLen at hmo
    have HO := Lib.hid hvo
    have HX2 := Lib.hid hx2
    clear hvo hx2
    go_wp2_with fail
    (with_reducible refine (normal_both _ _ p HO.out).mono ?_); rintro e w3 ⟨aa, ca, ua, rfl, hca, hma, hua, hown, hset, hx3⟩
    unfold maxLen at hma
    obtain ⟨L, hL⟩ : ∃ L, L = ua.length := ⟨_, rfl⟩
    have hLn : (nfP p).length = L := by rw [← hua, List.length_map, hL]
    rw [← hL] at hown hca ⊢
    have hra : PredR w3 (.slice aa L ca) (nfP p) := by rw [← hua]; exact PredR.mk ua (by rw [← hL]; exact Row.of_own hown) fun x hx => (hset x hx).set
    have HRA := Lib.hid hra
    have HOWN := Lib.hid hown
    have HSET := Lib.hid hset
    have HX3 := Lib.hid hx3
    have HLL := Lib.hid hL
    clear hra hown hset hx3 hL hua
    go_wp2_with fail
    (with_reducible refine (rnormal_both _ _ p (HP.out.ext (HX2.out.trans HX3.out))).mono ?_); rintro e w4 ⟨ab, cb, rfl, hb4, hx4⟩
    rw [hLn] at hb4 ⊢
    have HB4 := Lib.hid hb4
    have HX4 := Lib.hid hx4
    clear hb4 hx4 hLn
    generalize erP p = er at *
    have t1 : (er != er) = false := by simp
    have t2 : ((L : Int) != (L : Int)) = false := by simp
    have t3 : (mayP p != mayP p) = false := by simp
    have t4 : (cmpP p q != cmpP p q) = false := by simp
    have t5 : ((cmpP p q == 0) != (cmpP p q == 0)) = false := by simp
    have HS2 : Hid (∀ W, Ext w2 W → Calls Tryz.prog 11 #[.slice ao N co, .slice a1 q.length c1] W fun e w' => e = .returned (.bool (cmpP p q == 0)) ∧ Ext W w') := fun W hW => (psame_any W _ _ p q (HO.out.ext hW) (HQ.out.ext (HX2.out.trans hW))).mono fun _ _ h => ⟨h.1, h.2.1⟩
    go_wp2_with fail
    (with_reducible refine (rpcompare_any _ (.slice aa L ca) (.slice ab L cb) (nfP p) (nfP p) (HRA.out.ext HX4.out) HB4.out).mono ?_); rintro e w5 ⟨rfl, hx5⟩
    rw [wo_P.refl]
    have HX5 := Lib.hid (HX4.out.trans hx5); clear hx5 HX4
    go_wp2_with fail
    (with_reducible refine (pmay_any _ _ p (HO.out.ext (HX3.out.trans HX5.out))).mono ?_); rintro e w6 ⟨rfl, hx6⟩
    have HX6 := Lib.hid (HX5.out.trans hx6); clear hx6 HX5
    go_wp2_with fail
    (with_reducible refine (rpmay_any _ _ p (HP.out.ext ((HX2.out.trans HX3.out).trans HX6.out))).mono ?_); rintro e w7 ⟨rfl, hx7⟩
    have HX7 := Lib.hid (HX6.out.trans hx7); clear hx7 HX6
    go_wp2_with fail
    (with_reducible refine (pcompare_any _ _ _ p q (HO.out.ext (HX3.out.trans HX7.out)) (HQ.out.ext ((HX2.out.trans HX3.out).trans HX7.out))).mono ?_); rintro e w8 ⟨rfl, hx8, -⟩
    have HX8 := Lib.hid (HX7.out.trans hx8); clear hx8 HX7
    go_wp2_with fail
    (with_reducible refine (rpcompare_any _ _ _ p q (HP.out.ext ((HX2.out.trans HX3.out).trans HX8.out)) (HQ.out.ext ((HX2.out.trans HX3.out).trans HX8.out))).mono ?_); rintro e w9 ⟨rfl, hx9⟩
    have HX9 := Lib.hid (HX8.out.trans hx9); clear hx9 HX8
    go_wp2_with fail
    (with_reducible refine (HS2.out _ (HX3.out.trans HX9.out)).mono ?_); rintro e wA ⟨rfl, hxA⟩
    have HXA := Lib.hid (HX9.out.trans hxA); clear hxA HX9
    go_wp2_with fail
    (with_reducible refine (rpsame_any _ _ _ p q (HP.out.ext ((HX2.out.trans HX3.out).trans HXA.out)) (HQ.out.ext ((HX2.out.trans HX3.out).trans HXA.out))).mono ?_); rintro e wB ⟨rfl, hxB⟩
    have HXB := Lib.hid (HXA.out.trans hxB); clear hxB HXA
    generalize hz : cmpP p q = z at *
    clear hz HS2
    have HOW := Lib.hid (own_ext HOWN.out HXB.out)
    have HSM : Hid (∀ x ∈ ua, SetM w2.heap.size wB x.h x.c.set.length) := fun x hx => SetM.of ((HSET.out x hx).ext HXB.out)
    have HX2B := Lib.hid (HX3.out.trans HXB.out)
    have HLE : Hid (w2.heap.size ≤ wB.heap.size) := HX2B.out.size
    have HHS : Hid (∀ x ∈ ua, ∃ sa sc, x.h = .slice sa x.c.set.length sc ∧ x.c.set.length ≤ 9223372036854775807) := fun x hx => by obtain ⟨a, c, e, h1, h2⟩ := own_shape (HSET.out x hx); unfold maxLen at h2; exact ⟨a, c, e, by omega⟩
    clear HRA HOWN HSET HX3 HB4 HXB
    generalize nfP p = np at *
    go_wp2_with fail
    go_loopw [10, 11, 78] (fun _ _ i wr => ∃ k : Nat, k ≤ L ∧ i = .int .i64 k ∧ Hid (wr.ownsRow w2.heap.size 37 7 (.slice aa L ca) L (ua.flatMap csC)) ∧ Hid (∀ x ∈ ua, SetM w2.heap.size wr x.h x.c.set.length) ∧ Hid (Ext w2 wr)) (fun _ _ i _ => L - (intOf i).toNat)
    case atStart => exact ⟨0, Nat.zero_le _, rfl, HOW.out, HSM.out, HX2B.out⟩
    case round =>
      obtain ⟨k, hk, rfl, hown, hset, hx⟩ := hrel
      by_cases hlt : k < L
      · have hI : decide ((k : Int) < (L : Int)) = true := decide_eq_true (by omega)
        have hkL : (k : Int) < (L : Int) := by omega
        have hku : k < ua.length := by rw [← HLL.out]; exact hlt
        obtain ⟨sa, sc, hxh, hxl⟩ := HHS.out ua[k] (List.getElem_mem hku)
        have hmem : ua[k] ∈ ua := List.getElem_mem hku
        obtain ⟨B, o, rfl, hcell⟩ := cs_atP (Row.of_own hown.out) hku (by omega)
        have f6 := hcell 6 _ rfl (by decide)
        have f6' : wr.cell? ⟨B, o + k * 7 + 6, none⟩ = some (ua[k]).h := f6
        rw [hxh] at f6'
        clear hcell f6
        have hsx := hset.out _ hmem
        rw [hxh] at hsx
        have HSX : Hid (∀ W, SetM w2.heap.size W (ua[k]).h (ua[k]).c.set.length → SetM w2.heap.size W (.slice sa (ua[k]).c.set.length sc) (ua[k]).c.set.length) := fun W h => by rw [← hxh]; exact h
        have HMEM := Lib.hid hmem
        clear hmem hsx hxh
        generalize ua[k] = x at *
        obtain ⟨M, hM⟩ : ∃ M, M = x.c.set.length := ⟨_, rfl⟩
        have HMM := Lib.hid hM
        rw [← hM] at f6' HSX hxl
        clear hM
        go_wp2_with fail
        obtain ⟨wo, hwo⟩ : ∃ y : World, y = wr := ⟨_, rfl⟩
        subst hwo
        go_loopw [11, 87] (fun _ i wr => ∃ j : Nat, j ≤ M ∧ i = .int .i64 j ∧ Hid (wr.ownsRow w2.heap.size 37 7 (.slice (some ⟨B, o, none⟩) L ca) L (ua.flatMap csC)) ∧ Hid (∀ x ∈ ua, SetM w2.heap.size wr x.h x.c.set.length) ∧ Hid (Ext w2 wr) ∧ Hid (wr.cell? ⟨B, o + k * 7 + 6, none⟩ = some (.slice sa M sc))) (fun _ i _ => M - (intOf i).toNat)
        case atStart => exact ⟨0, Nat.zero_le _, rfl, hown.out, hset.out, hx.out, f6'⟩
        case round =>
          obtain ⟨j, hj, rfl, hown2, hset2, hx2, hf6⟩ := hrel
          by_cases hltj : j < M
          · have hJ : decide ((j : Int) < (M : Int)) = true := decide_eq_true (by omega)
            have hjM : (j : Int) < (M : Int) := by omega
            have hsm : SetM w2.heap.size wr (.slice sa M sc) M := HSX.out _ (by have h := hset2.out x HMEM.out; rw [← HMM.out] at h; exact h)
            obtain ⟨g, rfl, hbg, cs, hgc, hgs⟩ := (hsm _ _ _ rfl).2 (by omega)
            have hf6' := hf6.out
            obtain ⟨⟨u0, q0⟩, z0⟩ := cells_in hgc (i := j * 4) (by omega)
            obtain ⟨⟨u1, q1⟩, z1⟩ := cells_in hgc (i := j * 4 + 1) (by omega)
            obtain ⟨⟨u2, q2⟩, z2⟩ := cells_in hgc (i := j * 4 + 2) (by omega)
            obtain ⟨⟨u3, q3⟩, z3⟩ := cells_in hgc (i := j * 4 + 3) (by omega)
            go_wp2_with fail
            go_roundw
            case rel =>
              have hne : ∀ q, Value.ownBlock (.slice (some ⟨B, o, none⟩) L ca) = some q → some g ≠ some q := fun q hq e => own_ne hown2.out hgc (by decide) (hq.trans e.symm)
              have hgr := grown_setCells g [.int .i64 0, .int .i64 0, .string ⟨#[]⟩, .bool false] wr (j * 4)
              have hbl := hgr.block B (own_lt hown2.out B rfl) (fun e => hne B rfl e.symm)
              refine ⟨j + 1, hltj, by go_num, own_keep hown2.out hgr hne, fun y hy => SetM.setCells g [.int .i64 0, .int .i64 0, .string ⟨#[]⟩, .bool false] (hset2.out y hy) (j * 4), (ext_setCells g hbg [.int .i64 0, .int .i64 0, .string ⟨#[]⟩, .bool false] hx2.out (j * 4) : Ext w2 (wr.setCells g (j * 4) [.int .i64 0, .int .i64 0, .string ⟨#[]⟩, .bool false])), ?_⟩
              have hcl : (wr.setCells g (j * 4) [.int .i64 0, .int .i64 0, .string ⟨#[]⟩, .bool false]).cell? ⟨B, o + k * 7 + 6, none⟩ = wr.cell? ⟨B, o + k * 7 + 6, none⟩ := by unfold World.cell?; rw [hbl]
              exact hcl.trans hf6.out
            case measure => simp [intOf]; omega
          · obtain rfl : j = M := by omega
            have hJ : decide ((j : Int) < (j : Int)) = false := decide_eq_false (by omega)
            go_wp2_with fail
            go_roundw
            case rel => exact ⟨k + 1, hlt, by go_num, hown2.out, hset2.out, hx2.out⟩
            case measure => simp [intOf]; omega
      · obtain rfl : k = L := by omega
        have hI : decide ((k : Int) < (k : Int)) = false := decide_eq_false (by omega)
        have HXL := Lib.hid (HX2.out.trans hx.out)
        have HXO := Lib.hid hx.out
        obtain ⟨wo, hwo⟩ : ∃ y : World, y = wr := ⟨_, rfl⟩
        subst hwo
        clear hown hset hx HOW HSM HX2B HLE HHS
        have HO1 := Lib.hid (HO.out.ext HXO.out)
        have HP1 := Lib.hid (HP.out.ext HXL.out)
        have HW1 := Lib.hid ((HX1.out.trans HXL.out))
        clear HXO HXL HX1 HX2 HLL t1 t2 t3 t4 t5 HO HP HQ HB
        go_wp2_with fail
        go_loopw [12, 102] (fun _ i wr => ∃ k : Nat, k ≤ N ∧ i = .int .i64 k ∧ Hid (Ext wo wr)) (fun _ i _ => N - (intOf i).toNat)
        case atStart => exact ⟨0, Nat.zero_le _, rfl, Ext.refl _⟩
        case round =>
          obtain ⟨k2, hk2, rfl, hx⟩ := hrel
          by_cases hlt2 : k2 < N
          · have hI2 : decide ((k2 : Int) < (N : Int)) = true := decide_eq_true (by omega)
            have hkN : (k2 : Int) < (N : Int) := by omega
            have hkl : k2 < p.length := by rw [← HN.out]; exact hlt2
            obtain ⟨B1, o1, sa, sc, rfl, g0, g1, g2, g3, g4, g5, g6, gs⟩ := (HO1.out.ext hx.out).at hkl
            obtain ⟨B2, o2, sb, sd, rfl, f0, f1, f2, f3, f4, f5, f6, fs⟩ := (HP1.out.ext hx.out).at hkl
            have HFS := Lib.hid fs
            have HGS := Lib.hid gs
            clear fs gs
            generalize p[k2] = x at *
            have b1 : (mayC x != mayC x) = false := by simp
            have HR : Hid (∀ W, Ext wr W → Calls Tryz.prog 15 #[.agg #[.string (strOf x.name), .int .i64 x.op, .int .i64 x.v.k, .int .i64 x.v.n, .string (strOf x.v.s), .bool x.v.b, .slice sa x.set.length sc], .agg #[.string (strOf x.name), .int .i64 x.op, .int .i64 x.v.k, .int .i64 x.v.n, .string (strOf x.v.s), .bool x.v.b, .slice sb x.set.length sd]] W fun e w' => e = .returned (.int .i64 0) ∧ Ext W w') := fun W hW => by
              have h := rorder_any W x x sa sc sb sd (HGS.out.ext hW) (HFS.out.ext hW)
              rw [wo_C.refl] at h
              exact h
            go_upto_region 19 with fail
            refine wp_region_facts [Fact.eq (.slice (some ⟨B1, o1, none⟩) N co),
                Fact.eq (.int .i64 k2),
                Fact.eq (.pointer (some ⟨B1, o1 + k2 * 7, none⟩)),
                Fact.eq (.agg #[.string (strOf x.name), .int .i64 x.op, .int .i64 x.v.k, .int .i64 x.v.n, .string (strOf x.v.s), .bool x.v.b, .slice sa x.set.length sc]),
                Fact.eq (.bool (mayC x)),
                Fact.eq (.slice (some ⟨B2, o2, none⟩) N c0),
                Fact.eq (.int .i64 k2),
                Fact.eq (.pointer (some ⟨B2, o2 + k2 * 7, none⟩)),
                Fact.eq (.agg #[.string (strOf x.name), .int .i64 x.op, .int .i64 x.v.k, .int .i64 x.v.n, .string (strOf x.v.s), .bool x.v.b, .slice sb x.set.length sd]),
                Fact.eq (.bool (mayC x)),
                Fact.eq (.bool false),
                Fact.eq (.bool false),
                Fact.eq (.slice (some ⟨B1, o1, none⟩) N co),
                Fact.eq (.int .i64 k2),
                Fact.eq (.pointer (some ⟨B1, o1 + k2 * 7, none⟩)),
                Fact.eq (.agg #[.string (strOf x.name), .int .i64 x.op, .int .i64 x.v.k, .int .i64 x.v.n, .string (strOf x.v.s), .bool x.v.b, .slice sa x.set.length sc]),
                Fact.eq (.slice (some ⟨B2, o2, none⟩) N c0),
                Fact.eq (.int .i64 k2),
                Fact.eq (.pointer (some ⟨B2, o2 + k2 * 7, none⟩)),
                Fact.eq (.agg #[.string (strOf x.name), .int .i64 x.op, .int .i64 x.v.k, .int .i64 x.v.n, .string (strOf x.v.s), .bool x.v.b, .slice sb x.set.length sd]),
                Fact.eq (.int .i64 0),
                Fact.eq (.bool false),
                Fact.eq (.bool false)]
              [[], [], [(0, 105), (1, 106)], [(2, 107)], [(3, 108)], [], [], [(5, 110), (6, 111)], [(7, 112)], [(8, 113)], [(4, 109), (9, 114)], [(10, 115)], [(11, 116)], [(11, 116)], [(12, 117), (13, 118), (11, 116)], [(14, 119), (11, 116)], [(11, 116)], [(11, 116)], [(16, 121), (17, 122), (11, 116)], [(18, 123), (11, 116)], [(15, 120), (19, 124), (11, 116)], [(20, 125), (11, 116)], [(11, 116), (21, 126)]]
              [(0, 105), (1, 106), (2, 107), (3, 108), (4, 109), (5, 110), (6, 111), (7, 112), (8, 113), (9, 114), (10, 115), (11, 116), (12, 117), (13, 118), (14, 119), (15, 120), (16, 121), (17, 122), (18, 123), (19, 124), (20, 125), (21, 126), (22, 127)] (by kernel_rfl) (by kernel_rfl) ?_ ?_
            · refine ⟨?_, ?_, ?_, ?_, ?_, ?_, ?_, ?_, ?_, ?_, ?_, ?_, ?_, ?_, ?_, ?_, ?_, ?_, ?_, ?_, ?_, ?_, ?_, trivial⟩
              · intro w1 hx1; change wpList _ _ _ _ _ _; exact ob_move rfl rfl rfl rfl rfl
              · intro w1 hx1; change wpList _ _ _ _ _ _; exact ob_move rfl rfl rfl rfl rfl
              · intro w1 hx1; rintro _ rfl; rintro _ rfl; change wpList _ _ _ _ _ _; go_wp2_with fail; exact ⟨rfl, Ext.refl _, rfl, rfl⟩
              · intro w1 hx1; rintro _ rfl; change wpList _ _ _ _ _ _; have m0 := hx1.cell g0; have m1 := hx1.cell g1; have m2 := hx1.cell g2; have m3 := hx1.cell g3; have m4 := hx1.cell g4; have m5 := hx1.cell g5; have m6 := hx1.cell g6; go_wp2_with fail; exact ⟨rfl, Ext.refl _, rfl, rfl⟩
              · intro w1 hx1; rintro _ rfl; change wpList _ _ _ _ _ _; go_wp2_with fail; (with_reducible refine (maycons_any _ x sa sc (HGS.out.ext hx1)).mono ?_); rintro e w7 ⟨rfl, hx2⟩; go_wp2_with fail; exact ⟨rfl, hx2, rfl, rfl⟩
              · intro w1 hx1; change wpList _ _ _ _ _ _; exact ob_move rfl rfl rfl rfl rfl
              · intro w1 hx1; change wpList _ _ _ _ _ _; exact ob_move rfl rfl rfl rfl rfl
              · intro w1 hx1; rintro _ rfl; rintro _ rfl; change wpList _ _ _ _ _ _; go_wp2_with fail; exact ⟨rfl, Ext.refl _, rfl, rfl⟩
              · intro w1 hx1; rintro _ rfl; change wpList _ _ _ _ _ _; have m0 := hx1.cell f0; have m1 := hx1.cell f1; have m2 := hx1.cell f2; have m3 := hx1.cell f3; have m4 := hx1.cell f4; have m5 := hx1.cell f5; have m6 := hx1.cell f6; go_wp2_with fail; exact ⟨rfl, Ext.refl _, rfl, rfl⟩
              · intro w1 hx1; rintro _ rfl; change wpList _ _ _ _ _ _; go_wp2_with fail; (with_reducible refine (rmaycons_any _ x sb sd (HFS.out.ext hx1)).mono ?_); rintro e w7 ⟨rfl, hx2⟩; go_wp2_with fail; exact ⟨rfl, hx2, rfl, rfl⟩
              · intro w1 hx1; rintro _ rfl; rintro _ rfl; change wpList _ _ _ _ _ _; go_wp2_with fail; exact ⟨rfl, Ext.refl _, rfl, rfl⟩
              · intro w1 hx1; rintro _ rfl; change wpList _ _ _ _ _ _; exact ob_move rfl rfl rfl rfl rfl
              · intro w1 hx1; rintro _ rfl; change wpList _ _ _ _ _ _; exact ob_move rfl rfl rfl rfl rfl
              · intro w1 hx1; rintro _ rfl; change wpList _ _ _ _ _ _; exact ob_move rfl rfl rfl rfl rfl
              · intro w1 hx1; rintro _ rfl; rintro _ rfl; rintro _ rfl; change wpList _ _ _ _ _ _; go_wp2_with fail; exact ⟨rfl, Ext.refl _, rfl, rfl⟩
              · intro w1 hx1; rintro _ rfl; rintro _ rfl; change wpList _ _ _ _ _ _; have m0 := hx1.cell g0; have m1 := hx1.cell g1; have m2 := hx1.cell g2; have m3 := hx1.cell g3; have m4 := hx1.cell g4; have m5 := hx1.cell g5; have m6 := hx1.cell g6; go_wp2_with fail; exact ⟨rfl, Ext.refl _, rfl, rfl⟩
              · intro w1 hx1; rintro _ rfl; change wpList _ _ _ _ _ _; exact ob_move rfl rfl rfl rfl rfl
              · intro w1 hx1; rintro _ rfl; change wpList _ _ _ _ _ _; exact ob_move rfl rfl rfl rfl rfl
              · intro w1 hx1; rintro _ rfl; rintro _ rfl; rintro _ rfl; change wpList _ _ _ _ _ _; go_wp2_with fail; exact ⟨rfl, Ext.refl _, rfl, rfl⟩
              · intro w1 hx1; rintro _ rfl; rintro _ rfl; change wpList _ _ _ _ _ _; have m0 := hx1.cell f0; have m1 := hx1.cell f1; have m2 := hx1.cell f2; have m3 := hx1.cell f3; have m4 := hx1.cell f4; have m5 := hx1.cell f5; have m6 := hx1.cell f6; go_wp2_with fail; exact ⟨rfl, Ext.refl _, rfl, rfl⟩
              · intro w1 hx1; rintro _ rfl; rintro _ rfl; rintro _ rfl; change wpList _ _ _ _ _ _; go_wp2_with fail; (with_reducible refine (HR.out _ hx1).mono ?_); rintro e w7 ⟨rfl, hx2⟩; go_wp2_with fail; exact ⟨rfl, hx2, rfl, rfl⟩
              · intro w1 hx1; rintro _ rfl; rintro _ rfl; change wpList _ _ _ _ _ _; go_wp2_with fail; exact ⟨rfl, Ext.refl _, rfl, rfl⟩
              · intro w1 hx1; rintro _ rfl; rintro _ rfl; change wpList _ _ _ _ _ _; exact ob_pick rfl rfl rfl rfl rfl rfl
            · intro w1 hx1; rintro _ rfl; rintro _ rfl; rintro _ rfl; rintro _ rfl; rintro _ rfl; rintro _ rfl; rintro _ rfl; rintro _ rfl; rintro _ rfl; rintro _ rfl; rintro _ rfl; rintro _ rfl; rintro _ rfl; rintro _ rfl; rintro _ rfl; rintro _ rfl; rintro _ rfl; rintro _ rfl; rintro _ rfl; rintro _ rfl; rintro _ rfl; rintro _ rfl; rintro _ rfl; refine depsThen_nil ?_; dsimp only; simp only [Act.put, List.setIfInBounds_toArray, List.set_cons_zero, List.set_cons_succ]
              have HXN := Lib.hid (hx.out.trans hx1)
              clear g0 g1 g2 g3 g4 g5 g6 f0 f1 f2 f3 f4 f5 f6 hx hx1 HR
              go_wp2_with fail
              go_roundw
              case rel => exact ⟨k2 + 1, hlt2, by go_num, HXN.out⟩
              case measure => simp [intOf]; omega
          · obtain rfl : k2 = N := by omega
            have hI2 : decide ((k2 : Int) < (k2 : Int)) = false := decide_eq_false (by omega)
            go_wp2_with (go_at_call 16; (with_reducible refine (awake_any _).mono ?_); rintro e w7 ⟨rfl, hx7⟩)
            go_ret
            exact ⟨rfl, (HW1.out.trans hx.out).trans hx7⟩
end Go.Proofs.YtfkemgkbkhacmaaGreat
