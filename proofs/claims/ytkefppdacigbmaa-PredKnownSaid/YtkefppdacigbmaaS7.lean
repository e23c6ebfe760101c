/- slices.CompactFunc at constraints, with pred's own closure: what once does. -/
import Derived.Test.YtkefppdacigbmaaS5
import Derived.Test.YtkefppdacigbmaaO5
import Derived.Test.YtkefppdacigbmaaO6
import Derived.Deep.CutBlock
namespace Go.Proofs.Ytkefppdacigbmaa
open Go.RowKit Go.Sort

theorem own_ext {w w' : World} {base size n : Nat} {e : TypeId} {v : Value} {xs : List Value} (h : w.ownsRow base e size v n xs) (hx : Ext w w') : w'.ownsRow base e size v n xs := by
  refine ⟨h.1, ?_⟩
  rcases h.2 with h0 | ⟨g, cap, cur, e0, hb, hg, hn, hm, hs, ht⟩
  · exact .inl h0
  · exact .inr ⟨g, cap, cur, e0, hb, by rw [hx.block g (Array.getElem?_eq_some_iff.1 hg).1]; exact hg, hn, hm, hs, ht⟩
theorem grown_ext {w w' w2 : World} {row : Option Nat} (h : w.grownBy w' row) (hx : Ext w' w2) : w.grownBy w2 row :=
  ⟨hx.os.trans h.os, hx.tape.trans h.tape, hx.output.trans h.output, Nat.le_trans h.size hx.size, fun k hk hne => (hx.block k (Nat.lt_of_lt_of_le hk h.size)).trans (h.block k hk hne)⟩

theorem order_dec (a b : C) : decide (orderC a b = 0) = decide (a = b) := by
  rw [Bool.eq_iff_iff, decide_eq_true_iff, decide_eq_true_iff]
  exact ⟨order_zero, fun h => by rw [h]; exact wo_C.refl b⟩

set_option maxRecDepth 100000 in
set_option maxHeartbeats 2000000 in
theorem eq119_any (w : World) (a b : C) (sa : Option Addr) (ca : Nat) (sb : Option Addr) (cb : Nat) (ha : SetR w (.slice sa a.set.length ca) a.set) (hb : SetR w (.slice sb b.set.length cb) b.set) :
    Calls Try.prog 119 #[.agg #[.string (strOf a.name), .int .i64 a.op, .int .i64 a.v.k, .int .i64 a.v.n, .string (strOf a.v.s), .bool a.v.b, .slice sa a.set.length ca], .agg #[.string (strOf b.name), .int .i64 b.op, .int .i64 b.v.k, .int .i64 b.v.n, .string (strOf b.v.s), .bool b.v.b, .slice sb b.set.length cb]] w fun e w' => e = .returned (.bool (decide (a = b))) ∧ Grew w w' := by
  have hx0 : Grew w ((w.alloc (.cells #[.string (strOf a.name), .int .i64 a.op, .int .i64 a.v.k, .int .i64 a.v.n, .string (strOf a.v.s), .bool a.v.b, .slice sa a.set.length ca] 31)).alloc (.cells #[.string (strOf b.name), .int .i64 b.op, .int .i64 b.v.k, .int .i64 b.v.n, .string (strOf b.v.s), .bool b.v.b, .slice sb b.set.length cb] 31)) := ((Grew.refl w).alloc _).alloc _
  have hcall := order_any _ a b sa ca sb cb (ha.ext hx0.1) (hb.ext hx0.1)
  rw [← order_dec, ← beq_dec]
  have HC := Lib.hid hcall
  clear hcall ha hb
  generalize orderC a b = r at *
  go_enter Try.func119, Try.ntmps119
  go_wp2_with (go_at_call 65; refine HC.out.mono ?_; rintro e w' ⟨rfl, hx⟩)
  go_ret
  exact ⟨rfl, hx0.trans hx⟩
theorem ent119 : ∀ args w, (callFunc 119 args).run Try.prog w = .ok (.enter 119 args) w := enters_of Try.func119 (by kernel_rfl) rfl
theorem eq119_cs (w : World) (x y : CS) (hx : SetR w x.h x.c.set) (hy : SetR w y.h y.c.set) :
    Calls Try.prog 119 #[.agg #[.string (strOf x.c.name), .int .i64 x.c.op, .int .i64 x.c.v.k, .int .i64 x.c.v.n, .string (strOf x.c.v.s), .bool x.c.v.b, x.h], .agg #[.string (strOf y.c.name), .int .i64 y.c.op, .int .i64 y.c.v.k, .int .i64 y.c.v.n, .string (strOf y.c.v.s), .bool y.c.v.b, y.h]] w fun e w' => e = .returned (.bool (decide (x.c = y.c))) ∧ Grew w w' := by
  obtain ⟨a1, c1, e1, _, _⟩ := Row.shape hx
  obtain ⟨a2, c2, e2, _, _⟩ := Row.shape hy
  rw [e1] at hx
  rw [e2] at hy
  rw [e1, e2]
  exact eq119_any w x.c y.c a1 c1 a2 c2 hx hy

theorem cs_at {W : World} {g n cap : Nat} {us : List CS} (h : Row W 7 (.slice (some ⟨g, 0, none⟩) n cap) n (us.flatMap csC)) {k : Nat} (hk : k < us.length) (hn : k < n) :
    W.cell? ⟨g, k * 7, none⟩ = some (.string (strOf us[k].c.name)) ∧ W.cell? ⟨g, k * 7 + 1, none⟩ = some (.int .i64 us[k].c.op) ∧ W.cell? ⟨g, k * 7 + 2, none⟩ = some (.int .i64 us[k].c.v.k) ∧ W.cell? ⟨g, k * 7 + 3, none⟩ = some (.int .i64 us[k].c.v.n) ∧
      W.cell? ⟨g, k * 7 + 4, none⟩ = some (.string (strOf us[k].c.v.s)) ∧ W.cell? ⟨g, k * 7 + 5, none⟩ = some (.bool us[k].c.v.b) ∧ W.cell? ⟨g, k * 7 + 6, none⟩ = some us[k].h := by
  have gg := fun j hj => flat_get csC 7 csC_len us k hk j hj
  have q := fun j u hj (e : (csC us[k])[j]? = some u) => Row.cellAt h ((gg j hj).trans e) (by omega)
  simp only [Nat.zero_add] at q
  exact ⟨q 0 _ (by decide) rfl, q 1 _ (by decide) rfl, q 2 _ (by decide) rfl, q 3 _ (by decide) rfl, q 4 _ (by decide) rfl, q 5 _ (by decide) rfl, q 6 _ (by decide) rfl⟩

theorem cs_one (x : CS) (h : x.h.oneCell' = true) : (#[.string (strOf x.c.name), .int .i64 x.c.op, .int .i64 x.c.v.k, .int .i64 x.c.v.n, .string (strOf x.c.v.s), .bool x.c.v.b, x.h] : Array Value).all (·.oneCell') = true :=
  all_oneCell_toArray (cs := csC x) fun u hu => csC_one [x] (fun y hy => by rw [List.mem_singleton.1 hy]; exact h) u (by simpa using hu)

set_option maxRecDepth 100000 in
set_option maxHeartbeats 8000000 in
theorem compactC_any (w : World) (base : Nat) (v : Value) (us : List CS) (ho : w.ownsRow base 31 7 v us.length (us.flatMap csC)) (hl : us.length ≤ 1000000) (hs : ∀ x ∈ us, SetR w x.h x.c.set ∧ x.h.ownBlock ≠ v.ownBlock) :
    Calls Try.prog 118 #[v, .func (.func 119) #[] #[]] w fun e w' => ∃ v', e = .returned v' ∧ w'.ownsRow base 31 7 v' (compF CS.c us).length ((compF CS.c us).flatMap csC) ∧ w.grownBy w' v.ownBlock ∧ v'.ownBlock = v.ownBlock := by
  by_cases h2 : us.length < 2
  · have hce : compF CS.c us = us := by
      match us, h2 with
      | [], _ => exact compF_nil
      | [x], _ => exact compF_one x
    rw [hce]
    obtain ⟨a, cap, rfl, hc, hm⟩ := Row.shape (Row.of_own ho)
    have hd : decide ((us.length : Int) < 2) = true := decide_eq_true (by omega)
    have HO := Lib.hid ho
    clear ho hce hs
    generalize us.length = n at *
    go_enter Try.func118, Try.ntmps118
    go_wp2
    go_ret
    exact ⟨_, rfl, HO.out, ⟨rfl, rfl, rfl, Nat.le_refl _, fun _ _ _ => rfl⟩, rfl⟩
  · have hne : v ≠ .slice none 0 0 := by
      rintro rfl
      obtain ⟨_, _, e1, _, _⟩ := Row.shape (Row.of_own ho)
      simp only [Value.slice.injEq] at e1
      omega
    rcases ho.2 with ⟨e0, _⟩ | ⟨g, cap, cur, rfl, hb, hg, hn, hm, hs', ht⟩
    · exact absurd e0 hne
    clear hne cur hg hs' ht
    have hd : decide ((us.length : Int) < 2) = false := decide_eq_false (by omega)
    have hS : ∀ (wr : World) (x : CS), w.grownBy wr (some g) → x ∈ us → SetR wr x.h x.c.set := fun wr x hg hx => Row.keep (hs x hx).1 hg (.inl (hs x hx).2)
    have HO := Lib.hid ho
    clear ho hs
    have HSET := Lib.hid hS
    clear hS
    generalize hN : us.length = n at *
    have HN := Lib.hid hN
    clear hN
    go_enter Try.func118, Try.ntmps118
    go_wp2_with fail
    go_loopw [5] (fun i wr => ∃ k : Nat, 1 ≤ k ∧ k ≤ n ∧ i = .int .i64 k ∧ Hid (compF CS.c (us.take k) = us.take k) ∧ Hid (wr.ownsRow base 31 7 (.slice (some ⟨g, 0, none⟩) n cap) n (us.flatMap csC)) ∧ Hid (w.grownBy wr (some g))) (fun i _ => n - (intOf i).toNat)
    case atStart =>
      refine ⟨1, Nat.le_refl _, by omega, rfl, ?_, HO, ⟨rfl, rfl, rfl, Nat.le_refl _, fun _ _ _ => rfl⟩⟩
      show compF CS.c (us.take 1) = us.take 1
      match us, HN.out with
      | [], _ => exact compF_nil
      | x :: r, _ => exact compF_one x
    case round =>
      obtain ⟨k, hk1, hk, rfl, hc, hown, hgr⟩ := hrel
      by_cases hlt : k < n
      · have hI : decide ((k : Int) < (n : Int)) = true := decide_eq_true (by omega)
        have k1 : k < us.length := by rw [HN.out]; exact hlt
        have k0 : k - 1 < us.length := by omega
        have hrow := Row.of_own hown.out
        obtain ⟨f0, f1, f2, f3, f4, f5, f6⟩ := cs_at hrow k1 hlt
        obtain ⟨g0, g1, g2, g3, g4, g5, g6⟩ := cs_at hrow k0 (by omega)
        have hsx := HSET.out wr us[k] hgr.out (List.getElem_mem k1)
        have hsy := HSET.out wr us[k - 1] hgr.out (List.getElem_mem k0)
        have hi0 : (0 : Int) ≤ (k : Int) - 1 := by omega
        have hi1 : (k : Int) - 1 < (n : Int) := by omega
        have hi2 : ((k : Int) - 1).toNat = k - 1 := by omega
        obtain ⟨E, hE⟩ : ∃ E : Bool, E = decide (us[k].c = us[k - 1].c) := ⟨_, rfl⟩
        have HE := Lib.hid hE
        clear hE hrow
        have hcall : ∀ W, Grew wr W → Calls Try.prog 119 #[.agg #[.string (strOf us[k].c.name), .int .i64 us[k].c.op, .int .i64 us[k].c.v.k, .int .i64 us[k].c.v.n, .string (strOf us[k].c.v.s), .bool us[k].c.v.b, us[k].h], .agg #[.string (strOf us[k - 1].c.name), .int .i64 us[k - 1].c.op, .int .i64 us[k - 1].c.v.k, .int .i64 us[k - 1].c.v.n, .string (strOf us[k - 1].c.v.s), .bool us[k - 1].c.v.b, us[k - 1].h]] W fun e w' => e = .returned (.bool E) ∧ Grew W w' := fun W hW => by
          rw [HE.out]
          exact eq119_cs W us[k] us[k - 1] (hsx.ext hW.1) (hsy.ext hW.1)
        clear hsx hsy
        have HE2 : Hid (E = decide (us[k].c = us[k - 1].c)) := HE.out
        clear HE
        generalize hx : us[k] = x at *
        generalize hy : us[k - 1] = y at *
        have HX := Lib.hid hx
        have HY := Lib.hid hy
        clear hx hy
        go_upto_region 6 with fail
        go_cut [28] from 18 to 28 (fun v28 wx => v28 = .bool E ∧ ∃ w1, w1 = wx ∧ Grew wr w1)
        case first =>
          clear HO HSET HN HX HY HE2 hc hown hgr
          refine Rg.wp_region_facts GrewS [Rg.Fact.eq _ (.func (.func 119) #[] #[]),
              Rg.Fact.eq _ (.slice (some ⟨g, 0, none⟩) n cap),
              Rg.Fact.eq _ (.int .i64 k),
              Rg.Fact.eq _ (.pointer (some ⟨g, k * 7, none⟩)),
              Rg.Fact.eq _ (.agg #[.string (strOf x.c.name), .int .i64 x.c.op, .int .i64 x.c.v.k, .int .i64 x.c.v.n, .string (strOf x.c.v.s), .bool x.c.v.b, x.h]),
              Rg.Fact.eq _ (.slice (some ⟨g, 0, none⟩) n cap),
              Rg.Fact.eq _ (.int .i64 k),
              Rg.Fact.eq _ (.int .i64 ((k : Int) - 1)),
              Rg.Fact.eq _ (.pointer (some ⟨g, (k - 1) * 7, none⟩)),
              Rg.Fact.eq _ (.agg #[.string (strOf y.c.name), .int .i64 y.c.op, .int .i64 y.c.v.k, .int .i64 y.c.v.n, .string (strOf y.c.v.s), .bool y.c.v.b, y.h]),
              Rg.Fact.eq _ (.bool E)]
            [[], [], [], [(1, 19), (2, 20)], [(3, 21)], [], [], [(6, 24)], [(5, 23), (7, 25)], [(8, 26)], [(0, 18), (4, 22), (9, 27)]]
            [(0, 18), (1, 19), (2, 20), (3, 21), (4, 22), (5, 23), (6, 24), (7, 25), (8, 26), (9, 27), (10, 28)] (by kernel_rfl) (by kernel_rfl) ?_ ?_
          · refine ⟨?_, ?_, ?_, ?_, ?_, ?_, ?_, ?_, ?_, ?_, ?_, trivial⟩
            · intro w1 hx1; change wpList _ _ _ _ _ _; exact Rg.ob_move _ rfl rfl rfl rfl rfl
            · intro w1 hx1; change wpList _ _ _ _ _ _; exact Rg.ob_move _ rfl rfl rfl rfl rfl
            · intro w1 hx1; change wpList _ _ _ _ _ _; exact Rg.ob_move _ rfl rfl rfl rfl rfl
            · intro w1 hx1; rintro _ rfl; rintro _ rfl; change wpList _ _ _ _ _ _; go_wp2_with fail; exact ⟨rfl, GrewS.refl _, rfl, rfl⟩
            · intro w1 hx1; rintro _ rfl; change wpList _ _ _ _ _ _; have m0 := hx1.1.cell f0; have m1 := hx1.1.cell f1; have m2 := hx1.1.cell f2; have m3 := hx1.1.cell f3; have m4 := hx1.1.cell f4; have m5 := hx1.1.cell f5; have m6 := hx1.1.cell f6; go_wp2_with fail; exact ⟨rfl, GrewS.refl _, rfl, rfl⟩
            · intro w1 hx1; change wpList _ _ _ _ _ _; exact Rg.ob_move _ rfl rfl rfl rfl rfl
            · intro w1 hx1; change wpList _ _ _ _ _ _; exact Rg.ob_move _ rfl rfl rfl rfl rfl
            · intro w1 hx1; rintro _ rfl; change wpList _ _ _ _ _ _; go_wp2_with fail; exact ⟨rfl, GrewS.refl _, rfl, rfl⟩
            · intro w1 hx1; rintro _ rfl; rintro _ rfl; change wpList _ _ _ _ _ _; go_wp2_with fail; exact ⟨rfl, GrewS.refl _, rfl, rfl⟩
            · intro w1 hx1; rintro _ rfl; change wpList _ _ _ _ _ _; have m0 := hx1.1.cell g0; have m1 := hx1.1.cell g1; have m2 := hx1.1.cell g2; have m3 := hx1.1.cell g3; have m4 := hx1.1.cell g4; have m5 := hx1.1.cell g5; have m6 := hx1.1.cell g6; go_wp2_with fail; exact ⟨rfl, GrewS.refl _, rfl, rfl⟩
            · intro w1 hx1; rintro _ rfl; rintro _ rfl; rintro _ rfl; change wpList _ _ _ _ _ _; go_wp2_with fail; refine (hcall w1 hx1).mono ?_; rintro e w2 ⟨rfl, hx2⟩; go_wp2_with fail; exact ⟨rfl, hx2, rfl, rfl⟩
          · intro w1 hx1; rintro _ rfl; rintro _ rfl; rintro _ rfl; rintro _ rfl; rintro _ rfl; rintro _ rfl; rintro _ rfl; rintro _ rfl; rintro _ rfl; rintro _ rfl; rintro _ rfl; refine depsThen_nil ?_; dsimp only; simp only [Act.put, List.setIfInBounds_toArray, List.set_cons_zero, List.set_cons_succ]
            go_wp2_with fail
            go_meet
            exact ⟨rfl, _, rfl, hx1⟩
        case rest =>
          obtain ⟨rfl, w1, rfl, hx1⟩ := hcut
          clear f0 f1 f2 f3 f4 f5 f6 g0 g1 g2 g3 g4 g5 g6 hcall hi0 hi1 hi2
          obtain ⟨m, rfl⟩ : ∃ m, k = m + 1 := ⟨k - 1, by omega⟩
          have hct := compF_take (f := CS.c) (l := us) (n := m) k1
          have hxe : us[m + 1] = x := HX.out
          have hye : us[m] = y := HY.out
          have hown1 := Lib.hid (own_ext hown.out hx1.1)
          have hgr1 := Lib.hid (grown_ext hgr.out hx1.1)
          clear hown hgr
          cases E
          · have hne : us[m + 1].c ≠ us[m].c := by rw [hxe, hye]; exact of_decide_eq_false HE2.out.symm
            have hc2 : Hid (compF CS.c (us.take (m + 1 + 1)) = us.take (m + 1 + 1)) := by
              show _ = _
              rw [hct, if_neg hne, hc.out, ← List.take_succ_eq_append_getElem k1]
            clear hct hne HE2 hxe hye
            go_wp2_with fail
            go_roundw
            case rel => exact ⟨m + 2, by omega, by omega, by go_num, hc2, hown1.out, hgr1.out⟩
            case measure => simp [intOf]; omega
          · have heq : us[m + 1].c = us[m].c := by rw [hxe, hye]; exact of_decide_eq_true HE2.out.symm
            have hstart : Hid (CompInvF CS.c us us (m + 1) (m + 1 + 1)) := CompInvF.start k1 hc.out heq
            clear hct heq HE2 hxe hye HX HY
            have hcapn : m + 1 < cap := by omega
            have hne : ¬ cap = m + 1 := by omega
            go_wp2_with fail
            obtain ⟨d, hd⟩ : ∃ d, d = n - (m + 1) := ⟨_, rfl⟩
            obtain ⟨ce, hce⟩ : ∃ ce, ce = cap - (m + 1) := ⟨_, rfl⟩
            rw [← hd, ← hce]
            have hd1 : m + 1 + d = n := by omega
            have HD1 := Lib.hid hd1
            have hmn : m + 1 + d ≤ n := by omega
            have hd2 : d ≤ 1000000 := by omega
            have hd3 : d ≤ ce := by omega
            have hq0 : m + 1 ≤ n := by omega
            clear hd hce hd1 hx1
            go_loopw [5, 7] (fun kk jj wr => ∃ (q j : Nat) (r : List CS), 1 ≤ j ∧ j ≤ d ∧ q + 1 ≤ m + 1 + j ∧ kk = .int .i64 q ∧ jj = .int .i64 j ∧ Hid (CompInvF CS.c us r q (m + 1 + j)) ∧ Hid (wr.ownsRow base 31 7 (.slice (some ⟨g, 0, none⟩) n cap) n (r.flatMap csC)) ∧ Hid (w.grownBy wr (some g))) (fun _ jj _ => d - (intOf jj).toNat)
            case atStart => exact ⟨m + 1, 1, us, Nat.le_refl _, by have := HD1.out; omega, by omega, rfl, rfl, hstart, hown1.out, hgr1.out⟩
            case round =>
              clear hstart hown1 hgr1 hc hk1 hk
              obtain ⟨q, j, r, hj1, hj, hq, rfl, rfl, hinv, hown, hgr⟩ := hrel
              by_cases hlt2 : j < d
              · have hI2 : decide ((j : Int) < (d : Int)) = true := decide_eq_true (by omega)
                have hil : m + 1 + j < us.length := by rw [HN.out]; have := HD1.out; omega
                have k0 : m + 1 + j - 1 < us.length := by omega
                obtain ⟨r1, r2, er1, er2⟩ := hinv.out.at hil
                have hlr2 : n ≤ r.length := by have := hinv.out.len; have := HN.out; omega
                have hrow := Row.of_own hown.out
                obtain ⟨f0, f1, f2, f3, f4, f5, f6⟩ := cs_at hrow r1 (by omega)
                obtain ⟨g0, g1, g2, g3, g4, g5, g6⟩ := cs_at hrow r2 (by omega)
                rw [er1] at f0 f1 f2 f3 f4 f5 f6
                rw [er2] at g0 g1 g2 g3 g4 g5 g6
                have hsx := HSET.out wr us[m + 1 + j] hgr.out (List.getElem_mem hil)
                have hsy := HSET.out wr (us[m + 1 + j - 1]'k0) hgr.out (List.getElem_mem k0)
                have ea : (m + 1 + j) * 7 = (m + 1) * 7 + j * 7 := by omega
                have eb : (m + 1 + j - 1) * 7 = (m + 1) * 7 + (j - 1) * 7 := by omega
                simp only [ea] at f0 f1 f2 f3 f4 f5 f6
                simp only [eb] at g0 g1 g2 g3 g4 g5 g6
                obtain ⟨E, hE⟩ : ∃ E : Bool, E = decide (us[m + 1 + j].c = (us[m + 1 + j - 1]'k0).c) := ⟨_, rfl⟩
                have HE := Lib.hid hE
                have hsame := fun h => hinv.out.same hil h
                have hnext := fun h => hinv.out.next hil h
                have HS := Lib.hid hsame
                have HX := Lib.hid hnext
                have hcall : ∀ W, Grew wr W → Calls Try.prog 119 #[.agg #[.string (strOf us[m + 1 + j].c.name), .int .i64 us[m + 1 + j].c.op, .int .i64 us[m + 1 + j].c.v.k, .int .i64 us[m + 1 + j].c.v.n, .string (strOf us[m + 1 + j].c.v.s), .bool us[m + 1 + j].c.v.b, us[m + 1 + j].h], .agg #[.string (strOf (us[m + 1 + j - 1]'k0).c.name), .int .i64 (us[m + 1 + j - 1]'k0).c.op, .int .i64 (us[m + 1 + j - 1]'k0).c.v.k, .int .i64 (us[m + 1 + j - 1]'k0).c.v.n, .string (strOf (us[m + 1 + j - 1]'k0).c.v.s), .bool (us[m + 1 + j - 1]'k0).c.v.b, (us[m + 1 + j - 1]'k0).h]] W fun e w' => e = .returned (.bool E) ∧ Grew W w' := fun W hW => by
                  rw [HE.out]
                  exact eq119_cs W _ _ (hsx.ext hW.1) (hsy.ext hW.1)
                have HXO := Lib.hid (set_one hsx)
                clear hE ea eb er1 er2 r1 r2 hrow hsx hsy hsame hnext hinv
                generalize us[m + 1 + j] = x at *
                generalize us[m + 1 + j - 1]'k0 = y at *
                have hi0 : (0 : Int) ≤ (j : Int) - 1 := by omega
                have hi1 : (j : Int) - 1 < (d : Int) := by omega
                have hi2 : ((j : Int) - 1).toNat = j - 1 := by omega
                go_upto_region 11 with fail
                go_cut [49] from 38 to 49 (fun v49 wx => v49 = .bool (!E) ∧ ∃ w1, w1 = wx ∧ Grew wr w1)
                case first =>
                  clear HO HSET HN HX HS HE HD1 HXO hown hgr
                  refine Rg.wp_region_facts GrewS [Rg.Fact.eq _ (.func (.func 119) #[] #[]),
                      Rg.Fact.eq _ (.slice (some ⟨g, (m + 1) * 7, none⟩) d ce),
                      Rg.Fact.eq _ (.int .i64 j),
                      Rg.Fact.eq _ (.pointer (some ⟨g, (m + 1) * 7 + j * 7, none⟩)),
                      Rg.Fact.eq _ (.agg #[.string (strOf x.c.name), .int .i64 x.c.op, .int .i64 x.c.v.k, .int .i64 x.c.v.n, .string (strOf x.c.v.s), .bool x.c.v.b, x.h]),
                      Rg.Fact.eq _ (.slice (some ⟨g, (m + 1) * 7, none⟩) d ce),
                      Rg.Fact.eq _ (.int .i64 j),
                      Rg.Fact.eq _ (.int .i64 ((j : Int) - 1)),
                      Rg.Fact.eq _ (.pointer (some ⟨g, (m + 1) * 7 + (j - 1) * 7, none⟩)),
                      Rg.Fact.eq _ (.agg #[.string (strOf y.c.name), .int .i64 y.c.op, .int .i64 y.c.v.k, .int .i64 y.c.v.n, .string (strOf y.c.v.s), .bool y.c.v.b, y.h]),
                      Rg.Fact.eq _ (.bool E),
                      Rg.Fact.eq _ (.bool (!E))]
                    [[], [], [], [(1, 39), (2, 40)], [(3, 41)], [], [], [(6, 44)], [(5, 43), (7, 45)], [(8, 46)], [(0, 38), (4, 42), (9, 47)], [(10, 48)]]
                    [(0, 38), (1, 39), (2, 40), (3, 41), (4, 42), (5, 43), (6, 44), (7, 45), (8, 46), (9, 47), (10, 48), (11, 49)] (by kernel_rfl) (by kernel_rfl) ?_ ?_
                  · refine ⟨?_, ?_, ?_, ?_, ?_, ?_, ?_, ?_, ?_, ?_, ?_, ?_, trivial⟩
                    · intro w1 hx1; change wpList _ _ _ _ _ _; exact Rg.ob_move _ rfl rfl rfl rfl rfl
                    · intro w1 hx1; change wpList _ _ _ _ _ _; exact Rg.ob_move _ rfl rfl rfl rfl rfl
                    · intro w1 hx1; change wpList _ _ _ _ _ _; exact Rg.ob_move _ rfl rfl rfl rfl rfl
                    · intro w1 hx1; rintro _ rfl; rintro _ rfl; change wpList _ _ _ _ _ _; go_wp2_with fail; exact ⟨rfl, GrewS.refl _, rfl, rfl⟩
                    · intro w1 hx1; rintro _ rfl; change wpList _ _ _ _ _ _; have m0 := hx1.1.cell f0; have m1 := hx1.1.cell f1; have m2 := hx1.1.cell f2; have m3 := hx1.1.cell f3; have m4 := hx1.1.cell f4; have m5 := hx1.1.cell f5; have m6 := hx1.1.cell f6; go_wp2_with fail; exact ⟨rfl, GrewS.refl _, rfl, rfl⟩
                    · intro w1 hx1; change wpList _ _ _ _ _ _; exact Rg.ob_move _ rfl rfl rfl rfl rfl
                    · intro w1 hx1; change wpList _ _ _ _ _ _; exact Rg.ob_move _ rfl rfl rfl rfl rfl
                    · intro w1 hx1; rintro _ rfl; change wpList _ _ _ _ _ _; go_wp2_with fail; exact ⟨rfl, GrewS.refl _, rfl, rfl⟩
                    · intro w1 hx1; rintro _ rfl; rintro _ rfl; change wpList _ _ _ _ _ _; go_wp2_with fail; exact ⟨rfl, GrewS.refl _, rfl, rfl⟩
                    · intro w1 hx1; rintro _ rfl; change wpList _ _ _ _ _ _; have m0 := hx1.1.cell g0; have m1 := hx1.1.cell g1; have m2 := hx1.1.cell g2; have m3 := hx1.1.cell g3; have m4 := hx1.1.cell g4; have m5 := hx1.1.cell g5; have m6 := hx1.1.cell g6; go_wp2_with fail; exact ⟨rfl, GrewS.refl _, rfl, rfl⟩
                    · intro w1 hx1; rintro _ rfl; rintro _ rfl; rintro _ rfl; change wpList _ _ _ _ _ _; go_wp2_with fail; refine (hcall w1 hx1).mono ?_; rintro e w2 ⟨rfl, hx2⟩; go_wp2_with fail; exact ⟨rfl, hx2, rfl, rfl⟩
                    · intro w1 hx1; rintro _ rfl; change wpList _ _ _ _ _ _; go_wp2_with fail; exact ⟨rfl, GrewS.refl _, rfl, rfl⟩
                  · intro w1 hx1; rintro _ rfl; rintro _ rfl; rintro _ rfl; rintro _ rfl; rintro _ rfl; rintro _ rfl; rintro _ rfl; rintro _ rfl; rintro _ rfl; rintro _ rfl; rintro _ rfl; rintro _ rfl; refine depsThen_nil ?_; dsimp only; simp only [Act.put, List.setIfInBounds_toArray, List.set_cons_zero, List.set_cons_succ]
                    go_wp2_with fail
                    go_meet
                    exact ⟨rfl, _, rfl, hx1⟩
                case rest =>
                  obtain ⟨rfl, w1, rfl, hx1⟩ := hcut
                  have hown1 := Lib.hid (own_ext hown.out hx1.1)
                  have hgr1 := Lib.hid (grown_ext hgr.out hx1.1)
                  clear hown hgr hcall g0 g1 g2 g3 g4 g5 g6 hi0 hi1 hi2
                  cases E
                  · have hxy := of_decide_eq_false HE.out.symm
                    have hinv2 := Lib.hid (HX.out hxy)
                    clear hxy HS HX HE
                    have hql : q < r.length := by omega
                    have hth := own_there hown1.out q 7 (by omega)
                    have hset3 := own_set csC csC_len hown1.out q hql x
                    obtain ⟨wz, hwz⟩ : ∃ wz, w1.setCells g (q * 7) (csC x) = wz := ⟨_, rfl⟩
                    rw [hwz] at hset3
                    have HWZ := Lib.hid hwz
                    clear hwz
                    have HS3 := Lib.hid hset3.1
                    have HG3 := Lib.hid hset3.2
                    clear hset3
                    have f0 := hx1.1.cell f0; have f1 := hx1.1.cell f1; have f2 := hx1.1.cell f2; have f3 := hx1.1.cell f3; have f4 := hx1.1.cell f4; have f5 := hx1.1.cell f5; have f6 := hx1.1.cell f6
                    have hqn : q < n := by omega
                    clear hx1
                    have hone := cs_one x HXO.out
                    go_wp2_with (refine wpList_store_mid rfl 31 (.tmp 56) (.tmp 55) rfl g (q * 7) #[.string (strOf x.c.name), .int .i64 x.c.op, .int .i64 x.c.v.k, .int .i64 x.c.v.n, .string (strOf x.c.v.s), .bool x.c.v.b, x.h] rfl rfl hth size31 hone ?_; rw [show w1.setCells g (q * 7) (#[.string (strOf x.c.name), .int .i64 x.c.op, .int .i64 x.c.v.k, .int .i64 x.c.v.n, .string (strOf x.c.v.s), .bool x.c.v.b, x.h] : Array Value).toList = wz from HWZ.out])
                    go_roundw
                    case rel => (repeat apply Exists.intro); refine ⟨?_, rfl⟩; exact ⟨q + 1, j + 1, r.set q x, by omega, hlt2, by omega, by go_num, by go_num, hinv2, HS3.out, hgr1.out.trans HG3.out⟩
                    case measure => simp [intOf]; omega
                  · have hxy := of_decide_eq_true HE.out.symm
                    have hinv2 := Lib.hid (HS.out hxy)
                    clear hxy HS HX HE f0 f1 f2 f3 f4 f5 f6
                    clear hx1
                    go_wp2_with fail
                    go_roundw
                    case rel => exact ⟨q, j + 1, r, by omega, hlt2, by omega, rfl, by go_num, hinv2, hown1.out, hgr1.out⟩
                    case measure => simp [intOf]; omega
              · obtain rfl : j = d := by omega
                have hI2 : decide ((j : Int) < (j : Int)) = false := decide_eq_false (by omega)
                have hdone := hinv.out
                rw [HD1.out, ← HN.out] at hdone
                obtain ⟨ht, hlen⟩ := hdone.done
                have hqn : q < n := by omega
                have hqc : ¬ cap = q := by omega
                have hqc2 : q ≤ cap := by omega
                have hcl := run_clear_tail hown.out 80 (.agg #[.string ⟨#[]⟩, .int .i64 0, .int .i64 0, .int .i64 0, .string ⟨#[]⟩, .bool false, .slice none 0 0]) rfl (by simp [Value.cells, Value.oneCell']) Try.underlying80 zero31 q (cap - q) hqn
                have hfin := own_clear_tail hown.out (Nat.le_of_lt hqn) (.agg #[.string ⟨#[]⟩, .int .i64 0, .int .i64 0, .int .i64 0, .string ⟨#[]⟩, .bool false, .slice none 0 0]) rfl
                have hres : Hid ((r.flatMap csC).take (q * 7) = (compF CS.c us).flatMap csC) := by show _ = _; rw [flat_take csC 7 csC_len, ht]
                have HL := Lib.hid hlen
                have HF := Lib.hid hfin
                generalize wr.setCells g (q * 7) (Builtin.zeroCells (Value.agg #[.string ⟨#[]⟩, .int .i64 0, .int .i64 0, .int .i64 0, .string ⟨#[]⟩, .bool false, .slice none 0 0]).cells (n - q)).toList = wz at *
                clear ht hlen hfin hinv hdone
                go_wp2_with fail
                go_ret
                refine ⟨_, rfl, ?_, hgr.out.trans HF.out.2, rfl⟩
                rw [HL.out, ← hres.out]
                exact HF.out.1
      · obtain rfl : k = n := by omega
        have hI : decide ((k : Int) < (k : Int)) = false := decide_eq_false (by omega)
        have hce : Hid (compF CS.c us = us) := by
          have h := hc.out
          rw [List.take_of_length_le (by rw [HN.out]; exact Nat.le_refl _)] at h
          exact h
        go_wp2_with fail
        go_ret
        refine ⟨_, rfl, ?_, hgr.out, rfl⟩
        rw [hce.out, HN.out]
        exact hown.out
end Go.Proofs.Ytkefppdacigbmaa
