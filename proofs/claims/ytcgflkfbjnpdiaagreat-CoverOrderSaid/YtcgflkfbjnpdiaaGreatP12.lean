/- slices.CompactFunc at constraints, with pred's own closure: what once does.
Boxes that a function makes as it begins.
slices.DeleteFunc at spans.
Cuts: past.
Regions where they lie: Empty, whole. -/
import Derived.Deep.CutBlock
import Derived.LoopTactic
import Derived.WalkSpells
import Derived.Lib.ConvBytes
import Derived.Test.YtcgflkfbjnpdiaaGreatP11
import Derived.Test.YtcgflkfbjnpdiaaGreatP3
import Derived.Test.YtcgflkfbjnpdiaaGreatP1
import Derived.Test.YtcgflkfbjnpdiaaGreatP8
import Derived.Test.YtcgflkfbjnpdiaaGreatP6
namespace Go.Proofs.YtcgflkfbjnpdiaaGreat
open Go.RowKit Go.Sort

theorem own_ext {w w' : World} {base size n : Nat} {e : TypeId} {v : Value} {xs : List Value} (h : w.ownsRow base e size v n xs) (hx : Ext w w') : w'.ownsRow base e size v n xs := by
  refine ⟨h.1, ?_⟩
  rcases h.2 with h0 | ⟨g, cap, cur, e0, hb, hg, hn, hm, hs, ht⟩
  · exact .inl h0
  · exact .inr ⟨g, cap, cur, e0, hb, by rw [hx.block g (Array.getElem?_eq_some_iff.1 hg).1]; exact hg, hn, hm, hs, ht⟩
theorem grown_ext {w w' w2 : World} {row : Option Nat} (h : w.grownBy w' row) (hx : Ext w' w2) : w.grownBy w2 row :=
  ⟨hx.os.trans h.os, hx.tape.trans h.tape, hx.output.trans h.output, Nat.le_trans h.size hx.size, fun k hk hne => (hx.block k (Nat.lt_of_lt_of_le hk h.size)).trans (h.block k hk hne)⟩

theorem order_dec (a b : C) : decide (orderC a b = 0) = decide (a = b) := by
  rw [Bool.eq_iff_iff, decide_eq_true_iff, decide_eq_true_iff]
  exact ⟨order_zero, fun h => by rw [h]; exact wo_C.refl b⟩

set_option maxRecDepth 100000 in
set_option maxHeartbeats 2000000 in
theorem eq119_any (w : World) (a b : C) (sa : Option Addr) (ca : Nat) (sb : Option Addr) (cb : Nat) (ha : SetR w (.slice sa a.set.length ca) a.set) (hb : SetR w (.slice sb b.set.length cb) b.set) :
    Calls Tryz.prog 65 #[.agg #[.string (strOf a.name), .int .i64 a.op, .int .i64 a.v.k, .int .i64 a.v.n, .string (strOf a.v.s), .bool a.v.b, .slice sa a.set.length ca], .agg #[.string (strOf b.name), .int .i64 b.op, .int .i64 b.v.k, .int .i64 b.v.n, .string (strOf b.v.s), .bool b.v.b, .slice sb b.set.length cb]] w fun e w' => e = .returned (.bool (decide (a = b))) ∧ Grew w w' := by
  have hx0 : Grew w ((w.alloc (.cells #[.string (strOf a.name), .int .i64 a.op, .int .i64 a.v.k, .int .i64 a.v.n, .string (strOf a.v.s), .bool a.v.b, .slice sa a.set.length ca] 37)).alloc (.cells #[.string (strOf b.name), .int .i64 b.op, .int .i64 b.v.k, .int .i64 b.v.n, .string (strOf b.v.s), .bool b.v.b, .slice sb b.set.length cb] 37)) := ((Grew.refl w).alloc _).alloc _
  have hcall := order_any _ a b sa ca sb cb (ha.ext hx0.1) (hb.ext hx0.1)
  rw [← order_dec, ← beq_dec]
  have HC := Lib.hid hcall
  clear hcall ha hb
  generalize orderC a b = r at *
  go_enter Tryz.func65, Tryz.ntmps65
  go_wp2_with (go_at_call 30; refine HC.out.mono ?_; rintro e w' ⟨rfl, hx⟩)
  go_ret
  exact ⟨rfl, hx0.trans hx⟩
theorem ent119 : ∀ args w, (callFunc 65 args).run Tryz.prog w = .ok (.enter 65 args) w := enters_of Tryz.func65 (by kernel_rfl) rfl
theorem eq119_cs (w : World) (x y : CS) (hx : SetR w x.h x.c.set) (hy : SetR w y.h y.c.set) :
    Calls Tryz.prog 65 #[.agg #[.string (strOf x.c.name), .int .i64 x.c.op, .int .i64 x.c.v.k, .int .i64 x.c.v.n, .string (strOf x.c.v.s), .bool x.c.v.b, x.h], .agg #[.string (strOf y.c.name), .int .i64 y.c.op, .int .i64 y.c.v.k, .int .i64 y.c.v.n, .string (strOf y.c.v.s), .bool y.c.v.b, y.h]] w fun e w' => e = .returned (.bool (decide (x.c = y.c))) ∧ Grew w w' := by
  obtain ⟨a1, c1, e1, _, _⟩ := Row.shape hx
  obtain ⟨a2, c2, e2, _, _⟩ := Row.shape hy
  rw [e1] at hx
  rw [e2] at hy
  rw [e1, e2]
  exact eq119_any w x.c y.c a1 c1 a2 c2 hx hy

theorem cs_at {W : World} {g n cap : Nat} {us : List CS} (h : Row W 7 (.slice (some ⟨g, 0, none⟩) n cap) n (us.flatMap csC)) {k : Nat} (hk : k < us.length) (hn : k < n) :
    W.cell? ⟨g, k * 7, none⟩ = some (.string (strOf us[k].c.name)) ∧ W.cell? ⟨g, k * 7 + 1, none⟩ = some (.int .i64 us[k].c.op) ∧ W.cell? ⟨g, k * 7 + 2, none⟩ = some (.int .i64 us[k].c.v.k) ∧ W.cell? ⟨g, k * 7 + 3, none⟩ = some (.int .i64 us[k].c.v.n) ∧
      W.cell? ⟨g, k * 7 + 4, none⟩ = some (.string (strOf us[k].c.v.s)) ∧ W.cell? ⟨g, k * 7 + 5, none⟩ = some (.bool us[k].c.v.b) ∧ W.cell? ⟨g, k * 7 + 6, none⟩ = some us[k].h := by
  have gg := fun j hj => flat_get csC 7 csC_len us k hk j hj
  have q := fun j u hj (e : (csC us[k])[j]? = some u) => Row.cellAt h ((gg j hj).trans e) (by omega)
  simp only [Nat.zero_add] at q
  exact ⟨q 0 _ (by decide) rfl, q 1 _ (by decide) rfl, q 2 _ (by decide) rfl, q 3 _ (by decide) rfl, q 4 _ (by decide) rfl, q 5 _ (by decide) rfl, q 6 _ (by decide) rfl⟩

theorem cs_one (x : CS) (h : x.h.oneCell' = true) : (#[.string (strOf x.c.name), .int .i64 x.c.op, .int .i64 x.c.v.k, .int .i64 x.c.v.n, .string (strOf x.c.v.s), .bool x.c.v.b, x.h] : Array Value).all (·.oneCell') = true :=
  all_oneCell_toArray (cs := csC x) fun u hu => csC_one [x] (fun y hy => by rw [List.mem_singleton.1 hy]; exact h) u (by simpa using hu)

set_option maxRecDepth 100000 in
set_option maxHeartbeats 8000000 in
theorem compactC_any (w : World) (base : Nat) (v : Value) (us : List CS) (ho : w.ownsRow base 37 7 v us.length (us.flatMap csC)) (hl : us.length ≤ 1000000) (hs : ∀ x ∈ us, SetR w x.h x.c.set ∧ x.h.ownBlock ≠ v.ownBlock) :
    Calls Tryz.prog 64 #[v, .func (.func 65) #[] #[]] w fun e w' => ∃ v', e = .returned v' ∧ w'.ownsRow base 37 7 v' (compF CS.c us).length ((compF CS.c us).flatMap csC) ∧ w.grownBy w' v.ownBlock ∧ v'.ownBlock = v.ownBlock := by
  by_cases h2 : us.length < 2
  · have hce : compF CS.c us = us := by
      match us, h2 with
      | [], _ => exact compF_nil
      | [x], _ => exact compF_one x
    rw [hce]
    obtain ⟨a, cap, rfl, hc, hm⟩ := Row.shape (Row.of_own ho)
    have hd : decide ((us.length : Int) < 2) = true := decide_eq_true (by omega)
    have HO := Lib.hid ho
    clear ho hce hs
    generalize us.length = n at *
    go_enter Tryz.func64, Tryz.ntmps64
    go_wp2
    go_ret
    exact ⟨_, rfl, HO.out, ⟨rfl, rfl, rfl, Nat.le_refl _, fun _ _ _ => rfl⟩, rfl⟩
  · have hne : v ≠ .slice none 0 0 := by
      rintro rfl
      obtain ⟨_, _, e1, _, _⟩ := Row.shape (Row.of_own ho)
      simp only [Value.slice.injEq] at e1
      omega
    rcases ho.2 with ⟨e0, _⟩ | ⟨g, cap, cur, rfl, hb, hg, hn, hm, hs', ht⟩
    · exact absurd e0 hne
    clear hne cur hg hs' ht
    have hd : decide ((us.length : Int) < 2) = false := decide_eq_false (by omega)
    have hS : ∀ (wr : World) (x : CS), w.grownBy wr (some g) → x ∈ us → SetR wr x.h x.c.set := fun wr x hg hx => Row.keep (hs x hx).1 hg (.inl (hs x hx).2)
    have HO := Lib.hid ho
    clear ho hs
    have HSET := Lib.hid hS
    clear hS
    generalize hN : us.length = n at *
    have HN := Lib.hid hN
    clear hN
    go_enter Tryz.func64, Tryz.ntmps64
    go_wp2_with fail
    go_loopw [5] (fun i wr => ∃ k : Nat, 1 ≤ k ∧ k ≤ n ∧ i = .int .i64 k ∧ Hid (compF CS.c (us.take k) = us.take k) ∧ Hid (wr.ownsRow base 37 7 (.slice (some ⟨g, 0, none⟩) n cap) n (us.flatMap csC)) ∧ Hid (w.grownBy wr (some g))) (fun i _ => n - (intOf i).toNat)
    case atStart =>
      refine ⟨1, Nat.le_refl _, by omega, rfl, ?_, HO, ⟨rfl, rfl, rfl, Nat.le_refl _, fun _ _ _ => rfl⟩⟩
      show compF CS.c (us.take 1) = us.take 1
      match us, HN.out with
      | [], _ => exact compF_nil
      | x :: r, _ => exact compF_one x
    case round =>
      obtain ⟨k, hk1, hk, rfl, hc, hown, hgr⟩ := hrel
      by_cases hlt : k < n
      · have hI : decide ((k : Int) < (n : Int)) = true := decide_eq_true (by omega)
        have k1 : k < us.length := by rw [HN.out]; exact hlt
        have k0 : k - 1 < us.length := by omega
        have hrow := Row.of_own hown.out
        obtain ⟨f0, f1, f2, f3, f4, f5, f6⟩ := cs_at hrow k1 hlt
        obtain ⟨g0, g1, g2, g3, g4, g5, g6⟩ := cs_at hrow k0 (by omega)
        have hsx := HSET.out wr us[k] hgr.out (List.getElem_mem k1)
        have hsy := HSET.out wr us[k - 1] hgr.out (List.getElem_mem k0)
        have hi0 : (0 : Int) ≤ (k : Int) - 1 := by omega
        have hi1 : (k : Int) - 1 < (n : Int) := by omega
        have hi2 : ((k : Int) - 1).toNat = k - 1 := by omega
        obtain ⟨E, hE⟩ : ∃ E : Bool, E = decide (us[k].c = us[k - 1].c) := ⟨_, rfl⟩
        have HE := Lib.hid hE
        clear hE hrow
        have hcall : ∀ W, Grew wr W → Calls Tryz.prog 65 #[.agg #[.string (strOf us[k].c.name), .int .i64 us[k].c.op, .int .i64 us[k].c.v.k, .int .i64 us[k].c.v.n, .string (strOf us[k].c.v.s), .bool us[k].c.v.b, us[k].h], .agg #[.string (strOf us[k - 1].c.name), .int .i64 us[k - 1].c.op, .int .i64 us[k - 1].c.v.k, .int .i64 us[k - 1].c.v.n, .string (strOf us[k - 1].c.v.s), .bool us[k - 1].c.v.b, us[k - 1].h]] W fun e w' => e = .returned (.bool E) ∧ Grew W w' := fun W hW => by
          rw [HE.out]
          exact eq119_cs W us[k] us[k - 1] (hsx.ext hW.1) (hsy.ext hW.1)
        clear hsx hsy
        have HE2 : Hid (E = decide (us[k].c = us[k - 1].c)) := HE.out
        clear HE
        generalize hx : us[k] = x at *
        generalize hy : us[k - 1] = y at *
        have HX := Lib.hid hx
        have HY := Lib.hid hy
        clear hx hy
        go_upto_region 6 with fail
        go_cut [28] from 18 to 28 (fun v28 wx => v28 = .bool E ∧ ∃ w1, w1 = wx ∧ Grew wr w1)
        case first =>
          clear HO HSET HN HX HY HE2 hc hown hgr
          refine Rg.wp_region_facts GrewS [Rg.Fact.eq _ (.func (.func 65) #[] #[]),
              Rg.Fact.eq _ (.slice (some ⟨g, 0, none⟩) n cap),
              Rg.Fact.eq _ (.int .i64 k),
              Rg.Fact.eq _ (.pointer (some ⟨g, k * 7, none⟩)),
              Rg.Fact.eq _ (.agg #[.string (strOf x.c.name), .int .i64 x.c.op, .int .i64 x.c.v.k, .int .i64 x.c.v.n, .string (strOf x.c.v.s), .bool x.c.v.b, x.h]),
              Rg.Fact.eq _ (.slice (some ⟨g, 0, none⟩) n cap),
              Rg.Fact.eq _ (.int .i64 k),
              Rg.Fact.eq _ (.int .i64 ((k : Int) - 1)),
              Rg.Fact.eq _ (.pointer (some ⟨g, (k - 1) * 7, none⟩)),
              Rg.Fact.eq _ (.agg #[.string (strOf y.c.name), .int .i64 y.c.op, .int .i64 y.c.v.k, .int .i64 y.c.v.n, .string (strOf y.c.v.s), .bool y.c.v.b, y.h]),
              Rg.Fact.eq _ (.bool E)]
            [[], [], [], [(1, 19), (2, 20)], [(3, 21)], [], [], [(6, 24)], [(5, 23), (7, 25)], [(8, 26)], [(0, 18), (4, 22), (9, 27)]]
            [(0, 18), (1, 19), (2, 20), (3, 21), (4, 22), (5, 23), (6, 24), (7, 25), (8, 26), (9, 27), (10, 28)] (by kernel_rfl) (by kernel_rfl) ?_ ?_
          · refine ⟨?_, ?_, ?_, ?_, ?_, ?_, ?_, ?_, ?_, ?_, ?_, trivial⟩
            · intro w1 hx1; change wpList _ _ _ _ _ _; exact Rg.ob_move _ rfl rfl rfl rfl rfl
            · intro w1 hx1; change wpList _ _ _ _ _ _; exact Rg.ob_move _ rfl rfl rfl rfl rfl
            · intro w1 hx1; change wpList _ _ _ _ _ _; exact Rg.ob_move _ rfl rfl rfl rfl rfl
            · intro w1 hx1; rintro _ rfl; rintro _ rfl; change wpList _ _ _ _ _ _; go_wp2_with fail; exact ⟨rfl, GrewS.refl _, rfl, rfl⟩
            · intro w1 hx1; rintro _ rfl; change wpList _ _ _ _ _ _; have m0 := hx1.1.cell f0; have m1 := hx1.1.cell f1; have m2 := hx1.1.cell f2; have m3 := hx1.1.cell f3; have m4 := hx1.1.cell f4; have m5 := hx1.1.cell f5; have m6 := hx1.1.cell f6; go_wp2_with fail; exact ⟨rfl, GrewS.refl _, rfl, rfl⟩
            · intro w1 hx1; change wpList _ _ _ _ _ _; exact Rg.ob_move _ rfl rfl rfl rfl rfl
            · intro w1 hx1; change wpList _ _ _ _ _ _; exact Rg.ob_move _ rfl rfl rfl rfl rfl
            · intro w1 hx1; rintro _ rfl; change wpList _ _ _ _ _ _; go_wp2_with fail; exact ⟨rfl, GrewS.refl _, rfl, rfl⟩
            · intro w1 hx1; rintro _ rfl; rintro _ rfl; change wpList _ _ _ _ _ _; go_wp2_with fail; exact ⟨rfl, GrewS.refl _, rfl, rfl⟩
            · intro w1 hx1; rintro _ rfl; change wpList _ _ _ _ _ _; have m0 := hx1.1.cell g0; have m1 := hx1.1.cell g1; have m2 := hx1.1.cell g2; have m3 := hx1.1.cell g3; have m4 := hx1.1.cell g4; have m5 := hx1.1.cell g5; have m6 := hx1.1.cell g6; go_wp2_with fail; exact ⟨rfl, GrewS.refl _, rfl, rfl⟩
            · intro w1 hx1; rintro _ rfl; rintro _ rfl; rintro _ rfl; change wpList _ _ _ _ _ _; go_wp2_with fail; refine (hcall w1 hx1).mono ?_; rintro e w2 ⟨rfl, hx2⟩; go_wp2_with fail; exact ⟨rfl, hx2, rfl, rfl⟩
          · intro w1 hx1; rintro _ rfl; rintro _ rfl; rintro _ rfl; rintro _ rfl; rintro _ rfl; rintro _ rfl; rintro _ rfl; rintro _ rfl; rintro _ rfl; rintro _ rfl; rintro _ rfl; refine depsThen_nil ?_; dsimp only; simp only [Act.put, List.setIfInBounds_toArray, List.set_cons_zero, List.set_cons_succ]
            go_wp2_with fail
            go_meet
            exact ⟨rfl, _, rfl, hx1⟩
        case rest =>
          obtain ⟨rfl, w1, rfl, hx1⟩ := hcut
          clear f0 f1 f2 f3 f4 f5 f6 g0 g1 g2 g3 g4 g5 g6 hcall hi0 hi1 hi2
          obtain ⟨m, rfl⟩ : ∃ m, k = m + 1 := ⟨k - 1, by omega⟩
          have hct := compF_take (f := CS.c) (l := us) (n := m) k1
          have hxe : us[m + 1] = x := HX.out
          have hye : us[m] = y := HY.out
          have hown1 := Lib.hid (own_ext hown.out hx1.1)
          have hgr1 := Lib.hid (grown_ext hgr.out hx1.1)
          clear hown hgr
          cases E
          · have hne : us[m + 1].c ≠ us[m].c := by rw [hxe, hye]; exact of_decide_eq_false HE2.out.symm
            have hc2 : Hid (compF CS.c (us.take (m + 1 + 1)) = us.take (m + 1 + 1)) := by
              show _ = _
              rw [hct, if_neg hne, hc.out, ← List.take_succ_eq_append_getElem k1]
            clear hct hne HE2 hxe hye
            go_wp2_with fail
            go_roundw
            case rel => exact ⟨m + 2, by omega, by omega, by go_num, hc2, hown1.out, hgr1.out⟩
            case measure => simp [intOf]; omega
          · have heq : us[m + 1].c = us[m].c := by rw [hxe, hye]; exact of_decide_eq_true HE2.out.symm
            have hstart : Hid (CompInvF CS.c us us (m + 1) (m + 1 + 1)) := CompInvF.start k1 hc.out heq
            clear hct heq HE2 hxe hye HX HY
            have hcapn : m + 1 < cap := by omega
            have hne : ¬ cap = m + 1 := by omega
            go_wp2_with fail
            obtain ⟨d, hd⟩ : ∃ d, d = n - (m + 1) := ⟨_, rfl⟩
            obtain ⟨ce, hce⟩ : ∃ ce, ce = cap - (m + 1) := ⟨_, rfl⟩
            rw [← hd, ← hce]
            have hd1 : m + 1 + d = n := by omega
            have HD1 := Lib.hid hd1
            have hmn : m + 1 + d ≤ n := by omega
            have hd2 : d ≤ 1000000 := by omega
            have hd3 : d ≤ ce := by omega
            have hq0 : m + 1 ≤ n := by omega
            clear hd hce hd1 hx1
            go_loopw [5, 7] (fun kk jj wr => ∃ (q j : Nat) (r : List CS), 1 ≤ j ∧ j ≤ d ∧ q + 1 ≤ m + 1 + j ∧ kk = .int .i64 q ∧ jj = .int .i64 j ∧ Hid (CompInvF CS.c us r q (m + 1 + j)) ∧ Hid (wr.ownsRow base 37 7 (.slice (some ⟨g, 0, none⟩) n cap) n (r.flatMap csC)) ∧ Hid (w.grownBy wr (some g))) (fun _ jj _ => d - (intOf jj).toNat)
            case atStart => exact ⟨m + 1, 1, us, Nat.le_refl _, by have := HD1.out; omega, by omega, rfl, rfl, hstart, hown1.out, hgr1.out⟩
            case round =>
              clear hstart hown1 hgr1 hc hk1 hk
              obtain ⟨q, j, r, hj1, hj, hq, rfl, rfl, hinv, hown, hgr⟩ := hrel
              by_cases hlt2 : j < d
              · have hI2 : decide ((j : Int) < (d : Int)) = true := decide_eq_true (by omega)
                have hil : m + 1 + j < us.length := by rw [HN.out]; have := HD1.out; omega
                have k0 : m + 1 + j - 1 < us.length := by omega
                obtain ⟨r1, r2, er1, er2⟩ := hinv.out.at hil
                have hlr2 : n ≤ r.length := by have := hinv.out.len; have := HN.out; omega
                have hrow := Row.of_own hown.out
                obtain ⟨f0, f1, f2, f3, f4, f5, f6⟩ := cs_at hrow r1 (by omega)
                obtain ⟨g0, g1, g2, g3, g4, g5, g6⟩ := cs_at hrow r2 (by omega)
                rw [er1] at f0 f1 f2 f3 f4 f5 f6
                rw [er2] at g0 g1 g2 g3 g4 g5 g6
                have hsx := HSET.out wr us[m + 1 + j] hgr.out (List.getElem_mem hil)
                have hsy := HSET.out wr (us[m + 1 + j - 1]'k0) hgr.out (List.getElem_mem k0)
                have ea : (m + 1 + j) * 7 = (m + 1) * 7 + j * 7 := by omega
                have eb : (m + 1 + j - 1) * 7 = (m + 1) * 7 + (j - 1) * 7 := by omega
                simp only [ea] at f0 f1 f2 f3 f4 f5 f6
                simp only [eb] at g0 g1 g2 g3 g4 g5 g6
                obtain ⟨E, hE⟩ : ∃ E : Bool, E = decide (us[m + 1 + j].c = (us[m + 1 + j - 1]'k0).c) := ⟨_, rfl⟩
                have HE := Lib.hid hE
                have hsame := fun h => hinv.out.same hil h
                have hnext := fun h => hinv.out.next hil h
                have HS := Lib.hid hsame
                have HX := Lib.hid hnext
                have hcall : ∀ W, Grew wr W → Calls Tryz.prog 65 #[.agg #[.string (strOf us[m + 1 + j].c.name), .int .i64 us[m + 1 + j].c.op, .int .i64 us[m + 1 + j].c.v.k, .int .i64 us[m + 1 + j].c.v.n, .string (strOf us[m + 1 + j].c.v.s), .bool us[m + 1 + j].c.v.b, us[m + 1 + j].h], .agg #[.string (strOf (us[m + 1 + j - 1]'k0).c.name), .int .i64 (us[m + 1 + j - 1]'k0).c.op, .int .i64 (us[m + 1 + j - 1]'k0).c.v.k, .int .i64 (us[m + 1 + j - 1]'k0).c.v.n, .string (strOf (us[m + 1 + j - 1]'k0).c.v.s), .bool (us[m + 1 + j - 1]'k0).c.v.b, (us[m + 1 + j - 1]'k0).h]] W fun e w' => e = .returned (.bool E) ∧ Grew W w' := fun W hW => by
                  rw [HE.out]
                  exact eq119_cs W _ _ (hsx.ext hW.1) (hsy.ext hW.1)
                have HXO := Lib.hid (set_one hsx)
                clear hE ea eb er1 er2 r1 r2 hrow hsx hsy hsame hnext hinv
                generalize us[m + 1 + j] = x at *
                generalize us[m + 1 + j - 1]'k0 = y at *
                have hi0 : (0 : Int) ≤ (j : Int) - 1 := by omega
                have hi1 : (j : Int) - 1 < (d : Int) := by omega
                have hi2 : ((j : Int) - 1).toNat = j - 1 := by omega
                go_upto_region 11 with fail
                go_cut [49] from 38 to 49 (fun v49 wx => v49 = .bool (!E) ∧ ∃ w1, w1 = wx ∧ Grew wr w1)
                case first =>
                  clear HO HSET HN HX HS HE HD1 HXO hown hgr
                  refine Rg.wp_region_facts GrewS [Rg.Fact.eq _ (.func (.func 65) #[] #[]),
                      Rg.Fact.eq _ (.slice (some ⟨g, (m + 1) * 7, none⟩) d ce),
                      Rg.Fact.eq _ (.int .i64 j),
                      Rg.Fact.eq _ (.pointer (some ⟨g, (m + 1) * 7 + j * 7, none⟩)),
                      Rg.Fact.eq _ (.agg #[.string (strOf x.c.name), .int .i64 x.c.op, .int .i64 x.c.v.k, .int .i64 x.c.v.n, .string (strOf x.c.v.s), .bool x.c.v.b, x.h]),
                      Rg.Fact.eq _ (.slice (some ⟨g, (m + 1) * 7, none⟩) d ce),
                      Rg.Fact.eq _ (.int .i64 j),
                      Rg.Fact.eq _ (.int .i64 ((j : Int) - 1)),
                      Rg.Fact.eq _ (.pointer (some ⟨g, (m + 1) * 7 + (j - 1) * 7, none⟩)),
                      Rg.Fact.eq _ (.agg #[.string (strOf y.c.name), .int .i64 y.c.op, .int .i64 y.c.v.k, .int .i64 y.c.v.n, .string (strOf y.c.v.s), .bool y.c.v.b, y.h]),
                      Rg.Fact.eq _ (.bool E),
                      Rg.Fact.eq _ (.bool (!E))]
                    [[], [], [], [(1, 39), (2, 40)], [(3, 41)], [], [], [(6, 44)], [(5, 43), (7, 45)], [(8, 46)], [(0, 38), (4, 42), (9, 47)], [(10, 48)]]
                    [(0, 38), (1, 39), (2, 40), (3, 41), (4, 42), (5, 43), (6, 44), (7, 45), (8, 46), (9, 47), (10, 48), (11, 49)] (by kernel_rfl) (by kernel_rfl) ?_ ?_
                  · refine ⟨?_, ?_, ?_, ?_, ?_, ?_, ?_, ?_, ?_, ?_, ?_, ?_, trivial⟩
                    · intro w1 hx1; change wpList _ _ _ _ _ _; exact Rg.ob_move _ rfl rfl rfl rfl rfl
                    · intro w1 hx1; change wpList _ _ _ _ _ _; exact Rg.ob_move _ rfl rfl rfl rfl rfl
                    · intro w1 hx1; change wpList _ _ _ _ _ _; exact Rg.ob_move _ rfl rfl rfl rfl rfl
                    · intro w1 hx1; rintro _ rfl; rintro _ rfl; change wpList _ _ _ _ _ _; go_wp2_with fail; exact ⟨rfl, GrewS.refl _, rfl, rfl⟩
                    · intro w1 hx1; rintro _ rfl; change wpList _ _ _ _ _ _; have m0 := hx1.1.cell f0; have m1 := hx1.1.cell f1; have m2 := hx1.1.cell f2; have m3 := hx1.1.cell f3; have m4 := hx1.1.cell f4; have m5 := hx1.1.cell f5; have m6 := hx1.1.cell f6; go_wp2_with fail; exact ⟨rfl, GrewS.refl _, rfl, rfl⟩
                    · intro w1 hx1; change wpList _ _ _ _ _ _; exact Rg.ob_move _ rfl rfl rfl rfl rfl
                    · intro w1 hx1; change wpList _ _ _ _ _ _; exact Rg.ob_move _ rfl rfl rfl rfl rfl
                    · intro w1 hx1; rintro _ rfl; change wpList _ _ _ _ _ _; go_wp2_with fail; exact ⟨rfl, GrewS.refl _, rfl, rfl⟩
                    · intro w1 hx1; rintro _ rfl; rintro _ rfl; change wpList _ _ _ _ _ _; go_wp2_with fail; exact ⟨rfl, GrewS.refl _, rfl, rfl⟩
                    · intro w1 hx1; rintro _ rfl; change wpList _ _ _ _ _ _; have m0 := hx1.1.cell g0; have m1 := hx1.1.cell g1; have m2 := hx1.1.cell g2; have m3 := hx1.1.cell g3; have m4 := hx1.1.cell g4; have m5 := hx1.1.cell g5; have m6 := hx1.1.cell g6; go_wp2_with fail; exact ⟨rfl, GrewS.refl _, rfl, rfl⟩
                    · intro w1 hx1; rintro _ rfl; rintro _ rfl; rintro _ rfl; change wpList _ _ _ _ _ _; go_wp2_with fail; refine (hcall w1 hx1).mono ?_; rintro e w2 ⟨rfl, hx2⟩; go_wp2_with fail; exact ⟨rfl, hx2, rfl, rfl⟩
                    · intro w1 hx1; rintro _ rfl; change wpList _ _ _ _ _ _; go_wp2_with fail; exact ⟨rfl, GrewS.refl _, rfl, rfl⟩
                  · intro w1 hx1; rintro _ rfl; rintro _ rfl; rintro _ rfl; rintro _ rfl; rintro _ rfl; rintro _ rfl; rintro _ rfl; rintro _ rfl; rintro _ rfl; rintro _ rfl; rintro _ rfl; rintro _ rfl; refine depsThen_nil ?_; dsimp only; simp only [Act.put, List.setIfInBounds_toArray, List.set_cons_zero, List.set_cons_succ]
                    go_wp2_with fail
                    go_meet
                    exact ⟨rfl, _, rfl, hx1⟩
                case rest =>
                  obtain ⟨rfl, w1, rfl, hx1⟩ := hcut
                  have hown1 := Lib.hid (own_ext hown.out hx1.1)
                  have hgr1 := Lib.hid (grown_ext hgr.out hx1.1)
                  clear hown hgr hcall g0 g1 g2 g3 g4 g5 g6 hi0 hi1 hi2
                  cases E
                  · have hxy := of_decide_eq_false HE.out.symm
                    have hinv2 := Lib.hid (HX.out hxy)
                    clear hxy HS HX HE
                    have hql : q < r.length := by omega
                    have hth := own_there hown1.out q 7 (by omega)
                    have hset3 := own_set csC csC_len hown1.out q hql x
                    obtain ⟨wz, hwz⟩ : ∃ wz, w1.setCells g (q * 7) (csC x) = wz := ⟨_, rfl⟩
                    rw [hwz] at hset3
                    have HWZ := Lib.hid hwz
                    clear hwz
                    have HS3 := Lib.hid hset3.1
                    have HG3 := Lib.hid hset3.2
                    clear hset3
                    have f0 := hx1.1.cell f0; have f1 := hx1.1.cell f1; have f2 := hx1.1.cell f2; have f3 := hx1.1.cell f3; have f4 := hx1.1.cell f4; have f5 := hx1.1.cell f5; have f6 := hx1.1.cell f6
                    have hqn : q < n := by omega
                    clear hx1
                    have hone := cs_one x HXO.out
                    go_wp2_with (refine wpList_store_mid rfl 37 (.tmp 56) (.tmp 55) rfl g (q * 7) #[.string (strOf x.c.name), .int .i64 x.c.op, .int .i64 x.c.v.k, .int .i64 x.c.v.n, .string (strOf x.c.v.s), .bool x.c.v.b, x.h] rfl rfl hth size31 hone ?_; rw [show w1.setCells g (q * 7) (#[.string (strOf x.c.name), .int .i64 x.c.op, .int .i64 x.c.v.k, .int .i64 x.c.v.n, .string (strOf x.c.v.s), .bool x.c.v.b, x.h] : Array Value).toList = wz from HWZ.out])
                    go_roundw
                    case rel => (repeat apply Exists.intro); refine ⟨?_, rfl⟩; exact ⟨q + 1, j + 1, r.set q x, by omega, hlt2, by omega, by go_num, by go_num, hinv2, HS3.out, hgr1.out.trans HG3.out⟩
                    case measure => simp [intOf]; omega
                  · have hxy := of_decide_eq_true HE.out.symm
                    have hinv2 := Lib.hid (HS.out hxy)
                    clear hxy HS HX HE f0 f1 f2 f3 f4 f5 f6
                    clear hx1
                    go_wp2_with fail
                    go_roundw
                    case rel => exact ⟨q, j + 1, r, by omega, hlt2, by omega, rfl, by go_num, hinv2, hown1.out, hgr1.out⟩
                    case measure => simp [intOf]; omega
              · obtain rfl : j = d := by omega
                have hI2 : decide ((j : Int) < (j : Int)) = false := decide_eq_false (by omega)
                have hdone := hinv.out
                rw [HD1.out, ← HN.out] at hdone
                obtain ⟨ht, hlen⟩ := hdone.done
                have hqn : q < n := by omega
                have hqc : ¬ cap = q := by omega
                have hqc2 : q ≤ cap := by omega
                have hcl := run_clear_tail hown.out 42 (.agg #[.string ⟨#[]⟩, .int .i64 0, .int .i64 0, .int .i64 0, .string ⟨#[]⟩, .bool false, .slice none 0 0]) rfl (by simp [Value.cells, Value.oneCell']) Tryz.underlying42 zero31 q (cap - q) hqn
                have hfin := own_clear_tail hown.out (Nat.le_of_lt hqn) (.agg #[.string ⟨#[]⟩, .int .i64 0, .int .i64 0, .int .i64 0, .string ⟨#[]⟩, .bool false, .slice none 0 0]) rfl
                have hres : Hid ((r.flatMap csC).take (q * 7) = (compF CS.c us).flatMap csC) := by show _ = _; rw [flat_take csC 7 csC_len, ht]
                have HL := Lib.hid hlen
                have HF := Lib.hid hfin
                generalize wr.setCells g (q * 7) (Builtin.zeroCells (Value.agg #[.string ⟨#[]⟩, .int .i64 0, .int .i64 0, .int .i64 0, .string ⟨#[]⟩, .bool false, .slice none 0 0]).cells (n - q)).toList = wz at *
                clear ht hlen hfin hinv hdone
                go_wp2_with fail
                go_ret
                refine ⟨_, rfl, ?_, hgr.out.trans HF.out.2, rfl⟩
                rw [HL.out, ← hres.out]
                exact HF.out.1
      · obtain rfl : k = n := by omega
        have hI : decide ((k : Int) < (k : Int)) = false := decide_eq_false (by omega)
        have hce : Hid (compF CS.c us = us) := by
          have h := hc.out
          rw [List.take_of_length_le (by rw [HN.out]; exact Nat.le_refl _)] at h
          exact h
        go_wp2_with fail
        go_ret
        refine ⟨_, rfl, ?_, hgr.out, rfl⟩
        rw [hce.out, HN.out]
        exact hown.out
end Go.Proofs.YtcgflkfbjnpdiaaGreat

namespace Go.Proofs.YtcgflkfbjnpdiaaGreat
open Go.RowKit

theorem block_later {w w' : World} {b : Nat} {o : Obj} (h : w.heap[b]? = some o) (hx : Ext w w') : w'.heap[b]? = some o :=
  (hx.block b (Array.getElem?_eq_some_iff.1 h).1).trans h
theorem boxes1 (w : World) (a : Obj) : Ext w (w.alloc a) ∧ (w.alloc a).heap[w.heap.size]? = some a :=
  ⟨(Ext.refl w).alloc _, heap_alloc_new w a⟩
theorem boxes2 (w : World) (a b : Obj) : Ext w ((w.alloc a).alloc b) ∧ ((w.alloc a).alloc b).heap[w.heap.size]? = some a ∧ ((w.alloc a).alloc b).heap[w.heap.size + 1]? = some b := by
  refine ⟨((Ext.refl w).alloc _).alloc _, block_later (heap_alloc_new w a) ((Ext.refl _).alloc _), ?_⟩
  have h := heap_alloc_new (w.alloc a) b
  rw [World.size_alloc] at h; exact h
theorem boxes3 (w : World) (a b c : Obj) : Ext w (((w.alloc a).alloc b).alloc c) ∧ (((w.alloc a).alloc b).alloc c).heap[w.heap.size]? = some a ∧ (((w.alloc a).alloc b).alloc c).heap[w.heap.size + 1]? = some b ∧ (((w.alloc a).alloc b).alloc c).heap[w.heap.size + 1 + 1]? = some c := by
  obtain ⟨h1, h2, h3⟩ := boxes2 w a b
  have hx : Ext ((w.alloc a).alloc b) (((w.alloc a).alloc b).alloc c) := (Ext.refl _).alloc _
  refine ⟨h1.trans hx, block_later h2 hx, block_later h3 hx, ?_⟩
  have h := heap_alloc_new ((w.alloc a).alloc b) c
  rw [World.size_alloc, World.size_alloc] at h; exact h
theorem boxes4 (w : World) (a b c d : Obj) : Ext w ((((w.alloc a).alloc b).alloc c).alloc d) ∧ ((((w.alloc a).alloc b).alloc c).alloc d).heap[w.heap.size]? = some a ∧ ((((w.alloc a).alloc b).alloc c).alloc d).heap[w.heap.size + 1]? = some b ∧ ((((w.alloc a).alloc b).alloc c).alloc d).heap[w.heap.size + 1 + 1]? = some c ∧ ((((w.alloc a).alloc b).alloc c).alloc d).heap[w.heap.size + 1 + 1 + 1]? = some d := by
  obtain ⟨h1, h2, h3, h4⟩ := boxes3 w a b c
  have hx : Ext (((w.alloc a).alloc b).alloc c) ((((w.alloc a).alloc b).alloc c).alloc d) := (Ext.refl _).alloc _
  refine ⟨h1.trans hx, block_later h2 hx, block_later h3 hx, block_later h4 hx, ?_⟩
  have h := heap_alloc_new (((w.alloc a).alloc b).alloc c) d
  rw [World.size_alloc, World.size_alloc, World.size_alloc] at h; exact h
end Go.Proofs.YtcgflkfbjnpdiaaGreat

namespace Go.Proofs.YtcgflkfbjnpdiaaGreat
open Go.RowKit Go.Sort

theorem size101 : (Tryz.prog.info? 113).map (·.size) = some 4 := by kernel_rfl
theorem zero101 : ∀ w, (zeroValue 113).run Tryz.prog w = .ok (.agg #[.string ⟨#[]⟩, .bool false, .string ⟨#[]⟩, .bool false]) w := fun _ => by kernel_rfl
theorem grown_refl (w : World) (row : Option Nat) : w.grownBy w row := ⟨rfl, rfl, rfl, Nat.le_refl _, fun _ _ _ => rfl⟩
theorem sp_at {W : World} {g n cap : Nat} {l : List Sp} (h : Row W 4 (.slice (some ⟨g, 0, none⟩) n cap) n (l.flatMap spC)) {k : Nat} (hk : k < l.length) (hn : k < n) :
    W.cell? ⟨g, k * 4, none⟩ = some (.string (strOf l[k].lo.a)) ∧ W.cell? ⟨g, k * 4 + 1, none⟩ = some (.bool l[k].lo.e) ∧ W.cell? ⟨g, k * 4 + 2, none⟩ = some (.string (strOf l[k].hi.a)) ∧ W.cell? ⟨g, k * 4 + 3, none⟩ = some (.bool l[k].hi.e) := by
  have gg := fun j hj => flat_get spC 4 spC_len l k hk j hj
  have q := fun j u hj (e : (spC l[k])[j]? = some u) => Row.cellAt h ((gg j hj).trans e) (by omega)
  simp only [Nat.zero_add] at q
  exact ⟨q 0 _ (by decide) rfl, q 1 _ (by decide) rfl, q 2 _ (by decide) rfl, q 3 _ (by decide) rfl⟩

set_option maxRecDepth 100000 in
set_option maxHeartbeats 8000000 in
theorem deleteSp_any (w : World) (base : Nat) (v : Value) (l : List Sp) (ho : w.ownsRow base 113 4 v l.length (l.flatMap spC)) (hl : l.length ≤ 1000000) (G : Nat) (cb : Array Value) (p : Sp → Bool)
    (eg : ∀ args w, (callFunc G args).run Tryz.prog w = .ok (.enter G args) w)
    (hc : ∀ (W : World) (x : Sp), w.grownBy W v.ownBlock → x ∈ l → Calls Tryz.prog G (#[.agg #[.string (strOf x.lo.a), .bool x.lo.e, .string (strOf x.hi.a), .bool x.hi.e]] ++ cb) W fun e W' => e = .returned (.bool (p x)) ∧ Ext W W') :
    Calls Tryz.prog 116 #[v, .func (.func G) #[] cb] w fun e w' => ∃ v', e = .returned v' ∧ w'.ownsRow base 113 4 v' (l.filter fun x => !p x).length ((l.filter fun x => !p x).flatMap spC) ∧ w.grownBy w' v.ownBlock := by
  have hidx := idxSp_any w v l (Row.of_own ho) G cb p eg (fun W x hx hm => hc W x (grown_ext (grown_refl w _) hx) hm)
  obtain ⟨ix, hix⟩ : ∃ ix, ix = idxP p l := ⟨_, rfl⟩
  rw [← hix] at hidx
  cases hf : l.findIdx? p with
  | none =>
    have hix1 : ix = -1 := by rw [hix]; unfold idxP; rw [hf]
    subst hix1
    have hres := del_none hf
    have HR := Lib.hid hres
    have HO := Lib.hid ho
    have HI := Lib.hid hidx
    obtain ⟨a, cap, rfl, hc2, hm⟩ := Row.shape (Row.of_own ho)
    clear hix hres ho hidx hc hf eg
    generalize hnn : l.length = n at *
    have HNN := Lib.hid hnn
    clear hnn
    go_enter Tryz.func116, Tryz.ntmps116
    go_wp2_with (go_at_call 158; refine HI.out.mono ?_; rintro e w1 ⟨rfl, hx1⟩)
    go_ret
    refine ⟨_, rfl, ?_, grown_ext (grown_refl w _) hx1⟩
    rw [HR.out, HNN.out]
    exact own_ext HO.out hx1
  | some i =>
    obtain ⟨hi, hpi, hpre⟩ := idx_start hf
    have hix1 : ix = i := by rw [hix]; unfold idxP; rw [hf]
    subst hix1
    have hst := DelInv.start p hi hpre hpi
    rcases ho.2 with ⟨_, e0⟩ | ⟨g, cap, cur, rfl, hb, hg, hn, hm, hs, ht⟩
    · omega
    clear cur hg hs ht hb
    unfold maxLen at hm
    have hne : ((i : Int) == -1) = false := beq_eq_false_iff_ne.2 (by omega)
    have HO := Lib.hid ho
    have HI := Lib.hid hidx
    have HST := Lib.hid hst
    have HC := Lib.hid hc
    clear hidx hst hc hix hf hpre hpi ho
    generalize hN : l.length = n at *
    have HN := Lib.hid hN
    clear hN
    go_enter Tryz.func116, Tryz.ntmps116
    go_wp2_with (go_at_call 158; refine HI.out.mono ?_; rintro e w1 ⟨rfl, hx1⟩)
    go_loopw [5, 6] (fun ii jj wr => ∃ (k j : Nat) (r : List Sp), ii = .int .i64 k ∧ jj = .int .i64 j ∧ k + 1 ≤ j ∧ j ≤ n ∧ Hid (DelInv p l r k j) ∧ Hid (wr.ownsRow base 113 4 (.slice (some ⟨g, 0, none⟩) n cap) n (r.flatMap spC)) ∧ Hid (w.grownBy wr (some g))) (fun _ jj _ => n - (intOf jj).toNat)
    case atStart => exact ⟨i, i + 1, l, rfl, by go_num, Nat.le_refl _, by omega, HST, own_ext HO.out hx1, grown_ext (grown_refl w _) hx1⟩
    case round =>
      obtain ⟨k, j, r, rfl, rfl, hkj, hj, hinv, hown, hgr⟩ := hrel
      by_cases hlt : j < n
      · have hI : decide ((j : Int) < (n : Int)) = true := decide_eq_true (by omega)
        have hjl : j < l.length := by rw [HN.out]; exact hlt
        obtain ⟨r1, er⟩ := hinv.out.at hjl
        have hrl : r.length = n := by rw [hinv.out.len, HN.out]
        obtain ⟨f0, f1, f2, f3⟩ := sp_at (Row.of_own hown.out) r1 hlt
        rw [er] at f0 f1 f2 f3
        have hmem : l[j] ∈ l := List.getElem_mem hjl
        have hsk := fun h => hinv.out.skip hjl h
        have hke := fun h => hinv.out.keep hjl h
        have HSK := Lib.hid hsk
        have HKE := Lib.hid hke
        clear hsk hke er r1 hinv
        generalize l[j] = x at *
        have hcall := HC.out (wr.alloc (.cells #[.string (strOf x.lo.a), .bool x.lo.e, .string (strOf x.hi.a), .bool x.hi.e] 113)) x (grown_ext hgr.out ((Ext.refl wr).alloc _)) hmem
        obtain ⟨hxa, hX⟩ := boxes1 wr (.cells #[.string (strOf x.lo.a), .bool x.lo.e, .string (strOf x.hi.a), .bool x.hi.e] 113)
        have x0 := cell_of_row _ _ 0 _ _ _ hX
        have x1 := cell_of_row _ _ 1 _ _ _ hX
        have x2 := cell_of_row _ _ 2 _ _ _ hX
        have x3 := cell_of_row _ _ 3 _ _ _ hX
        have hown1 := Lib.hid (own_ext hown.out hxa)
        have hgr1 := Lib.hid (grown_ext hgr.out hxa)
        have HCALL := Lib.hid hcall
        clear hcall hX hmem
        cases hE : p x with
        | true =>
          have HE := Lib.hid hE
          have hinv2 := Lib.hid (HSK.out hE)
          clear hE HSK HKE
          go_wp2_with (go_at_fn G; refine HCALL.out.mono ?_; rw [HE.out]; rintro e w2 ⟨rfl, hx2⟩)
          go_roundw
          case rel => exact ⟨k, j + 1, r, rfl, by go_num, by omega, hlt, hinv2, own_ext hown1.out hx2, grown_ext hgr1.out hx2⟩
          case measure => simp [intOf]; omega
        | false =>
          have HE := Lib.hid hE
          have hinv2 := Lib.hid (HKE.out hE)
          clear hE HSK HKE
          have hkr : k < r.length := by omega
          have hkn : k < n := by omega
          go_upto_region 9 with (go_at_fn G; refine HCALL.out.mono ?_; rw [HE.out]; rintro e w2 ⟨rfl, hx2⟩)
          have hown2 := own_ext hown1.out hx2
          have hth := own_there hown2 k 4 (by omega)
          have hset3 := own_set spC spC_len hown2 k hkr x
          have y0 := hx2.cell x0
          have y1 := hx2.cell x1
          have y2 := hx2.cell x2
          have y3 := hx2.cell x3
          have hgr2 := Lib.hid (grown_ext hgr1.out hx2)
          obtain ⟨wz, hwz⟩ : ∃ wz, w2.setCells g (k * 4) (spC x) = wz := ⟨_, rfl⟩
          rw [hwz] at hset3
          have HWZ := Lib.hid hwz
          have HS3 := Lib.hid hset3.1
          have HG3 := Lib.hid hset3.2
          clear hwz hset3 hown2 hx2 x0 x1 x2 x3
          go_wp2_with (refine wpList_store_mid rfl 113 (.tmp 33) (.tmp 32) rfl g (k * 4) #[.string (strOf x.lo.a), .bool x.lo.e, .string (strOf x.hi.a), .bool x.hi.e] rfl rfl hth size101 (by simp [Value.oneCell']) ?_; rw [show w2.setCells g (k * 4) (#[.string (strOf x.lo.a), .bool x.lo.e, .string (strOf x.hi.a), .bool x.hi.e] : Array Value).toList = wz from HWZ.out])
          go_roundw
          case rel => exact ⟨k + 1, j + 1, r.set k x, by go_num, by go_num, by omega, hlt, hinv2, HS3.out, hgr2.out.trans HG3.out⟩
          case measure => simp [intOf]; omega
      · obtain rfl : j = n := by omega
        have hI : decide ((j : Int) < (j : Int)) = false := decide_eq_false (by omega)
        have hdone := hinv.out
        rw [← HN.out] at hdone
        obtain ⟨ht, hlen⟩ := hdone.done
        have hkn : k < j := by omega
        have hkc : ¬ cap = k := by omega
        have hkc2 : k ≤ cap := by omega
        have hcl := run_clear_tail hown.out 66 (.agg #[.string ⟨#[]⟩, .bool false, .string ⟨#[]⟩, .bool false]) rfl (by simp [Value.cells, Value.oneCell']) Tryz.underlying66 zero101 k (cap - k) hkn
        have hfin := own_clear_tail hown.out (Nat.le_of_lt hkn) (.agg #[.string ⟨#[]⟩, .bool false, .string ⟨#[]⟩, .bool false]) rfl
        have hres : Hid ((r.flatMap spC).take (k * 4) = (l.filter fun x => !p x).flatMap spC) := by show _ = _; rw [flat_take spC 4 spC_len, ht]
        have HL := Lib.hid hlen
        have HF := Lib.hid hfin
        generalize wr.setCells g (k * 4) (Builtin.zeroCells (Value.agg #[.string ⟨#[]⟩, .bool false, .string ⟨#[]⟩, .bool false]).cells (j - k)).toList = wz at *
        clear ht hlen hfin hinv hdone
        go_wp2_with fail
        go_ret
        refine ⟨_, rfl, ?_, hgr.out.trans HF.out.2⟩
        rw [HL.out, ← hres.out]
        exact HF.out.1
end Go.Proofs.YtcgflkfbjnpdiaaGreat

namespace Go.Proofs.YtcgflkfbjnpdiaaGreat
open Go.RowKit

theorem strOf_sz (l : List UInt8) : (strOf l).size = l.length := by rw [← ba_len]; rfl
theorem conv_str (w : World) (l : List UInt8) (hl : l.length ≤ maxLen) : ∃ cap W C, (convert 9 165 (.string (strOf l))).run Tryz.prog w = .ok (.slice (some ⟨w.heap.size, 0, none⟩) l.length cap) W ∧ W.heap[w.heap.size]? = some (.cells C 5 (C.size, C.size + 1)) ∧ l.length ≤ C.size ∧ l.length ≤ cap ∧ cap ≤ maxLen ∧ (∀ j (h : j < l.length), C[j]? = some (.int .u8 (l[j].toNat : Int))) ∧ Ext w W := by
  have hr := Lib.run_convert_string_bytes (P := Tryz.prog) w 9 165 5 (strOf l) Tryz.underlying9 Tryz.underlying165 Tryz.underlying5
  have hn := Lib.bytesWorld_at_new w 5 (strOf l)
  have hc : ∀ j (h : j < l.length), (Lib.bytesCells w 5 (strOf l))[j]? = some (.int .u8 (l[j].toNat : Int)) := fun j h => by
    have := Lib.bytesWorld_cell w 5 (strOf l) j (by rw [strOf_sz]; exact h)
    rw [cell_of_row _ _ _ _ _ _ hn] at this
    rw [this]
    simp [strOf, List.getD, h]
  have hge := grownCap_ge w (strOf l).size 0 5
  rw [strOf_sz] at hr hge
  refine ⟨_, _, _, hr, hn, ?_, hge, grownCap_le_maxLen _ _ _ _ hl, hc, ?_⟩
  · simp only [Lib.bytesCells, Array.size_append, Array.size_map]
    show l.length ≤ l.toArray.size + _
    simp
  · refine ⟨rfl, rfl, rfl, ?_, fun k hk => Lib.bytesWorld_at_old w 5 (strOf l) k hk⟩
    rw [Lib.bytesWorld_size]; exact Nat.le_succ _
theorem setCell_blk (w : World) (b i : Nat) (v : Value) (c : Array Value) (t : TypeId) (fr : Nat × Nat) (h : w.heap[b]? = some (.cells c t fr)) : (w.setCell ⟨b, i, none⟩ v).heap[b]? = some (.cells (c.setIfInBounds i v) t fr) := by
  unfold World.setCell
  simp [Array.getElem?_modify, h]
theorem setCell_oth (w : World) (a : Addr) (v : Value) (k : Nat) (h : k ≠ a.block) : (w.setCell a v).heap[k]? = w.heap[k]? := by
  show (w.heap.modify a.block _)[k]? = w.heap[k]?
  rw [Array.getElem?_modify, if_neg (fun e => h e.symm)]
theorem past_snoc (l : List UInt8) (c : UInt8) : pastF (l ++ [c]) = if c = 255 then pastF l else ⟨l ++ [c + 1], false⟩ := by
  unfold pastF
  rw [List.reverse_append, List.reverse_singleton, List.singleton_append, pastR, List.reverse_reverse]

set_option maxRecDepth 100000 in
set_option maxHeartbeats 4000000 in
theorem past_any (w : World) (s : List UInt8) (hs : s.length ≤ 140737488355328) : Calls Tryz.prog 115 #[.string (strOf s)] w fun e w' => e = .returned (.agg #[.string (strOf (pastF s).a), .bool (pastF s).e]) ∧ Ext w w' := by
  obtain ⟨hx0, hT⟩ := boxes1 w (.cells #[.string ⟨#[]⟩, .bool false] 111)
  obtain ⟨cap, W, C, hconv, hB, hsC, hcap, hcm, hcell, hx1⟩ := conv_str (w.alloc (.cells #[.string ⟨#[]⟩, .bool false] 111)) s (by unfold maxLen; omega)
  rw [World.size_alloc] at hconv hB
  have hT1 := Lib.hid (block_later hT hx1)
  have hxw := hx0.trans hx1
  have HB := Lib.hid hB
  have HCELL := Lib.hid hcell
  obtain ⟨N, hN⟩ : ∃ N, N = s.length := ⟨_, rfl⟩
  rw [← hN] at hs hsC hcap hconv
  have HN := Lib.hid hN
  have hCZ : C.size ≤ C.size := Nat.le_refl _
  unfold maxLen at hcm
  clear hT hB hcell hx1 hx0 hN
  go_enter Tryz.func115, Tryz.ntmps115
  go_wp2_with fail
  clear hconv
  go_loop [3] (fun t => ∃ n : Nat, n ≤ N ∧ t = .slice (some ⟨w.heap.size + 1, 0, none⟩) n cap ∧ Hid (pastF s = pastF (s.take n))) (fun t => match t with | .slice _ n _ => n | _ => 0)
  case atStart => exact ⟨N, Nat.le_refl _, rfl, by show _ = _; rw [HN.out, List.take_length]⟩
  case round =>
    obtain ⟨n, hn, rfl, hp⟩ := hrel
    by_cases h0 : n = 0
    · subst h0
      have hp0 : pastF s = endC := by rw [hp.out]; rfl
      have HP0 := Lib.hid hp0
      clear hp hp0
      go_wp2_with fail
      refine (end_any W).mono ?_
      rintro e w2 ⟨rfl, hx2⟩
      have hT2 := Lib.hid (block_later hT1.out hx2)
      go_wp2_with (refine wpList_store_whole 111 (.tmp 2) (.tmp 26) rfl rfl w.heap.size rfl #[.string ⟨#[]⟩, .bool true] rfl _ 111 hT2.out rfl info111s (by simp [Value.oneCell']) ?_)
      have hq := setRow_heap _ _ _ #[.string ⟨#[]⟩, .bool true] _ _ hT2.out
      have r0 := cell_of_row _ _ 0 _ _ _ hq
      have r1 := cell_of_row _ _ 1 _ _ _ hq
      refine bodyPost_ret (v := .agg #[.string ⟨#[]⟩, .bool true]) (by simp [results, Tryz.results115, go_sem, r0, r1]) rfl ⟨by rw [HP0.out]; rfl, (hxw.trans hx2).setRow (Nat.le_refl _) _⟩
    · obtain ⟨m, rfl⟩ : ∃ m, n = m + 1 := ⟨n - 1, by omega⟩
      have hm : m < s.length := by have := HN.out; omega
      have hcm2 : W.cell? ⟨w.heap.size + 1, m, none⟩ = some (.int .u8 (s[m].toNat : Int)) := by
        rw [cell_of_row _ _ _ _ _ _ HB.out]; exact HCELL.out m hm
      have hps : pastF s = if s[m] = 255 then pastF (s.take m) else ⟨s.take m ++ [s[m] + 1], false⟩ := by
        rw [hp.out, List.take_succ_eq_append_getElem hm, past_snoc]
      have hgt : decide (0 < ((m + 1 : Nat) : Int)) = true := decide_eq_true (by omega)
      have hgt2 : decide ((0 : Int) < (m : Int) + 1) = true := decide_eq_true (by omega)
      clear hp h0
      by_cases hc : s[m] = 255
      · rw [if_pos hc] at hps
        have HP := Lib.hid hps
        rw [hc] at hcm2
        clear hps hc
        go_wp2_with fail
        go_round
        case rel => exact ⟨m, by omega, rfl, HP.out⟩
        case measure => simp
      · rw [if_neg hc] at hps
        have hlt : s[m].toNat < 255 := by
          have h1 : s[m].toNat < 256 := s[m].toNat_lt
          have h2 : s[m].toNat ≠ 255 := fun e => hc (UInt8.toNat_inj.1 e)
          omega
        have hplus : ((s[m] + 1).toNat : Int) = (s[m].toNat : Int) + 1 := by
          rw [UInt8.toNat_add]
          have : (1 : UInt8).toNat = 1 := rfl
          rw [this]; omega
        have hd : ((s[m].toNat : Int) == 255) = false := beq_eq_false_iff_ne.2 (by omega)
        have hlt2 : (s[m].toNat : Int) < 255 := by omega
        have hge2 : (0 : Int) ≤ (s[m].toNat : Int) := by omega
        have fz : W.frozen? ⟨w.heap.size + 1, m, none⟩ = false := by simp [World.frozen?, HB.out]; omega
        have hbytes : Bytes (W.setCell ⟨w.heap.size + 1, m, none⟩ (.int .u8 ((s[m].toNat : Int) + 1))) (.slice (some ⟨w.heap.size + 1, 0, none⟩) (m + 1) cap) (s.take m ++ [s[m] + 1]) := by
          have hlen : (s.take m ++ [s[m] + 1]).length = m + 1 := by rw [List.length_append, List.length_take]; simp; omega
          unfold Bytes
          rw [hlen]
          refine ⟨by rw [List.length_map, hlen, Nat.mul_one], _, _, rfl, by omega, by unfold maxLen; exact hcm, by simp, fun p hp _ => by cases hp; rfl, fun j u hj => ⟨_, rfl, ?_⟩⟩
          simp only [Nat.zero_add]
          have hbk := setCell_blk W (w.heap.size + 1) m (.int .u8 ((s[m].toNat : Int) + 1)) _ _ _ HB.out
          rw [cell_of_row _ _ _ _ _ _ hbk]
          rw [List.getElem?_map] at hj
          rcases Nat.lt_or_ge j m with hjm | hjm
          · rw [List.getElem?_append_left (by rw [List.length_take]; omega), List.getElem?_take, if_pos hjm, List.getElem?_eq_getElem (by omega)] at hj
            rw [Array.getElem?_setIfInBounds_ne (by omega), HCELL.out j (by omega)]
            exact hj
          · have hjl : j < m + 1 := by
              rcases Nat.lt_or_ge j (m + 1) with h | h
              · exact h
              · rw [List.getElem?_eq_none (by rw [hlen]; exact h)] at hj; cases hj
            obtain rfl : j = m := by omega
            rw [Array.getElem?_setIfInBounds_self_of_lt (by omega)]
            rw [List.getElem?_append_right (by rw [List.length_take]; omega), List.length_take, Nat.min_eq_left (by omega), Nat.sub_self] at hj
            simp only [List.getElem?_cons_zero, Option.map_some, Option.some.injEq] at hj
            rw [← hj, hplus]
        have hcv := run_bytes_str (P := Tryz.prog) (W.setCell ⟨w.heap.size + 1, m, none⟩ (.int .u8 ((s[m].toNat : Int) + 1))) 165 9 5 Tryz.underlying165 Tryz.underlying5 Tryz.underlying9 hbytes
        have hT2 := Lib.hid ((setCell_oth W ⟨w.heap.size + 1, m, none⟩ (.int .u8 ((s[m].toNat : Int) + 1)) w.heap.size (by simp)).trans hT1.out)
        have hx2 := hxw.setCell (p := ⟨w.heap.size + 1, m, none⟩) (by simp) (.int .u8 ((s[m].toNat : Int) + 1))
        have HP := Lib.hid hps
        clear hps hc hplus hbytes hxw
        generalize s.take m ++ [s[m] + 1] = R at *
        generalize (s[m].toNat : Int) = c at *
        generalize hW2 : W.setCell ⟨w.heap.size + 1, m, none⟩ (.int .u8 (c + 1)) = W2 at *
        have HW2 := Lib.hid hW2
        clear hW2
        go_upto_region 7 with fail
        rw [HW2.out]
        go_wp2_with (refine wpList_store_whole 111 (.tmp 2) (.tmp 37) rfl rfl w.heap.size rfl #[.string (strOf R), .bool false] rfl _ 111 hT2.out rfl info111s (by simp [Value.oneCell']) ?_)
        have hq := setRow_heap _ _ _ #[.string (strOf R), .bool false] _ _ hT2.out
        have r0 := cell_of_row _ _ 0 _ _ _ hq
        have r1 := cell_of_row _ _ 1 _ _ _ hq
        refine bodyPost_ret (v := .agg #[.string (strOf R), .bool false]) (by simp [results, Tryz.results115, go_sem, r0, r1]) rfl ⟨by rw [HP.out], hx2.setRow (Nat.le_refl _) _⟩
end Go.Proofs.YtcgflkfbjnpdiaaGreat

namespace Go.Proofs.YtcgflkfbjnpdiaaGreat
open Go.RowKit

/-- A region as a value. -/
structure RgR (W : World) (v : Value) (r : Rg) : Prop where
  mk ::
  ex : ∃ (a1 : Option Addr) (c1 : Nat) (a2 : Option Addr) (c2 : Nat) (a3 : Option Addr) (c3 : Nat), v = .agg #[.slice a1 r.i.length c1, .slice a2 r.s.length c2, .slice a3 r.b.length c3, .bool r.odd] ∧ SpR W (.slice a1 r.i.length c1) r.i ∧ SpR W (.slice a2 r.s.length c2) r.s ∧ SpR W (.slice a3 r.b.length c3) r.b
theorem RgR.ext {W W' : World} {v : Value} {r : Rg} (h : RgR W v r) (hx : Ext W W') : RgR W' v r := by
  obtain ⟨a1, c1, a2, c2, a3, c3, e, h1, h2, h3⟩ := h.ex
  exact ⟨a1, c1, a2, c2, a3, c3, e, h1.ext hx, h2.ext hx, h3.ext hx⟩
theorem RgR.of {W : World} {h1 h2 h3 : Value} {r : Rg} (k1 : SpR W h1 r.i) (k2 : SpR W h2 r.s) (k3 : SpR W h3 r.b) : RgR W (.agg #[h1, h2, h3, .bool r.odd]) r := by
  obtain ⟨a1, c1, rfl, _, _⟩ := Row.shape k1
  obtain ⟨a2, c2, rfl, _, _⟩ := Row.shape k2
  obtain ⟨a3, c3, rfl, _, _⟩ := Row.shape k3
  exact ⟨a1, c1, a2, c2, a3, c3, rfl, k1, k2, k3⟩

set_option maxRecDepth 100000 in
set_option maxHeartbeats 4000000 in
theorem empty_any (w : World) (v : Value) (r : Rg) (h : RgR w v r) : Calls Tryz.prog 80 #[v] w fun e w' => e = .returned (.bool r.empty) ∧ Ext w w' := by
  obtain ⟨a1, c1, a2, c2, a3, c3, rfl, h1, h2, h3⟩ := h.ex
  obtain ⟨_, _, e1, hl1, hm1⟩ := Row.shape h1
  obtain ⟨_, _, e2, hl2, hm2⟩ := Row.shape h2
  obtain ⟨_, _, e3, hl3, hm3⟩ := Row.shape h3
  simp only [Value.slice.injEq, true_and] at e1 e2 e3
  obtain ⟨rfl, rfl⟩ := e1
  obtain ⟨rfl, rfl⟩ := e2
  obtain ⟨rfl, rfl⟩ := e3
  unfold maxLen at hm1 hm2 hm3
  have hx0 : Ext w (w.alloc (.cells #[.slice a1 r.i.length c1, .slice a2 r.s.length c2, .slice a3 r.b.length c3, .bool r.odd] 69)) := (Ext.refl w).alloc _
  have hB := heap_alloc_new w (.cells #[.slice a1 r.i.length c1, .slice a2 r.s.length c2, .slice a3 r.b.length c3, .bool r.odd] 69)
  have q0 := cell_of_row _ _ 0 _ _ _ hB
  have q1 := cell_of_row _ _ 1 _ _ _ hB
  have q2 := cell_of_row _ _ 2 _ _ _ hB
  have q3 := cell_of_row _ _ 3 _ _ _ hB
  have hsl : SlR (w.alloc (.cells #[.slice a1 r.i.length c1, .slice a2 r.s.length c2, .slice a3 r.b.length c3, .bool r.odd] 69)) (.slice (some ⟨w.heap.size, 0, none⟩) 3 3) [(a1, r.i.length, c1), (a2, r.s.length, c2), (a3, r.b.length, c3)] := by
    refine ⟨rfl, _, _, rfl, Nat.le_refl _, by decide, by simp, by simp, fun j u hj => ⟨_, rfl, ?_⟩⟩
    match j, hj with
    | 0, hj => cases hj; exact q0
    | 1, hj => cases hj; exact q1
    | 2, hj => cases hj; exact q2
  have hcon := hasSl_any _ _ _ hsl 110 #[] (fun x => decide (0 < x.2.1)) ent81 (fun W x hx hm => by
    refine len81_any W x.1 x.2.1 x.2.2 ?_
    simp only [List.mem_cons, List.not_mem_nil, or_false] at hm
    rcases hm with rfl | rfl | rfl <;> simp only <;> omega)
  have hres : r.empty = (!r.odd && !(([(a1, r.i.length, c1), (a2, r.s.length, c2), (a3, r.b.length, c3)] : List (Option Addr × Nat × Nat)).any fun x => decide (0 < x.2.1))) := by
    unfold Rg.empty
    simp only [List.any_cons, List.any_nil, Bool.or_false, Bool.or_assoc]
  rw [hres]
  have HC := Lib.hid hcon
  clear hcon hres hsl hB h1 h2 h3 h hl1 hl2 hl3 hm1 hm2 hm3
  generalize (([(a1, r.i.length, c1), (a2, r.s.length, c2), (a3, r.b.length, c3)] : List (Option Addr × Nat × Nat)).any fun x => decide (0 < x.2.1)) = B at *
  generalize r.odd = od at *
  generalize r.i.length = n1 at *
  generalize r.s.length = n2 at *
  generalize r.b.length = n3 at *
  cases od
  · go_enter Tryz.func80, Tryz.ntmps80
    go_wp2_with (go_at_call 109; refine HC.out.mono ?_; rintro e w' ⟨rfl, hx⟩)
    go_ret
    exact ⟨rfl, hx0.trans hx⟩
  · go_enter Tryz.func80, Tryz.ntmps80
    go_wp2_with fail
    go_ret
    exact ⟨rfl, hx0⟩
end Go.Proofs.YtcgflkfbjnpdiaaGreat
