/- PredNormal, walked. -/
import Derived.Test.YtkefppdacigbmaaA16
import Derived.Test.YtkefppdacigbmaaV7
import Derived.Deep.DeepCutAuto
namespace Go.Proofs.Ytkefppdacigbmaa
open Go.RowKit Go.Sort

theorem rev_take {α : Type} {l : List α} {k : Nat} (h : k < l.length) : l.reverse.take (k + 1) = l.reverse.take k ++ [l[l.length - 1 - k]] := by
  rw [List.take_succ_eq_append_getElem (by rw [List.length_reverse]; exact h), List.getElem_reverse]
def Fact.pred (p : List C) : Fact := ⟨fun v w => PredR w v p, fun _ _ _ hx h => h.ext hx⟩
theorem predCut {P : Program} {ops : Array Oper} {Q : Exit → Act → World → Prop} {a : Act} {w : World} {rest : List Oper} {o : Oper}
    (t : TypeId) (x : Operand) (lo hi : Option Operand) (n i j : Nat) (p : List C)
    (ho : o.op = .slice t x lo hi none) (ht : P.underlying t = some (.slice 31)) (hs : (P.info? 31).map (·.size) = some 7)
    (hw : Region.wanted o (yielded ops a.tmps) = true) (hx : PredR w (a.eval x) p) (hn : p.length = n)
    (hlo : BoundIs a lo 0 i) (hhi : BoundIs a hi n j) (hij : i ≤ j) (hj : j ≤ n)
    (h : ∀ v, PredR w v ((p.take j).drop i) → wpList P ops Q rest (a.put o.dst v) w) : wpList P ops Q (o :: rest) a w := by
  obtain ⟨us, rfl, hr, hss⟩ := hx
  rw [List.length_map] at hn
  subst hn
  refine wpList_cut t 31 x lo hi 7 us.length i j _ ho ht hs hw hr hlo hhi hij hj fun v hv => h v ?_
  rw [flat_take csC 7 csC_len, flat_drop csC 7 csC_len] at hv
  rw [← List.map_take, ← List.map_drop]
  have hl : ((us.take j).drop i).length = j - i := by rw [List.length_drop, List.length_take]; omega
  exact PredR.mk _ (by rw [hl]; exact hv) fun x hx => hss x (List.mem_of_mem_take (List.mem_of_mem_drop hx))
theorem addRowV (w : World) (x : V) : Row (w.alloc (.cells (vC x).toArray 28)) 4 (.slice (some ⟨w.heap.size, 0, none⟩) 1 1) 1 (vC x) :=
  Row.of_own (World.ownsRow_lit (base := w.heap.size) (e := 28) (size := 4) w (vC x).toArray 1 (Nat.le_refl _) (by decide) rfl)

set_option maxRecDepth 100000 in
set_option maxHeartbeats 4000000 in
theorem predNormal_no (w : World) (v : Value) (p : List C) (key : List UInt8) (va : Value) (l : List (List UInt8 × V)) (hp : PredR w v p) (hl : AttrR w va l) (hm : mayP p = false) :
    Calls Try.prog 4 #[v, .agg #[.string (strOf key), va]] w fun e w' => e = .returned (.bool true) ∧ Ext w w' := by
  obtain ⟨ap, cp, rfl, _, _⟩ := hp.shape
  obtain ⟨aa, ca, rfl, _, _⟩ := Row.shape hl
  have hx0 : Ext w (w.alloc (.cells #[.string (strOf key), .slice aa l.length ca] 26)) := (Ext.refl w).alloc _
  have hno := normal_no _ _ p (hp.ext hx0) hm
  have HP := Lib.hid hp
  have HM := Lib.hid hm
  clear hp hl hm
  go_enter Try.func4, Try.ntmps4
  go_wp2_with (go_at_call 18; refine hno.mono ?_; rintro e w1 ⟨rfl, hx1⟩)
  have hx1 := hx0.trans hx1
  go_wp2_with fail
  refine (awake_any _).mono ?_
  rintro e w2 ⟨rfl, hx2⟩
  have hx2 := hx1.trans hx2
  have hmm := pmay_any w2 _ p (HP.out.ext hx2)
  rw [HM.out] at hmm
  go_wp2_with fail
  refine hmm.mono ?_
  rintro e w3 ⟨rfl, hx3⟩
  go_wp2_with fail
  go_ret
  exact ⟨rfl, hx2.trans hx3⟩

set_option maxRecDepth 100000 in
set_option maxHeartbeats 16000000 in
theorem predNormal_yes (w : World) (v : Value) (p : List C) (key : List UInt8) (va : Value) (l : List (List UInt8 × V)) (hp : PredR w v p) (hl : AttrR w va l) (hm : mayP p = true) :
    Calls Try.prog 4 #[v, .agg #[.string (strOf key), va]] w fun e w' => e = .returned (.bool true) ∧ Ext w w' := by
  obtain ⟨ap, cp, rfl, _, _⟩ := hp.shape
  obtain ⟨aa, ca, rfl, _, _⟩ := Row.shape hl
  have hl6 := may_len hm
  have hall := Lib.hid (may_all hm)
  have hx0 : Ext w (w.alloc (.cells #[.string (strOf key), .slice aa l.length ca] 26)) := (Ext.refl w).alloc _
  have hE := heap_alloc_new w (.cells #[.string (strOf key), .slice aa l.length ca] 26)
  have e0 := cell_of_row _ _ 0 _ _ _ hE
  have e1 := cell_of_row _ _ 1 _ _ _ hE
  have hno := normal_yes _ _ p (hp.ext hx0) hm
  have HP := Lib.hid hp
  have HL := Lib.hid hl
  have HM := Lib.hid hm
  have HNL := Lib.hid (normP_len p)
  have HNM := Lib.hid (normP_may hm)
  have HMT := Lib.hid (normP_match hm l)
  clear hp hl hm hE
  obtain ⟨n, hn⟩ : ∃ n, n = p.length := ⟨_, rfl⟩
  have HN := Lib.hid hn
  rw [← hn] at hno ⊢ HP hl6 HNL
  clear hn
  go_enter Try.func4, Try.ntmps4
  go_wp2_with fail
  generalize w.alloc (.cells #[.string (strOf key), .slice aa l.length ca] 26) = w0 at *
  refine hno.mono ?_
  rintro e w1 ⟨v1, us1, rfl, h1⟩
  have hR : PredR w1 v1 (normP p) := by rw [← h1.1]; exact PredR.mk us1 (Row.of_own h1.2.1) (fun x hx => (h1.2.2.1 x hx).set)
  have hx1 := h1.2.2.2
  clear h1 hno
  obtain ⟨a1, c1, rfl, hcn, hcm⟩ := hR.shape
  have e0 := hx1.cell e0
  have e1 := hx1.cell e1
  have hx1 := hx0.trans hx1
  have HR := Lib.hid hR
  clear hR hx0
  have hn2 := normal_yes _ _ _ HR.out HNM.out
  go_wp2_with fail
  refine hn2.mono ?_
  rintro e w2 ⟨v2, us2, rfl, h2⟩
  have hR2 : PredR w2 v2 (normP p) := by
    have := PredR.mk us2 (Row.of_own h2.2.1) (fun x hx => (h2.2.2.1 x hx).set)
    rw [h2.1, normP_idem] at this
    exact this
  have HR2 := Lib.hid hR2
  have hx2 := h2.2.2.2
  have HR1 := Lib.hid (HR.out.ext hx2)
  have e0 := hx2.cell e0
  have e1 := hx2.cell e1
  have hx2 := hx1.trans hx2
  clear h2 hn2 hR2 HR hx1
  have HPP := Lib.hid (HP.out.ext hx2)
  have HLL := Lib.hid (HL.out.ext hx2)
  generalize hH : matchP p l = M at *
  have HH := Lib.hid hH
  clear hH
  obtain ⟨n1, hn1⟩ : ∃ n1, n1 = (normP p).length := ⟨_, rfl⟩
  have HN1 := Lib.hid hn1
  rw [← hn1] at HNL hcn HR1 ⊢
  clear hn1
  have hle := HNL.out
  go_upto_region 5 with fail
  go_cut [72] from 44 to 72 (fun v72 wx => v72 = .bool false ∧ ∃ w3, w3 = wx ∧ Ext w2 w3)
  case first =>
    refine wp_region_facts [Fact.eq (.int .i64 0),
        Fact.eq (.bool false),
        Fact.eq (.bool false),
        Fact.eq v2,
        Fact.eq (.slice a1 n1 c1),
        Fact.eq (.bool true),
        Fact.eq (.bool false),
        Fact.eq (.bool false),
        Fact.eq (.bool false),
        Fact.eq (.slice a1 n1 c1),
        Fact.eq (.bool true),
        Fact.eq (.bool false),
        Fact.eq (.bool false),
        Fact.eq (.bool false),
        Fact.eq (.slice ap n cp),
        Fact.eq (.agg #[.string (strOf key), .slice aa l.length ca]),
        Fact.eq (.bool M),
        Fact.eq (.slice a1 n1 c1),
        Fact.eq (.agg #[.string (strOf key), .slice aa l.length ca]),
        Fact.eq (.bool M),
        Fact.eq (.bool false),
        Fact.eq (.bool false),
        Fact.eq (.bool false),
        Fact.eq (.slice a1 n1 c1),
        Fact.eq (.int .i64 n1),
        Fact.eq (.slice ap n cp),
        Fact.eq (.int .i64 n),
        Fact.eq (.bool false),
        Fact.eq (.bool false)]
      [[], [(0, 44)], [(1, 45)], [(2, 46)], [(2, 46)], [(3, 47), (4, 48), (2, 46)], [(5, 49), (2, 46)], [(2, 46), (6, 50)], [(7, 51)], [(8, 52)], [(9, 53), (8, 52)], [(10, 54), (8, 52)], [(8, 52), (11, 55)], [(12, 56)], [(13, 57)], [(13, 57)], [(14, 58), (15, 59), (13, 57)], [(13, 57)], [(13, 57)], [(17, 61), (18, 62), (13, 57)], [(16, 60), (19, 63), (13, 57)], [(13, 57), (20, 64)], [(21, 65)], [(22, 66)], [(23, 67), (22, 66)], [(22, 66)], [(25, 69), (22, 66)], [(24, 68), (26, 70), (22, 66)], [(22, 66), (27, 71)]]
      [(0, 44), (1, 45), (2, 46), (3, 47), (4, 48), (5, 49), (6, 50), (7, 51), (8, 52), (9, 53), (10, 54), (11, 55), (12, 56), (13, 57), (14, 58), (15, 59), (16, 60), (17, 61), (18, 62), (19, 63), (20, 64), (21, 65), (22, 66), (23, 67), (24, 68), (25, 69), (26, 70), (27, 71), (28, 72)] (by kernel_rfl) (by kernel_rfl) ?_ ?_
    · refine ⟨?_, ?_, ?_, ?_, ?_, ?_, ?_, ?_, ?_, ?_, ?_, ?_, ?_, ?_, ?_, ?_, ?_, ?_, ?_, ?_, ?_, ?_, ?_, ?_, ?_, ?_, ?_, ?_, ?_, trivial⟩
      · intro w1 hx1; change wpList _ _ _ _ _ _; exact ob_move rfl rfl rfl rfl rfl
      · intro w1 hx1; rintro _ rfl; change wpList _ _ _ _ _ _; go_wp2_with fail; exact ⟨rfl, Ext.refl _, rfl, rfl⟩
      · intro w1 hx1; rintro _ rfl; change wpList _ _ _ _ _ _; exact ob_move rfl rfl rfl rfl rfl
      · intro w1 hx1; rintro _ rfl; change wpList _ _ _ _ _ _; exact ob_move rfl rfl rfl rfl rfl
      · intro w1 hx1; rintro _ rfl; change wpList _ _ _ _ _ _; exact ob_move rfl rfl rfl rfl rfl
      · intro w1 hx1; rintro _ rfl; rintro _ rfl; rintro _ rfl; change wpList _ _ _ _ _ _; go_wp2_with fail; refine (psame_any w1 _ _ _ _ (HR2.out.ext hx1) (HR1.out.ext hx1)).mono ?_; rw [cmp_self]; rintro e w2 ⟨rfl, hx2⟩; go_wp2_with fail; exact ⟨rfl, hx2.1, rfl, rfl⟩
      · intro w1 hx1; rintro _ rfl; rintro _ rfl; change wpList _ _ _ _ _ _; go_wp2_with fail; exact ⟨rfl, Ext.refl _, rfl, rfl⟩
      · intro w1 hx1; rintro _ rfl; rintro _ rfl; change wpList _ _ _ _ _ _; exact ob_pick rfl rfl rfl rfl rfl rfl
      · intro w1 hx1; rintro _ rfl; change wpList _ _ _ _ _ _; exact ob_move rfl rfl rfl rfl rfl
      · intro w1 hx1; rintro _ rfl; change wpList _ _ _ _ _ _; exact ob_move rfl rfl rfl rfl rfl
      · intro w1 hx1; rintro _ rfl; rintro _ rfl; change wpList _ _ _ _ _ _; go_wp2_with fail; refine (pmay_any w1 _ _ (HR1.out.ext hx1)).mono ?_; rw [HNM.out]; rintro e w2 ⟨rfl, hx2⟩; go_wp2_with fail; exact ⟨rfl, hx2, rfl, rfl⟩
      · intro w1 hx1; rintro _ rfl; rintro _ rfl; change wpList _ _ _ _ _ _; go_wp2_with fail; exact ⟨rfl, Ext.refl _, rfl, rfl⟩
      · intro w1 hx1; rintro _ rfl; rintro _ rfl; change wpList _ _ _ _ _ _; exact ob_pick rfl rfl rfl rfl rfl rfl
      · intro w1 hx1; rintro _ rfl; change wpList _ _ _ _ _ _; exact ob_move rfl rfl rfl rfl rfl
      · intro w1 hx1; rintro _ rfl; change wpList _ _ _ _ _ _; exact ob_move rfl rfl rfl rfl rfl
      · intro w1 hx1; rintro _ rfl; change wpList _ _ _ _ _ _; have m0 := hx1.cell e0; have m1 := hx1.cell e1; go_wp2_with fail; exact ⟨rfl, Ext.refl _, rfl, rfl⟩
      · intro w1 hx1; rintro _ rfl; rintro _ rfl; rintro _ rfl; change wpList _ _ _ _ _ _; go_wp2_with fail; refine (matches_any w1 _ p key _ l (HPP.out.ext hx1) (HLL.out.ext hx1)).mono ?_; rw [HH.out]; rintro e w2 ⟨rfl, hx2⟩; go_wp2_with fail; exact ⟨rfl, hx2, rfl, rfl⟩
      · intro w1 hx1; rintro _ rfl; change wpList _ _ _ _ _ _; exact ob_move rfl rfl rfl rfl rfl
      · intro w1 hx1; rintro _ rfl; change wpList _ _ _ _ _ _; have m0 := hx1.cell e0; have m1 := hx1.cell e1; go_wp2_with fail; exact ⟨rfl, Ext.refl _, rfl, rfl⟩
      · intro w1 hx1; rintro _ rfl; rintro _ rfl; rintro _ rfl; change wpList _ _ _ _ _ _; go_wp2_with fail; refine (matches_any w1 _ (normP p) key _ l (HR1.out.ext hx1) (HLL.out.ext hx1)).mono ?_; rw [HMT.out]; rintro e w2 ⟨rfl, hx2⟩; go_wp2_with fail; exact ⟨rfl, hx2, rfl, rfl⟩
      · intro w1 hx1; rintro _ rfl; rintro _ rfl; rintro _ rfl; change wpList _ _ _ _ _ _; have q : (M != M) = false := bne_self_eq_false M; go_wp2_with fail; exact ⟨rfl, Ext.refl _, rfl, rfl⟩
      · intro w1 hx1; rintro _ rfl; rintro _ rfl; change wpList _ _ _ _ _ _; exact ob_pick rfl rfl rfl rfl rfl rfl
      · intro w1 hx1; rintro _ rfl; change wpList _ _ _ _ _ _; exact ob_move rfl rfl rfl rfl rfl
      · intro w1 hx1; rintro _ rfl; change wpList _ _ _ _ _ _; exact ob_move rfl rfl rfl rfl rfl
      · intro w1 hx1; rintro _ rfl; rintro _ rfl; change wpList _ _ _ _ _ _; go_wp2_with fail; exact ⟨rfl, Ext.refl _, rfl, rfl⟩
      · intro w1 hx1; rintro _ rfl; change wpList _ _ _ _ _ _; exact ob_move rfl rfl rfl rfl rfl
      · intro w1 hx1; rintro _ rfl; rintro _ rfl; change wpList _ _ _ _ _ _; go_wp2_with fail; exact ⟨rfl, Ext.refl _, rfl, rfl⟩
      · intro w1 hx1; rintro _ rfl; rintro _ rfl; rintro _ rfl; change wpList _ _ _ _ _ _; have q : decide (n < n1) = false := decide_eq_false (by omega); have q2 : ¬ n < n1 := (by omega); go_wp2_with fail; exact ⟨rfl, Ext.refl _, rfl, rfl⟩
      · intro w1 hx1; rintro _ rfl; rintro _ rfl; change wpList _ _ _ _ _ _; exact ob_pick rfl rfl rfl rfl rfl rfl
    · intro w1 hx1; rintro _ rfl; rintro _ rfl; rintro _ rfl; rintro _ rfl; rintro _ rfl; rintro _ rfl; rintro _ rfl; rintro _ rfl; rintro _ rfl; rintro _ rfl; rintro _ rfl; rintro _ rfl; rintro _ rfl; rintro _ rfl; rintro _ rfl; rintro _ rfl; rintro _ rfl; rintro _ rfl; rintro _ rfl; rintro _ rfl; rintro _ rfl; rintro _ rfl; rintro _ rfl; rintro _ rfl; rintro _ rfl; rintro _ rfl; rintro _ rfl; rintro _ rfl; rintro _ rfl; refine depsThen_nil ?_; dsimp only; simp only [Act.put, List.setIfInBounds_toArray, List.set_cons_zero, List.set_cons_succ]
      go_wp2_with fail
      go_meet
      exact ⟨rfl, _, rfl, hx1⟩
  case rest =>
    obtain ⟨rfl, w3, rfl, hx3⟩ := hcut
    have HR3 := Lib.hid (HR1.out.ext hx3)
    have hx3 := hx2.trans hx3
    clear hx2 HR1 HR2 HPP HLL e0 e1 HMT HH HL
    go_wp2_with fail
    go_loopw [9, 10, 11, 12, 13, 75] (fun bk _ _ _ _ i wr => ∃ (k : Nat) (us : List CS), k ≤ n ∧ i = .int .i64 k ∧ Hid (us.length = k) ∧ Hid (us.map CS.c = (p.reverse.take k).map revC) ∧ Hid (wr.ownsRow w3.heap.size 31 7 bk us.length (us.flatMap csC)) ∧ Hid (∀ x ∈ us, SetO w.heap.size wr x) ∧ Ext w3 wr) (fun _ _ _ _ _ i _ => n - (intOf i).toNat)
    case atStart => exact ⟨0, [], Nat.zero_le _, rfl, rfl, rfl, ⟨rfl, .inl ⟨rfl, rfl⟩⟩, fun _ h => (by cases h), Ext.refl _⟩
    case round =>
      obtain ⟨k, us, hk, rfl, hlen, hus, hown, hset, hx⟩ := hrel
      by_cases hlt : k < n
      · have hI : decide ((k : Int) < (n : Int)) = true := decide_eq_true (by omega)
        have k1 : n - 1 - k < p.length := by have := HN.out; omega
        obtain ⟨B, o, sa, sc, rfl, f0, f1, f2, f3, f4, f5, f6, fs⟩ := (HP.out.ext (hx3.trans hx)).at k1
        have hmc := Lib.hid (hall.out p[n - 1 - k] (List.getElem_mem k1))
        have htk : (p.reverse.take (k + 1)).map revC = (p.reverse.take k).map revC ++ [revC p[n - 1 - k]] := by
          rw [rev_take (by have := HN.out; omega), List.map_append]
          simp only [← HN.out]; rfl
        have HTK := Lib.hid htk
        clear htk
        have hi0 : (0 : Int) ≤ (n : Int) - 1 - (k : Int) := by omega
        have hi1 : (n : Int) - 1 - (k : Int) < (n : Int) := by omega
        have hi2 : ((n : Int) - 1 - (k : Int)).toNat = n - 1 - k := by omega
        generalize p[n - 1 - k] = c at *
        have hsl := may_set hmc.out
        have hxW : Ext wr (wr.alloc (.cells #[.string (strOf c.name), .int .i64 c.op, .int .i64 c.v.k, .int .i64 c.v.n, .string (strOf c.v.s), .bool c.v.b, .slice sa c.set.length sc] 31)) := (Ext.refl wr).alloc _
        have hB : (wr.alloc (.cells #[.string (strOf c.name), .int .i64 c.op, .int .i64 c.v.k, .int .i64 c.v.n, .string (strOf c.v.s), .bool c.v.b, .slice sa c.set.length sc] 31)).heap[wr.heap.size]? = some (.cells #[.string (strOf c.name), .int .i64 c.op, .int .i64 c.v.k, .int .i64 c.v.n, .string (strOf c.v.s), .bool c.v.b, .slice sa c.set.length sc] 31 (0, 0)) := heap_alloc_new _ _
        have hsW := fs.ext hxW
        have hsz : (wr.alloc (.cells #[.string (strOf c.name), .int .i64 c.op, .int .i64 c.v.k, .int .i64 c.v.n, .string (strOf c.v.s), .bool c.v.b, .slice sa c.set.length sc] 31)).heap.size = wr.heap.size + 1 := World.size_alloc _ _
        obtain ⟨m, hm⟩ : ∃ m, m = c.set.length := ⟨_, rfl⟩
        have HM2 := Lib.hid hm
        go_wp2_with fail
        generalize wr.alloc (.cells #[.string (strOf c.name), .int .i64 c.op, .int .i64 c.v.k, .int .i64 c.v.n, .string (strOf c.v.s), .bool c.v.b, .slice sa c.set.length sc] 31) = W at *
        rw [← hm] at hB hsl f6 hsW ⊢
        clear hm f0 f1 f2 f3 f4 f5 f6 fs hi0 hi1 hi2
        obtain ⟨wo, hwo⟩ : ∃ wo : World, wo = wr := ⟨_, rfl⟩
        subst hwo
        have hWsz : w.heap.size ≤ W.heap.size := by have := (hx3.trans hx).size; omega
        go_loopw [12, 13, 89] (fun st _ i wr => ∃ j : Nat, j ≤ m ∧ i = .int .i64 j ∧ Hid (wr.ownsRow W.heap.size 28 4 st j ((c.set.reverse.take j).flatMap vC)) ∧ Ext W wr) (fun _ _ i _ => m - (intOf i).toNat)
        case atStart => exact ⟨0, Nat.zero_le _, rfl, ⟨rfl, .inl ⟨rfl, rfl⟩⟩, Ext.refl _⟩
        case round =>
          obtain ⟨j, hj, rfl, hos, hy⟩ := hrel
          have hB2 := hB
          rw [← hy.block _ (Array.getElem?_eq_some_iff.1 hB).1] at hB2
          have b6 := cell_of_row _ _ 6 _ _ _ hB2
          by_cases hjm : j < m
          · have hI2 : decide ((j : Int) < (m : Int)) = true := decide_eq_true (by omega)
            have j1 : m - 1 - j < c.set.length := by have := HM2.out; omega
            obtain ⟨B2, o2, rfl, g0, g1, g2, g3⟩ := SetR.at (hsW.ext hy) j1
            have htk : c.set.reverse.take (j + 1) = c.set.reverse.take j ++ [c.set[m - 1 - j]] := by
              rw [rev_take (by have := HM2.out; omega)]
              simp only [← HM2.out]
            have HTK2 := Lib.hid htk
            clear htk
            have hi0 : (0 : Int) ≤ (m : Int) - 1 - (j : Int) := by omega
            have hi1 : (m : Int) - 1 - (j : Int) < (m : Int) := by omega
            have hi2 : ((m : Int) - 1 - (j : Int)).toNat = m - 1 - j := by omega
            generalize c.set[m - 1 - j] = x at *
            have hro := addRowV wr x
            have hone := vC_one [x]
            rw [List.flatMap_singleton] at hone
            have hos2 := own_ext hos.out ((Ext.refl _).alloc (.cells (vC x).toArray 28))
            have hy2 := hy.alloc (.cells (vC x).toArray 28)
            have HRO := Lib.hid hro
            have HONE := Lib.hid hone
            have HOS2 := Lib.hid hos2
            have HY2 := Lib.hid hy2
            clear hro hone hos2 hy2 hB2
            go_wp2_with (at_builtin; refine wpList_append_row 29 28 (.tmp 92) (.tmp 103) rfl W.heap.size _ 4 40 Try.underlying29 info28t rfl (by decide) rfl _ j ((c.set.reverse.take j).flatMap vC) rfl HOS2.out 1 (vC x) HRO.out HONE.out (by omega) (by unfold maxLen; omega) HY2.out.size ?_; intro v' w7 hown7 hgrow; have HOWN7 := Lib.hid hown7; have HG := Lib.hid hgrow; clear hown7 hgrow)
            go_roundw
            case rel =>
              refine ⟨j + 1, hjm, by go_num, ?_, HY2.out.grown_none HG.out (own_base HOS2.out)⟩
              show World.ownsRow _ _ _ _ _ _ _
              rw [HTK2.out, List.flatMap_append, List.flatMap_singleton]
              exact HOWN7.out
            case measure => simp [intOf]; omega
          · obtain rfl : j = m := by omega
            have hI2 : decide ((j : Int) < (j : Int)) = false := decide_eq_false (by omega)
            have hrl : (revC c).set.length = j := by unfold revC; rw [List.length_reverse]; exact HM2.out.symm
            have hown4 : wr.ownsRow W.heap.size 28 4 u12 (revC c).set.length ((revC c).set.flatMap vC) := by
              rw [hrl]
              have h := hos.out
              rw [List.take_of_length_le (by rw [List.length_reverse, HM2.out]; exact Nat.le_refl _)] at h
              exact h
            have HW4 := Lib.hid hown4
            clear hown4 hrl hos
            obtain ⟨a4, cap4, rfl, _, _⟩ := Row.shape (Row.of_own HW4.out)
            have c0 := cell_of_row _ _ 0 _ _ _ hB2
            have c1' := cell_of_row _ _ 1 _ _ _ hB2
            have c2 := cell_of_row _ _ 2 _ _ _ hB2
            have c3 := cell_of_row _ _ 3 _ _ _ hB2
            have c4 := cell_of_row _ _ 4 _ _ _ hB2
            have c5 := cell_of_row _ _ 5 _ _ _ hB2
            have z6 : wr.frozen? ⟨wo.heap.size, 6, none⟩ = false := by simp [World.frozen?, hB2]
            have hx5 : Ext wo (wr.setCell ⟨wo.heap.size, 6, none⟩ (.slice a4 (revC c).set.length cap4)) := (hxW.trans hy).setCell (Nat.le_refl _) _
            have hlt4 : wo.heap.size < wr.heap.size := by have := hy.size; omega
            have hset4 : SetO w.heap.size (wr.setCell ⟨wo.heap.size, 6, none⟩ (.slice a4 (revC c).set.length cap4)) ⟨revC c, (.slice a4 (revC c).set.length cap4)⟩ :=
              own_keep (own_low HW4.out hWsz) (grown_setCell wr ⟨wo.heap.size, 6, none⟩ _) fun q hq e => by
                have := own_base HW4.out q hq
                have e2 : wo.heap.size = q := Option.some.inj e
                omega
            have hrow := addRow (wr.setCell ⟨wo.heap.size, 6, none⟩ (.slice a4 (revC c).set.length cap4)) ⟨revC c, (.slice a4 (revC c).set.length cap4)⟩
            have hs5 : (wr.setCell ⟨wo.heap.size, 6, none⟩ (.slice a4 (revC c).set.length cap4)).heap.size = wr.heap.size := World.size_setCell _ _ _
            rw [hs5] at hrow
            clear hs5
            have hx6 : Ext wo ((wr.setCell ⟨wo.heap.size, 6, none⟩ (.slice a4 (revC c).set.length cap4)).alloc (.cells #[.string (strOf c.name), .int .i64 c.op, .int .i64 c.v.k, .int .i64 c.v.n, .string (strOf c.v.s), .bool c.v.b, .slice a4 (revC c).set.length cap4] 31)) := hx5.alloc _
            have hset6 := hset4.ext ((Ext.refl _).alloc (.cells #[.string (strOf c.name), .int .i64 c.op, .int .i64 c.v.k, .int .i64 c.v.n, .string (strOf c.v.s), .bool c.v.b, .slice a4 (revC c).set.length cap4] 31))
            have hown6 := own_ext hown.out hx6
            have hone := csC_one [⟨revC c, (.slice a4 (revC c).set.length cap4)⟩] (fun y hy => by rw [List.mem_singleton.1 hy]; rfl)
            rw [List.flatMap_singleton] at hone
            have hlen2 : us.length ≤ 6 := by have := hlen.out; omega
            have hbase : w3.heap.size ≤ ((wr.setCell ⟨wo.heap.size, 6, none⟩ (.slice a4 (revC c).set.length cap4)).alloc (.cells #[.string (strOf c.name), .int .i64 c.op, .int .i64 c.v.k, .int .i64 c.v.n, .string (strOf c.v.s), .bool c.v.b, .slice a4 (revC c).set.length cap4] 31)).heap.size := (hx.trans hx6).size
            have HSET6 := Lib.hid hset6
            have HOWN6 := Lib.hid hown6
            have HROW := Lib.hid hrow
            have HONE := Lib.hid hone
            have HX6 := Lib.hid hx6
            have HBS := Lib.hid hbase
            clear hset6 hown6 hrow hone hx6 hx5 hset4 hbase hsz hB2 hB
            go_wp2_with (at_builtin; refine wpList_append_row 23 31 (.tmp 108) (.tmp 110) rfl w3.heap.size _ 7 88 Try.underlying23 info31t rfl (by decide) rfl _ us.length (us.flatMap csC) rfl HOWN6.out 1 (csC ⟨revC c, (.slice a4 (revC c).set.length cap4)⟩) HROW.out HONE.out (by omega) (by unfold maxLen; omega) HBS.out ?_; intro v' w7 hown7 hgrow; have HOWN7 := Lib.hid hown7; have HG := Lib.hid hgrow; clear hown7 hgrow)
            go_roundw
            case rel =>
              refine ⟨k + 1, us ++ [⟨revC c, (.slice a4 (revC c).set.length cap4)⟩], hlt, by go_num, ?_, ?_, ?_, ?_, ?_⟩
              · show _ = _; rw [List.length_append, List.length_singleton, hlen.out]
              · show _ = _; rw [HTK.out, ← hus.out, List.map_append]; rfl
              · show World.ownsRow _ _ _ _ _ _ _
                rw [List.length_append, List.length_singleton, List.flatMap_append, List.flatMap_singleton]
                exact HOWN7.out
              · show ∀ x ∈ us ++ [_], _
                intro x hxm
                rcases List.mem_append.1 hxm with hxm | hxm
                · exact ((hset.out x hxm).ext HX6.out).keep HOWN6.out HG.out
                · rw [List.mem_singleton.1 hxm]; exact HSET6.out.keep HOWN6.out HG.out
              · exact (hx.trans HX6.out).grown_none HG.out (own_base HOWN6.out)
            case measure => simp [intOf]; omega
      · obtain rfl : k = n := by omega
        have hI : decide ((k : Int) < (k : Int)) = false := decide_eq_false (by omega)
        have hus2 : Hid (us.map CS.c = p.reverse.map revC) := by
          have h := hus.out
          rw [List.take_of_length_le (by rw [List.length_reverse, ← HN.out]; exact Nat.le_refl _)] at h
          exact h
        have hlen2 : us.length ≤ 6 := by have := hlen.out; omega
        go_upto_if 116 with fail
        go_cut [9, 116] from 117 to 119 (fun v9 _ wx => ∃ wb, wb = wx ∧ Ext w3 wb ∧ PredR wb v9 (backP p))
        case first =>
          by_cases h3 : k ≤ 3
          · have q : decide (2 * (k : Int) ≤ 6) = true := decide_eq_true (by omega)
            obtain ⟨usp, hmap, hrow, hsets⟩ := HP.out
            have hpl : usp.length = k := by rw [HN.out, ← hmap, List.length_map]
            have hone := csC_one usp (fun x hx => set_one (hsets x hx))
            have hrw := hrow.ext (hx3.trans hx)
            have HROW := Lib.hid hrw
            have HONE := Lib.hid hone
            have hun : us.length + usp.length ≤ 9 := by omega
            have HPL := Lib.hid hpl
            have HMAP := Lib.hid hmap
            have HSETS := Lib.hid hsets
            clear hmap hrow hsets hpl hone hrw
            go_wp2_with (at_builtin; refine wpList_append_row 23 31 (.tmp 117) (.tmp 118) rfl w3.heap.size _ 7 88 Try.underlying23 info31t rfl (by decide) rfl _ us.length (us.flatMap csC) rfl hown.out usp.length (usp.flatMap csC) HROW.out HONE.out (by omega) (by unfold maxLen; omega) hx.size ?_; intro v' w7 hown7 hgrow; have HOWN7 := Lib.hid hown7; have HG := Lib.hid hgrow; clear hown7 hgrow)
            go_meet
            have hx7 : Ext w3 w7 := hx.grown_none HG.out (own_base hown.out)
            refine ⟨w7, rfl, hx7, ?_⟩
            have e : backP p = (us ++ usp).map CS.c := by
              unfold backP
              rw [List.map_append, hus2.out, HMAP.out, if_pos (by rw [← HN.out]; omega)]
            rw [e]
            refine PredR.mk _ (by rw [List.length_append, List.flatMap_append]; exact Row.of_own HOWN7.out) fun x hxm => ?_
            rcases List.mem_append.1 hxm with hxm | hxm
            · exact ((hset.out x hxm).keep hown.out HG.out).set
            · exact (HSETS.out x hxm).ext (hx3.trans hx7)
          · have q : decide (2 * (k : Int) ≤ 6) = false := decide_eq_false (by omega)
            go_wp2_with fail
            go_meet
            refine ⟨_, rfl, hx, ?_⟩
            have e : backP p = us.map CS.c := by
              unfold backP
              rw [hus2.out, if_neg (by rw [← HN.out]; omega), List.append_nil]
            rw [e]
            exact PredR.mk _ (Row.of_own hown.out) fun x hxm => (hset.out x hxm).set
        case rest =>
          obtain ⟨wb, rfl, hxb, hPB⟩ := hcut
          have hb2 := normal_yes wb _ _ hPB (back_may HM.out)
          have HR4 := Lib.hid (HR3.out.ext hxb)
          have hxb := hx3.trans hxb
          have HBN := Lib.hid (back_norm HM.out)
          have HB2 := Lib.hid hb2
          have HXB := Lib.hid hxb
          clear hb2 hPB hxb hus2 hlen hus hown hset hx hlen2 HR3
          go_wp2_with fail
          refine HB2.out.mono ?_
          rintro e w5 ⟨v5, us5, rfl, h5⟩
          have hR5 : PredR w5 v5 (normP p) := by
            have := PredR.mk us5 (Row.of_own h5.2.1) (fun x hx => (h5.2.2.1 x hx).set)
            rw [h5.1, HBN.out] at this
            exact this
          have HR5 := Lib.hid hR5
          have HR6 := Lib.hid (HR4.out.ext h5.2.2.2)
          have HX5 := Lib.hid (HXB.out.trans h5.2.2.2)
          clear h5 hR5 HR4 HXB HB2 HBN
          go_wp2_with fail
          go_loopw [16] (fun i wr => ∃ j : Nat, 1 ≤ j ∧ j ≤ n1 + 1 ∧ i = .int .i64 j ∧ Ext w5 wr) (fun i _ => n1 + 1 - (intOf i).toNat)
          case atStart => exact ⟨1, Nat.le_refl _, by omega, rfl, Ext.refl _⟩
          case round =>
            obtain ⟨j, hj1, hj2, rfl, hy⟩ := hrel
            by_cases hjn : j < n1
            · have hI2 : decide ((j : Int) < (n1 : Int)) = true := decide_eq_true (by omega)
              have hup := cmp_step (normP_up p) (k := j - 1) (by have := HN1.out; omega)
              have e1 : j - 1 + 1 = j := by omega
              have e2 : j - 1 + 2 = j + 1 := by omega
              rw [e1, e2] at hup
              clear e1 e2
              have HRw := Lib.hid (HR6.out.ext hy)
              have hn16 : n1 ≤ 6 := by omega
              obtain ⟨r, hr⟩ : ∃ r, r = cmpP (((normP p).take j).drop (j - 1)) (((normP p).take (j + 1)).drop j) := ⟨_, rfl⟩
              rw [← hr] at hup
              have HRR := Lib.hid hr
              clear hr
              go_upto_region 27 with fail
              refine wp_region_facts [Fact.eq (.slice a1 n1 c1),
                  Fact.eq (.int .i64 j),
                  Fact.eq (.int .i64 ((j : Int) - 1)),
                  Fact.eq (.int .i64 j),
                  Fact.pred (((normP p).take j).drop (j - 1)),
                  Fact.eq (.slice a1 n1 c1),
                  Fact.eq (.int .i64 j),
                  Fact.eq (.int .i64 j),
                  Fact.eq (.int .i64 ((j : Int) + 1)),
                  Fact.pred (((normP p).take (j + 1)).drop j),
                  Fact.eq (.int .i64 r),
                  Fact.eq (.bool false)]
                [[], [], [(1, 132)], [], [(0, 131), (2, 133), (3, 134)], [], [], [], [(7, 138)], [(5, 136), (6, 137), (8, 139)], [(4, 135), (9, 140)], [(10, 141)]]
                [(0, 131), (1, 132), (2, 133), (3, 134), (4, 135), (5, 136), (6, 137), (7, 138), (8, 139), (9, 140), (10, 141), (11, 142)] (by kernel_rfl) (by kernel_rfl) ?_ ?_
              · refine ⟨?_, ?_, ?_, ?_, ?_, ?_, ?_, ?_, ?_, ?_, ?_, ?_, trivial⟩
                · intro w1 hx1; change wpList _ _ _ _ _ _; exact ob_move rfl rfl rfl rfl rfl
                · intro w1 hx1; change wpList _ _ _ _ _ _; exact ob_move rfl rfl rfl rfl rfl
                · intro w1 hx1; rintro _ rfl; change wpList _ _ _ _ _ _; go_wp2_with fail; exact ⟨rfl, Ext.refl _, rfl, rfl⟩
                · intro w1 hx1; change wpList _ _ _ _ _ _; exact ob_move rfl rfl rfl rfl rfl
                · intro w1 hx1; rintro _ rfl; rintro _ rfl; rintro _ rfl; change wpList _ _ _ _ _ _; refine predCut 23 (.tmp 131) (some (.tmp 133)) (some (.tmp 134)) n1 (j - 1) j (normP p) rfl Try.underlying23 size31 rfl (HRw.out.ext hx1) HN1.out.symm ⟨.i64, (j : Int) - 1, rfl, by omega, by omega⟩ ⟨.i64, (j : Int), rfl, by omega, by omega⟩ (by omega) (by omega) ?_; intro v hv; exact wpList_nil ⟨rfl, Ext.refl _, rfl, hv⟩
                · intro w1 hx1; change wpList _ _ _ _ _ _; exact ob_move rfl rfl rfl rfl rfl
                · intro w1 hx1; change wpList _ _ _ _ _ _; exact ob_move rfl rfl rfl rfl rfl
                · intro w1 hx1; change wpList _ _ _ _ _ _; exact ob_move rfl rfl rfl rfl rfl
                · intro w1 hx1; rintro _ rfl; change wpList _ _ _ _ _ _; go_wp2_with fail; exact ⟨rfl, Ext.refl _, rfl, rfl⟩
                · intro w1 hx1; rintro _ rfl; rintro _ rfl; rintro _ rfl; change wpList _ _ _ _ _ _; refine predCut 23 (.tmp 136) (some (.tmp 137)) (some (.tmp 139)) n1 j (j + 1) (normP p) rfl Try.underlying23 size31 rfl (HRw.out.ext hx1) HN1.out.symm ⟨.i64, (j : Int), rfl, by omega, by omega⟩ ⟨.i64, (j : Int) + 1, rfl, by omega, by omega⟩ (by omega) (by omega) ?_; intro v hv; exact wpList_nil ⟨rfl, Ext.refl _, rfl, hv⟩
                · intro w1 hx1; intro v135 h135; intro v140 h140; change wpList _ _ _ _ _ _; go_wp2_with fail; refine (pcompare_any w1 _ _ _ _ h135 h140).mono ?_; rw [← HRR.out]; rintro e w2 ⟨rfl, hx2⟩; go_wp2_with fail; exact ⟨rfl, hx2.1, rfl, rfl⟩
                · intro w1 hx1; rintro _ rfl; change wpList _ _ _ _ _ _; have q : decide (0 ≤ r) = false := decide_eq_false (by omega); go_wp2_with fail; exact ⟨rfl, Ext.refl _, rfl, rfl⟩
              · intro w1 hx1; rintro _ rfl; rintro _ rfl; rintro _ rfl; rintro _ rfl; intro v135 h135; rintro _ rfl; rintro _ rfl; rintro _ rfl; rintro _ rfl; intro v140 h140; rintro _ rfl; rintro _ rfl; refine depsThen_nil ?_; dsimp only; simp only [Act.put, List.setIfInBounds_toArray, List.set_cons_zero, List.set_cons_succ]
                replace h135 : (Fact.pred (((normP p).take j).drop (j - 1))).p v135 w1 := h135
                replace h140 : (Fact.pred (((normP p).take (j + 1)).drop j)).p v140 w1 := h140
                go_wp2_with fail
                go_roundw
                case rel => exact ⟨j + 1, by omega, by omega, by go_num, hy.trans hx1⟩
                case measure => simp [intOf]; omega
            · have hI2 : decide ((j : Int) < (n1 : Int)) = false := decide_eq_false (by omega)
              have HR7 := Lib.hid (HR5.out.ext hy)
              have HR8 := Lib.hid (HR6.out.ext hy)
              have HX7 := Lib.hid (HX5.out.trans hy)
              go_wp2_with fail
              refine (awake_any _).mono ?_
              rintro e w8 ⟨rfl, hx8⟩
              have hcs := psame_any w8 _ _ _ _ (HR7.out.ext hx8) (HR8.out.ext hx8)
              rw [cmp_self] at hcs
              go_wp2_with fail
              refine hcs.mono ?_
              rintro e w9 ⟨rfl, hx9⟩
              go_wp2_with fail
              go_ret
              exact ⟨rfl, HX7.out.trans (hx8.trans hx9.1)⟩
theorem predNormal_walk (w : World) (v : Value) (p : List C) (key : List UInt8) (va : Value) (l : List (List UInt8 × V)) (hp : PredR w v p) (hl : AttrR w va l) :
    Calls Try.prog 4 #[v, .agg #[.string (strOf key), va]] w fun e w' => e = .returned (.bool true) ∧ Ext w w' := by
  cases hm : mayP p with
  | true => exact predNormal_yes w v p key va l hp hl hm
  | false => exact predNormal_no w v p key va l hp hl hm
end Go.Proofs.Ytkefppdacigbmaa
