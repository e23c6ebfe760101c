/- CompactTwice, walked. -/
import Derived.Test.YtlgopjfnknjgjaaWCompactOrder
import Derived.Test.YtlgopjfnknjgjaaK13
namespace Go.Proofs.Ytlgopjfnknjgjaa
open Go.RowKit Go.MapKept

theorem wpList_max2 {P : Program} {ops : Array Oper} {Q : Exit → Act → World → Prop} {a : Act} {w : World} {rest : List Oper} {o : Oper} (x y : Operand) (ts : Array TypeId)
    (ho : o.op = .call { callee := .builtin .max, args := #[x, y], argTypes := ts }) (hw : Region.wanted o (yielded ops a.tmps) = true) (p q : Nat)
    (hx : a.eval x = .int .u64 p) (hy : a.eval y = .int .u64 q)
    (h : wpList P ops Q rest (a.put o.dst (.int .u64 (max p q : Nat))) w) : wpList P ops Q (o :: rest) a w := by
  refine wpList_val hw ?_ h
  have hr2 := run_max_int2 (P := P) (w := w) ts o.type .u64 .u64 (p : Int) q
  have e : (if (p : Int) < (q : Int) then (q : Int) else (p : Int)) = ((max p q : Nat) : Int) := by split <;> omega
  rw [e] at hr2
  simp [execOp, ho, resolve, invoke, builtin, hx, hy, hr2, Result.andThen]
def moreI (M : Nat) (ks : List (List UInt8)) : List IT := ks.zipIdx.map fun p => kIt (M + p.2 + 1) p.1
theorem moreI_snoc (M : Nat) (ks : List (List UInt8)) (x : List UInt8) : moreI M (ks ++ [x]) = moreI M ks ++ [kIt (M + ks.length + 1) x] := by
  unfold moreI
  rw [List.zipIdx_append, List.map_append]
  simp
theorem moreI_len (M : Nat) (ks : List (List UInt8)) : (moreI M ks).length = ks.length := by unfold moreI; rw [List.length_map, List.length_zipIdx]
theorem moreI_mem (M : Nat) (ks : List (List UInt8)) : ∀ x ∈ moreI M ks, M < x.n ∧ x.n ≤ M + ks.length ∧ x.h = .slice none 0 0 := by
  induction ks using rev_ind with
  | h0 => intro x h; cases h
  | h l x ih =>
    intro y hy
    rw [moreI_snoc, List.mem_append] at hy
    rw [List.length_append, List.length_singleton]
    rcases hy with hy | hy
    · have := ih y hy
      exact ⟨this.1, by omega, this.2.2⟩
    · rw [List.mem_singleton] at hy
      subst hy
      exact ⟨by show M < M + l.length + 1; omega, by show M + l.length + 1 ≤ _; omega, rfl⟩
theorem own_new {w : World} {v : Value} {n base n1 : Nat} {x : List UInt8} {q pr r : List IT} (h : w.ownsRow base 33 4 v (n + 1) ((q ++ pr).flatMap iC ++ [.int .u64 n1, .int .u64 0, .string (strOf x), .slice none 0 0])) (e : r = pr ++ [kIt n1 x]) : w.ownsRow base 33 4 v (n + 1) ((q ++ r).flatMap iC) := by
  subst e
  rw [← List.append_assoc, List.flatMap_append]
  simpa [iC_kIt] using h
theorem app_bounds {n k : Nat} (h : n ≤ 200) (hk : k ≤ 100) : (n + k + 1) * 56 ≤ 140737488355328 ∧ n + k + 1 ≤ maxLen := by unfold maxLen; omega
def Fact.row1 (n : Nat) (xs : List Value) : Fact := ⟨fun v w => Row w 1 v n xs, fun _ _ _ hx h => h.ext hx⟩
theorem cut_q {w : World} {v : Value} {us q : List IT} {m : Nat} (e : us.take m = q) (h : Row w 4 v (m - 0) (((us.take m).drop 0).flatMap iC)) : Row w 4 v m (q.flatMap iC) := by
  rw [List.drop_zero, Nat.sub_zero, e] at h; exact h
theorem cut_s {w : World} {v : Value} {us q : List (List UInt8)} {m : Nat} (e : us.take m = q) (h : Row w 1 v (m - 0) (((us.take m).drop 0).map stC)) : Row w 1 v m (q.map stC) := by
  rw [List.drop_zero, Nat.sub_zero, e] at h; exact h
theorem dbl_nil (W : World) (v : Value) (us : List IT) (hi : ItemR W v us) (hl : us.length ≤ 500) (hb : ∀ x ∈ us, x.n < 18446744073709551616) (he : doublesF (us.map nkOf) = []) :
    Calls Try.prog 12 #[v] W fun e w' => ∃ a c, e = .returned (.slice a 0 c) ∧ Ext W w' := by
  refine (dbl_is W v us [] hi hl hb he).mono ?_
  rintro e w' ⟨a, c, rfl, _, h⟩
  exact ⟨a, c, rfl, h⟩
theorem sty_is (W : World) (v : Value) (us S : List IT) (hi : ItemR W v us) (hl : us.length ≤ 500) (he : staysI us = S) :
    Calls Try.prog 13 #[v] W fun e w' => ∃ a c, e = .returned (.slice a S.length c) ∧ w'.ownsRow W.heap.size 33 4 (.slice a S.length c) S.length (S.flatMap iC) ∧ ItemR w' (.slice a S.length c) S ∧ Ext W w' := by
  refine (stays_any W v us hi (by omega)).mono ?_
  rintro e w' ⟨v', rfl, h1, h2⟩
  rw [he] at h1
  obtain ⟨a, c, rfl, _, _⟩ := own_shape h1
  exact ⟨a, c, rfl, h1, ⟨Row.of_own h1, fun x hx => hi.hs x (stays_mem us x (by rw [he]; exact hx))⟩, h2⟩

set_option maxRecDepth 100000 in
set_option maxHeartbeats 8000000 in
theorem compactTwice_walk (w : World) (vl vm : Value) (us : List IT) (ks : List (List UInt8)) (hi : ItemR w vl us) (hb : ∀ x ∈ us, okI x) (hk : StR w vm ks) : Calls Try.prog 5 #[vl, vm] w fun e w' => e = .returned (.bool true) ∧ Ext w w' := by
  obtain ⟨a, cap, rfl, hc, hmx⟩ := hi.shape
  obtain ⟨ak, capk, rfl, hck, hmxk⟩ := Row.shape hk
  unfold maxLen at hmx hmxk
  unfold StR at hk
  have hr := hi.row
  generalize hN : us.length = N at *
  generalize hK : ks.length = K at *
  obtain ⟨m, hm⟩ : ∃ m, m = min N 200 := ⟨_, rfl⟩
  obtain ⟨mk, hmk⟩ : ∃ mk, mk = min K 100 := ⟨_, rfl⟩
  have qm : min (N : Int) 200 = (m : Int) := by omega
  have qmk : min (K : Int) 100 = (mk : Int) := by omega
  have im : (if (200 : Int) < (N : Int) then (200 : Int) else (N : Int)) = (m : Int) := by split <;> omega
  have imk : (if (100 : Int) < (K : Int) then (100 : Int) else (K : Int)) = (mk : Int) := by split <;> omega
  have hql : (us.take m).length = m := by rw [List.length_take]; omega
  have hkl : (ks.take mk).length = mk := by rw [List.length_take]; omega
  have hqb : ∀ x ∈ us.take m, x.n < 18446744073709551616 := fun x hx => (hb x (List.mem_of_mem_take hx)).1
  have hqh : ∀ x ∈ us.take m, ∃ a n c, x.h = .slice a n c := fun x hx => (hb x (List.mem_of_mem_take hx)).2
  have hm1 : m ≤ 200 := by omega
  have hm2 : m ≤ N := by omega
  have hk1 : mk ≤ 100 := by omega
  have hk2 : mk ≤ K := by omega
  have HR := Lib.hid hr
  have HKR := Lib.hid hk
  have HQL := Lib.hid hql
  have HKL := Lib.hid hkl
  have HQB := Lib.hid hqb
  have HQH := Lib.hid hqh
  clear hi hb hN hK hm hmk hr hk hql hkl hqb hqh
  generalize ht : us.take m = q at *
  generalize ht2 : ks.take mk = ms at *
  have HT := Lib.hid ht
  have HT2 := Lib.hid ht2
  clear ht ht2
  go_enter Try.func5, Try.ntmps5
  go_upto_region 1 with fail
  refine wp_region_facts [Fact.eq (.slice a N cap),
      Fact.eq (.slice a N cap),
      Fact.eq (.int .i64 N),
      Fact.eq (.int .i64 m),
      Fact.row4 m (q.flatMap iC),
      Fact.eq (.slice ak K capk),
      Fact.eq (.slice ak K capk),
      Fact.eq (.int .i64 K),
      Fact.eq (.int .i64 mk),
      Fact.row1 mk (ms.map stC),
      Fact.row4 m (q.flatMap iC),
      Fact.row1 mk (ms.map stC)]
    [[], [], [(1, 17)], [(2, 18)], [(0, 16), (3, 19)], [], [], [(6, 22)], [(7, 23)], [(5, 21), (8, 24)], [(4, 20)], [(9, 25)]]
    [(0, 16), (1, 17), (2, 18), (3, 19), (4, 20), (5, 21), (6, 22), (7, 23), (8, 24), (9, 25), (10, 0), (11, 1)] (by kernel_rfl) (by kernel_rfl) ?_ ?_
  · refine ⟨?_, ?_, ?_, ?_, ?_, ?_, ?_, ?_, ?_, ?_, ?_, ?_, trivial⟩
    · intro w1 hx1; change wpList _ _ _ _ _ _; exact ob_move rfl rfl rfl rfl rfl
    · intro w1 hx1; change wpList _ _ _ _ _ _; exact ob_move rfl rfl rfl rfl rfl
    · intro w1 hx1; rintro _ rfl; change wpList _ _ _ _ _ _; go_wp2_with fail; exact ⟨rfl, Ext.refl _, rfl, rfl⟩
    · intro w1 hx1; rintro _ rfl; change wpList _ _ _ _ _ _; go_wp2_with fail; exact ⟨rfl, Ext.refl _, rfl, rfl⟩
    · intro w1 hx1; rintro _ rfl; rintro _ rfl; change wpList _ _ _ _ _ _; refine iCut (.tmp 16) none (some (.tmp 19)) us N 0 m rfl rfl (HR.out.ext hx1) rfl ⟨_, _, rfl, by omega, by omega⟩ (Nat.zero_le _) hm2 (fun v hv => ?_); exact wpList_nil ⟨rfl, Ext.refl _, rfl, cut_q HT.out hv⟩
    · intro w1 hx1; change wpList _ _ _ _ _ _; exact ob_move rfl rfl rfl rfl rfl
    · intro w1 hx1; change wpList _ _ _ _ _ _; exact ob_move rfl rfl rfl rfl rfl
    · intro w1 hx1; rintro _ rfl; change wpList _ _ _ _ _ _; go_wp2_with fail; exact ⟨rfl, Ext.refl _, rfl, rfl⟩
    · intro w1 hx1; rintro _ rfl; change wpList _ _ _ _ _ _; go_wp2_with fail; exact ⟨rfl, Ext.refl _, rfl, rfl⟩
    · intro w1 hx1; rintro _ rfl; rintro _ rfl; change wpList _ _ _ _ _ _; refine sCut (.tmp 21) none (some (.tmp 24)) ks K 0 mk rfl rfl (HKR.out.ext hx1) rfl ⟨_, _, rfl, by omega, by omega⟩ (Nat.zero_le _) hk2 (fun v hv => ?_); exact wpList_nil ⟨rfl, Ext.refl _, rfl, cut_s HT2.out hv⟩
    · intro w1 hx1; intro v20 h20; change wpList _ _ _ _ _ _; exact ob_assign rfl rfl rfl rfl h20
    · intro w1 hx1; intro v25 h25; change wpList _ _ _ _ _ _; exact ob_assign rfl rfl rfl rfl h25
  · intro w1 hx1; rintro _ rfl; rintro _ rfl; rintro _ rfl; rintro _ rfl; intro v20 h20; rintro _ rfl; rintro _ rfl; rintro _ rfl; rintro _ rfl; intro v25 h25; intro v0 h0; intro v1 h1; refine depsThen_nil ?_; dsimp only; simp only [Act.put, List.setIfInBounds_toArray, List.set_cons_zero, List.set_cons_succ]
    replace h20 : (Fact.row4 m (q.flatMap iC)).p v20 w1 := h20
    replace h25 : (Fact.row1 mk (ms.map stC)).p v25 w1 := h25
    replace h0 : (Fact.row4 m (q.flatMap iC)).p v0 w1 := h0
    replace h1 : (Fact.row1 mk (ms.map stC)).p v1 w1 := h1
    have h0 : Row w1 4 v0 m (q.flatMap iC) := h0
    have h1 : Row w1 1 v1 mk (ms.map stC) := h1
    obtain ⟨al, cl, rfl, _, _⟩ := Row.shape h0
    obtain ⟨as1, cs1, rfl, _, _⟩ := Row.shape h1
    have HI := Lib.hid (show ItemR w1 (.slice al m cl) q from ⟨by rw [HQL.out]; exact h0, HQH.out⟩)
    have HSM := Lib.hid h1
    have HX1 := Lib.hid hx1
    clear h20 h25 h0 h1 hx1 HR HKR HT HT2 qm qmk im imk
    go_upto_region 3 with (go_at_call 13; (with_reducible refine (sty_is _ _ q _ HI.out (by rw [HQL.out]; omega) rfl).mono ?_); rintro e wA ⟨a5, c5, rfl, hho, h, hx⟩; have HSO := Lib.hid hho; have HS := Lib.hid h; have HXA := Lib.hid hx; clear hho h hx)
    have hsl : (staysI q).length ≤ m := by have := pickF_le (fun i => !goesF (q.map nkOf) i) q; rw [HQL.out] at this; exact this
    have hsb : ∀ x ∈ staysI q, x.n < 18446744073709551616 := fun x hx => HQB.out x (stays_mem q x hx)
    have hss := stays_stays q
    have hsd := doubles_stays q
    have HSB := Lib.hid hsb
    have HSS := Lib.hid hss
    have HSD := Lib.hid hsd
    have HSE : Hid (∀ x ∈ staysI q, x ∈ q) := stays_mem q
    clear hsb hss hsd
    generalize hS : staysI q = S at *
    generalize hsl2 : S.length = sl at *
    have HSQ := Lib.hid hS
    have HSL := Lib.hid hsl2
    clear hS hsl2
    go_upto_region 5 with (first
      | (go_at_call 12; (with_reducible refine (dbl_nil _ _ S HS.out (by rw [HSL.out]; omega) HSB.out HSD.out).mono ?_); rintro e wB ⟨a29, c29, rfl, hx⟩; have HXB := Lib.hid hx; clear hx)
      | (go_at_call 13; (with_reducible refine (sty_is _ _ S S (HS.out.ext HXB.out) (by rw [HSL.out]; omega) HSS.out).mono ?_); rintro e wC ⟨a34, c34, rfl, hho, h, hx⟩; have H34 := Lib.hid h; have HXC := Lib.hid (HXB.out.trans hx); clear hho h hx)
      | (go_at_call 16; (with_reducible refine (same_yes _ _ _ S S H34.out (HS.out.ext HXC.out) rfl).mono ?_); rintro e wD ⟨rfl, hx⟩; have HXD := Lib.hid (HXC.out.trans hx); clear hx))
    have HXE := Lib.hid (HX1.out.trans (HXA.out.trans HXD.out))
    have HID := Lib.hid (HI.out.ext (HXA.out.trans HXD.out))
    have HSD2 := Lib.hid (HS.out.ext HXD.out)
    have HSMD := Lib.hid (HSM.out.ext (HXA.out.trans HXD.out))
    clear HX1 HXA HXB HXC HXD H34 HI HS HSO HSM
    go_upto_region 7 with fail
    go_loopw [6, 7] (fun v i wr => ∃ k M : Nat, k ≤ m ∧ i = .int .i64 k ∧ v = .int .u64 M ∧ M < 18446744073709551616 ∧ Hid (∀ x ∈ q.take k, x.n ≤ M) ∧ Hid (Ext wD wr)) (fun _ i _ => m - (intOf i).toNat)
    case atStart => exact ⟨0, 0, Nat.zero_le _, rfl, rfl, by omega, (fun x hx => absurd hx List.not_mem_nil), Ext.refl _⟩
    case round =>
      obtain ⟨k, M, hk, rfl, rfl, hM, hall, hxr⟩ := hrel
      by_cases hlt : k < m
      · have hI : decide ((k : Int) < (m : Int)) = true := decide_eq_true (by omega)
        have hkN : (k : Int) < (m : Int) := by omega
        have hkl : k < q.length := by rw [HQL.out]; exact hlt
        obtain ⟨B, o, ea, f0, -, -, -⟩ := (HID.out.ext hxr.out).at hkl
        subst ea
        have hyb := HQB.out _ (List.getElem_mem hkl)
        have hnew : ∀ x ∈ q.take (k + 1), x.n ≤ max M q[k].n := fun x hx => by
          rw [List.take_succ_eq_append_getElem hkl, List.mem_append, List.mem_singleton] at hx
          rcases hx with hx | rfl
          · exact Nat.le_trans (hall.out x hx) (Nat.le_max_left _ _)
          · exact Nat.le_max_right _ _
        have HNEW := Lib.hid hnew
        clear hnew hall
        generalize q[k].n = y at *
        obtain ⟨M2, hM2⟩ : ∃ M2, M2 = max M y := ⟨_, rfl⟩
        have hM3 : M2 < 18446744073709551616 := by omega
        have HM2 := Lib.hid hM2
        clear hM2
        go_wp2_with (refine wpList_max2 (.tmp 45) (.tmp 50) _ rfl rfl M y rfl rfl ?_; rw [← HM2.out])
        go_roundw
        case rel => exact ⟨k + 1, M2, hlt, by go_num, rfl, hM3, by rw [HM2.out]; exact HNEW.out, hxr⟩
        case measure => simp [intOf]; omega
      · obtain rfl : m = k := by omega
        have hI : decide ((m : Int) < (m : Int)) = false := decide_eq_false (by omega)
        have hall2 := hall.out
        rw [List.take_of_length_le (by rw [HQL.out]; exact Nat.le_refl _)] at hall2
        have HALL := Lib.hid hall2
        clear hall hall2
        by_cases hbig : 9223372036854775808 < M
        · have hB : decide ((9223372036854775808 : Int) < (M : Int)) = true := decide_eq_true (by omega)
          go_wp2_with (go_at_call 18; (with_reducible refine (wakes_any _).mono ?_); rintro e w20 ⟨rfl, hx⟩; have HX20 := Lib.hid (hxr.out.trans hx); clear hx)
          go_ret
          exact ⟨rfl, HXE.out.trans HX20.out⟩
        · have hB : decide ((9223372036854775808 : Int) < (M : Int)) = false := decide_eq_false (by omega)
          obtain ⟨wE, rfl⟩ : ∃ x : World, x = wr := ⟨_, rfl⟩
          have HIQ := Lib.hid (HID.out.ext hxr.out)
          have HIS := Lib.hid (HSD2.out.ext hxr.out)
          have HRQ : Hid (Row wE 4 (.slice al m cl) m (q.flatMap iC)) := by have h := HIQ.out.row; rw [HQL.out] at h; exact h
          have HRS : Hid (Row wE 4 (.slice a5 sl c5) sl (S.flatMap iC)) := by have h := HIS.out.row; rw [HSL.out] at h; exact h
          have ONEQ := Lib.hid (ItemR.one HIQ.out.hs)
          have ONES := Lib.hid (ItemR.one HIS.out.hs)
          have HXE2 := Lib.hid (HXE.out.trans hxr.out)
          have HSME := Lib.hid (HSMD.out.ext hxr.out)
          clear hxr HXE HID HSD2 HSMD
          have hb1 : (0 + m) * 56 ≤ 140737488355328 := by omega
          have hb2 : 0 + m ≤ maxLen := by unfold maxLen; omega
          have hb3 : (0 + sl) * 56 ≤ 140737488355328 := by omega
          have hb4 : 0 + sl ≤ maxLen := by unfold maxLen; omega
          go_upto_region 13 with (first
            | (at_builtin; (refine wpList_append_row 22 33 (.const (.slice none 0 0)) (.tmp 55) rfl wE.heap.size _ 4 56 Try.underlying22 info33t rfl (by decide) rfl (.slice none 0 0) 0 [] rfl (own_none _ _ _ _) m (q.flatMap iC) HRQ.out ONEQ.out hb1 hb2 (Nat.le_refl _) ?_); intro va wF hown2 hg; have HA0 := Lib.hid (own_zeroI hown2); have HXF := Lib.hid ((Ext.refl wE).grown_none (v := .slice none 0 0) hg (fun q hq => by cases hq)); clear hown2 hg)
            | (at_builtin; (refine wpList_append_row 22 33 (.const (.slice none 0 0)) (.tmp 57) rfl wF.heap.size _ 4 56 Try.underlying22 info33t rfl (by decide) rfl (.slice none 0 0) 0 [] rfl (own_none _ _ _ _) sl (S.flatMap iC) (HRS.out.ext HXF.out) ONES.out hb3 hb4 (Nat.le_refl _) ?_); intro vb wG hown2 hg; have HB0 := Lib.hid (own_zeroI hown2); have HXG := Lib.hid ((Ext.refl wF).grown_none (v := .slice none 0 0) hg (fun q hq => by cases hq)); clear hown2 hg))
          have hap : ∀ g, va.ownBlock = some g → vb.ownBlock ≠ some g := fun g h h' => by
            have h1 := (HA0.out.lt g h).2
            have h2 := (HB0.out.lt g h').1
            omega
          have HAP := Lib.hid hap
          have HAG := Lib.hid (own_ext HA0.out HXG.out)
          have HBG := Lib.hid (own_low HB0.out HXF.out.size)
          have HXEG := Lib.hid (HXF.out.trans HXG.out)
          clear hap HA0 HB0 HXF HXG hb1 hb2 hb3 hb4
          go_upto_region 14 with fail
          go_loopw [8, 9, 10] (fun va vb i wr => ∃ k : Nat, k ≤ mk ∧ i = .int .i64 k ∧ Hid (∀ g, va.ownBlock = some g → vb.ownBlock ≠ some g) ∧ Hid (wr.ownsRow wE.heap.size 33 4 va (m + k) ((q ++ moreI M (ms.take k)).flatMap iC)) ∧ Hid (wr.ownsRow wE.heap.size 33 4 vb (sl + k) ((S ++ moreI M (ms.take k)).flatMap iC)) ∧ Hid (Ext wE wr)) (fun _ _ i _ => mk - (intOf i).toNat)
          case atStart => exact ⟨0, Nat.zero_le _, rfl, HAP.out, by show World.ownsRow _ _ _ _ _ _ _; simpa [moreI] using HAG.out, by show World.ownsRow _ _ _ _ _ _ _; simpa [moreI] using HBG.out, HXEG.out⟩
          case round =>
            clear HAP HAG HBG HXEG
            obtain ⟨k, hk, rfl, hap, hoa, hob, hxr⟩ := hrel
            by_cases hlt : k < mk
            · have hI : decide ((k : Int) < (mk : Int)) = true := decide_eq_true (by omega)
              have hkN : (k : Int) < (mk : Int) := by omega
              have hkl : k < ms.length := by rw [HKL.out]; exact hlt
              have hstr : StR wr (.slice as1 mk cs1) ms := by unfold StR; rw [HKL.out]; exact HSME.out.ext hxr.out
              obtain ⟨B, o, ea, f0⟩ := hstr.at hkl
              subst ea
              obtain ⟨n1, hn1⟩ : ∃ n1, n1 = M + k + 1 := ⟨_, rfl⟩
              have q1 : (M : Int) + (k : Int) + 1 = (n1 : Int) := by omega
              have hnew : moreI M (ms.take (k + 1)) = moreI M (ms.take k) ++ [kIt n1 ms[k]] := by
                rw [List.take_succ_eq_append_getElem hkl, moreI_snoc, List.length_take, Nat.min_eq_left (by omega), hn1]
              have HN1 := Lib.hid hn1
              have HNEW := Lib.hid hnew
              clear hstr hn1 hnew
              generalize ms[k] = x at *
              generalize moreI M (ms.take k) = pr at *
              go_upto_region 17 with fail
              obtain ⟨aA, cA, rfl, _, _⟩ := own_shape hoa.out
              obtain ⟨aB, cB, rfl, _, _⟩ := own_shape hob.out
              obtain ⟨hxa, hbx⟩ := boxes1 wr (.cells #[.int .u64 n1, .int .u64 0, .string (strOf x), .slice none 0 0] 33)
              have HUA : Hid (∀ g, (Value.slice aA (m + k) cA).ownBlock = some g → g < wr.heap.size) := fun g h => (hoa.out.lt g h).2
              have HUB : Hid (∀ g, (Value.slice aB (sl + k) cB).ownBlock = some g → g < wr.heap.size) := fun g h => (hob.out.lt g h).2
              have HOA := Lib.hid (own_ext hoa.out hxa)
              have HOB := Lib.hid (own_ext hob.out hxa)
              have HXA := Lib.hid (hxr.out.trans hxa)
              have hsz : wr.heap.size < (wr.alloc (.cells #[.int .u64 n1, .int .u64 0, .string (strOf x), .slice none 0 0] 33)).heap.size := by rw [World.size_alloc]; exact Nat.lt_succ_self _
              have c0 := cell_of_row _ _ 0 _ _ _ hbx
              have c1 := cell_of_row _ _ 1 _ _ _ hbx
              have c2 := cell_of_row _ _ 2 _ _ _ hbx
              have c3 := cell_of_row _ _ 3 _ _ _ hbx
              have HSMA := Lib.hid (HSME.out.ext HXA.out)
              clear hoa hob hxr hxa hbx f0 h1 HSME
              generalize wr.alloc (.cells #[.int .u64 n1, .int .u64 0, .string (strOf x), .slice none 0 0] 33) = wa at *
              generalize wr.heap.size = bx at *
              have HLA : Hid (∀ g, (Value.slice aA (m + k) cA).ownBlock = some g → g < wa.heap.size) := fun g h => Nat.lt_trans (HUA.out g h) hsz
              have HLB : Hid (∀ g, (Value.slice aB (sl + k) cB).ownBlock = some g → g < wa.heap.size) := fun g h => Nat.lt_trans (HUB.out g h) hsz
              have HNB : Hid (some bx ∉ [none, none, none, (Value.slice aA (m + k) cA).ownBlock, none, none, none]) := fun h => by
                simp only [List.mem_cons, List.not_mem_nil, or_false, reduceCtorEq, false_or] at h
                exact absurd (HUA.out bx h.symm) (Nat.lt_irrefl _)
              have hb5 := app_bounds hm1 (Nat.le_trans hk hk1)
              have hb7 := app_bounds (Nat.le_trans hsl hm1) (Nat.le_trans hk hk1)
              have HROW := Lib.hid (fun (w : World) => (by have h := it_row w n1 0 x none 0 0; rwa [show ((0 : Nat) : Int) = 0 from rfl] at h : Row (w.alloc (.cells #[.int .u64 n1, .int .u64 0, .string (strOf x), .slice none 0 0] 33)) 4 (.slice (some ⟨w.heap.size, 0, none⟩) 1 1) 1 [.int .u64 n1, .int .u64 0, .string (strOf x), .slice none 0 0]))
              have HWE : Hid (wE.heap.size ≤ wa.heap.size) := HXA.out.size
              refine Rr.wp_region_rows_chain 7 [none, none, none, (Value.slice aA (m + k) cA).ownBlock, none, none, none] [Rr.FactB.eq (.slice aA (m + k) cA),
                  Rr.FactB.eq (.agg #[.int .u64 n1, .int .u64 0, .string (strOf x), .slice none 0 0]),
                  Rr.FactB.later wa.heap.size 4 1 [.int .u64 n1, .int .u64 0, .string (strOf x), .slice none 0 0],
                  Rr.FactB.own wE.heap.size 33 4 (m + k + 1) ((q ++ pr).flatMap iC ++ [.int .u64 n1, .int .u64 0, .string (strOf x), .slice none 0 0]) (Value.slice aB (sl + k) cB).ownBlock,
                  Rr.FactB.eq (.slice aB (sl + k) cB),
                  Rr.FactB.eq (.agg #[.int .u64 n1, .int .u64 0, .string (strOf x), .slice none 0 0]),
                  Rr.FactB.later wa.heap.size 4 1 [.int .u64 n1, .int .u64 0, .string (strOf x), .slice none 0 0]]
                [Rr.FactB.any, Rr.FactB.any, Rr.FactB.any, (Rr.FactB.own wE.heap.size 33 4 (m + k) ((q ++ pr).flatMap iC) (Value.slice aB (sl + k) cB).ownBlock).at (.slice aA (m + k) cA), Rr.FactB.any, Rr.FactB.any, Rr.FactB.any, (Rr.FactB.own wE.heap.size 33 4 (sl + k) ((S ++ pr).flatMap iC) (Value.slice aA (m + k) cA).ownBlock).at (.slice aB (sl + k) cB), Rr.FactB.any, Rr.FactB.any]
                [[], [], [(1, 77)], [(0, 76), (2, 78)], [], [], [(5, 81)]]
                [(0, 76), (1, 77), (2, 78), (3, 79), (4, 80), (5, 81), (6, 82)] (by kernel_rfl) (by kernel_rfl) ?_ ?_ ?_ ?_ ?_
              · refine ⟨?_, ?_, ?_, ?_, ?_, ?_, ?_, trivial⟩
                · exact fun _ _ h => h
                · exact fun _ _ h => h
                · change ∀ row ∈ ([none, none, none, (Value.slice aA (m + k) cA).ownBlock, none, none, none] : List (Option Nat)), ¬ (Rr.FactB.later wa.heap.size 4 1 [.int .u64 n1, .int .u64 0, .string (strOf x), .slice none 0 0]).bad row; exact (List.forall_mem_cons.2 ⟨Rr.later_none, (List.forall_mem_cons.2 ⟨Rr.later_none, (List.forall_mem_cons.2 ⟨Rr.later_none, (List.forall_mem_cons.2 ⟨(Rr.later_row (by first | exact HLA.out | exact HLB.out)), (List.forall_mem_cons.2 ⟨Rr.later_none, (List.forall_mem_cons.2 ⟨Rr.later_none, (List.forall_mem_cons.2 ⟨Rr.later_none, (fun _ h => absurd h List.not_mem_nil)⟩)⟩)⟩)⟩)⟩)⟩)⟩)
                · change ∀ row ∈ ([none, none, none, none, none, none, none] : List (Option Nat)), ¬ (Rr.FactB.own wE.heap.size 33 4 (m + k + 1) ((q ++ pr).flatMap iC ++ [.int .u64 n1, .int .u64 0, .string (strOf x), .slice none 0 0]) (Value.slice aB (sl + k) cB).ownBlock).bad row; exact (List.forall_mem_cons.2 ⟨Rr.own_none', (List.forall_mem_cons.2 ⟨Rr.own_none', (List.forall_mem_cons.2 ⟨Rr.own_none', (List.forall_mem_cons.2 ⟨Rr.own_none', (List.forall_mem_cons.2 ⟨Rr.own_none', (List.forall_mem_cons.2 ⟨Rr.own_none', (List.forall_mem_cons.2 ⟨Rr.own_none', (fun _ h => absurd h List.not_mem_nil)⟩)⟩)⟩)⟩)⟩)⟩)⟩)
                · exact fun _ _ h => h
                · exact fun _ _ h => h
                · change ∀ row ∈ ([none, none, none, none, (Value.slice aA (m + k) cA).ownBlock, none, none] : List (Option Nat)), ¬ (Rr.FactB.later wa.heap.size 4 1 [.int .u64 n1, .int .u64 0, .string (strOf x), .slice none 0 0]).bad row; exact (List.forall_mem_cons.2 ⟨Rr.later_none, (List.forall_mem_cons.2 ⟨Rr.later_none, (List.forall_mem_cons.2 ⟨Rr.later_none, (List.forall_mem_cons.2 ⟨Rr.later_none, (List.forall_mem_cons.2 ⟨(Rr.later_row (by first | exact HLA.out | exact HLB.out)), (List.forall_mem_cons.2 ⟨Rr.later_none, (List.forall_mem_cons.2 ⟨Rr.later_none, (fun _ h => absurd h List.not_mem_nil)⟩)⟩)⟩)⟩)⟩)⟩)⟩)
              · refine ⟨?_, ?_, ?_, ?_, ?_, ?_, ?_, ?_, ?_, ?_, trivial⟩
                · exact fun _ _ h => h
                · exact fun _ _ h => h
                · exact fun _ _ h => h
                · change ∀ row ∈ ([none, none, none, none, none, none, none] : List (Option Nat)), ¬ ((Rr.FactB.own wE.heap.size 33 4 (m + k) ((q ++ pr).flatMap iC) (Value.slice aB (sl + k) cB).ownBlock).at (.slice aA (m + k) cA)).bad row; exact (List.forall_mem_cons.2 ⟨(Rr.at_calm Rr.own_none'), (List.forall_mem_cons.2 ⟨(Rr.at_calm Rr.own_none'), (List.forall_mem_cons.2 ⟨(Rr.at_calm Rr.own_none'), (List.forall_mem_cons.2 ⟨(Rr.at_calm Rr.own_none'), (List.forall_mem_cons.2 ⟨(Rr.at_calm Rr.own_none'), (List.forall_mem_cons.2 ⟨(Rr.at_calm Rr.own_none'), (List.forall_mem_cons.2 ⟨(Rr.at_calm Rr.own_none'), (fun _ h => absurd h List.not_mem_nil)⟩)⟩)⟩)⟩)⟩)⟩)⟩)
                · exact fun _ _ h => h
                · exact fun _ _ h => h
                · exact fun _ _ h => h
                · change ∀ row ∈ ([none, none, none, none, (Value.slice aA (m + k) cA).ownBlock, none, none, none] : List (Option Nat)), ¬ ((Rr.FactB.own wE.heap.size 33 4 (sl + k) ((S ++ pr).flatMap iC) (Value.slice aA (m + k) cA).ownBlock).at (.slice aB (sl + k) cB)).bad row; exact (List.forall_mem_cons.2 ⟨(Rr.at_calm Rr.own_none'), (List.forall_mem_cons.2 ⟨(Rr.at_calm Rr.own_none'), (List.forall_mem_cons.2 ⟨(Rr.at_calm Rr.own_none'), (List.forall_mem_cons.2 ⟨(Rr.at_calm Rr.own_none'), (List.forall_mem_cons.2 ⟨(Rr.at_calm Rr.own_other), (List.forall_mem_cons.2 ⟨(Rr.at_calm Rr.own_none'), (List.forall_mem_cons.2 ⟨(Rr.at_calm Rr.own_none'), (List.forall_mem_cons.2 ⟨(Rr.at_calm Rr.own_none'), (fun _ h => absurd h List.not_mem_nil)⟩)⟩)⟩)⟩)⟩)⟩)⟩)⟩)
                · exact fun _ _ h => h
                · exact fun _ _ h => h
              · intro f hf; simp only [List.mem_cons, List.not_mem_nil, or_false] at hf; rcases hf with rfl | rfl | rfl | rfl | rfl | rfl | rfl | rfl | rfl | rfl
                · exact True.intro
                · exact True.intro
                · exact True.intro
                · exact ⟨own_ext HOA.out ((Ext.refl _).drew), fun g h => hap.out g h⟩
                · exact True.intro
                · exact True.intro
                · exact True.intro
                · exact ⟨own_ext HOB.out ((Ext.refl _).drew), fun g h h' => hap.out g h' h⟩
                · exact True.intro
                · exact True.intro
              · refine ⟨?_, ?_, ?_, ?_, ?_, ?_, ?_, trivial⟩
                · intro w1 hx1 hg1; change wpList _ _ _ _ _ _; refine Rr.lift (fun _ _ h => Rr.grew_of h) ?_; exact ob_move rfl rfl rfl rfl rfl
                · intro w1 hx1 hg1; change wpList _ _ _ _ _ _; refine Rr.lift (fun _ _ h => Rr.grew_of h) ?_; have d0 := hx1.cell c0 HNB.out; have d1 := hx1.cell c1 HNB.out; have d2 := hx1.cell c2 HNB.out; have d3 := hx1.cell c3 HNB.out; go_wp2_with fail; exact ⟨rfl, Ext.refl _, rfl, rfl⟩
                · intro w1 hx1 hg1; rintro _ rfl; change wpList _ _ _ _ _ _; refine Rr.lift (fun _ _ h => Rr.grew_of h) ?_; go_wp2_with fail; exact ⟨rfl, (Ext.refl _).alloc _, rfl, HROW.out w1, _, _, _, rfl, hx1.size, by rw [World.size_alloc]; exact Nat.lt_succ_self _⟩
                · intro w1 hx1 hg1; rintro _ rfl; intro v78 h78; change wpList _ _ _ _ _ _; refine Rr.wpList_append_rowA 22 33 (.tmp 76) (.tmp 78) rfl wE.heap.size _ 4 56 Try.underlying22 info33t rfl (by decide) rfl _ (m + k) ((q ++ pr).flatMap iC) rfl hg1.1 1 [.int .u64 n1, .int .u64 0, .string (strOf x), .slice none 0 0] h78.1 (it_one _ 0 _ _ _ _) hb5.1 hb5.2 (Nat.le_trans HWE.out hx1.size) ?_; intro v' w2 hown2 hg2 hat; exact wpList_nil ⟨rfl, hg2, rfl, hown2, fun g (hg : v'.ownBlock = some g) => by rcases hat with e | e; (rw [e] at hg; exact hap.out g hg); (intro h9; rw [e] at hg; cases hg; exact absurd (Nat.lt_of_lt_of_le (HLB.out _ h9) hx1.size) (Nat.lt_irrefl _))⟩
                · intro w1 hx1 hg1; change wpList _ _ _ _ _ _; refine Rr.lift (fun _ _ h => Rr.grew_of h) ?_; exact ob_move rfl rfl rfl rfl rfl
                · intro w1 hx1 hg1; change wpList _ _ _ _ _ _; refine Rr.lift (fun _ _ h => Rr.grew_of h) ?_; have d0 := hx1.cell c0 HNB.out; have d1 := hx1.cell c1 HNB.out; have d2 := hx1.cell c2 HNB.out; have d3 := hx1.cell c3 HNB.out; go_wp2_with fail; exact ⟨rfl, Ext.refl _, rfl, rfl⟩
                · intro w1 hx1 hg1; rintro _ rfl; change wpList _ _ _ _ _ _; refine Rr.lift (fun _ _ h => Rr.grew_of h) ?_; go_wp2_with fail; exact ⟨rfl, (Ext.refl _).alloc _, rfl, HROW.out w1, _, _, _, rfl, hx1.size, by rw [World.size_alloc]; exact Nat.lt_succ_self _⟩
              · intro w1 hx1; intro hgs; rintro _ rfl; rintro _ rfl; intro v78 h78; intro v79 h79; rintro _ rfl; rintro _ rfl; intro v82 h82; refine depsThen_nil ?_; dsimp only; simp only [Act.put, List.setIfInBounds_toArray, List.set_cons_zero, List.set_cons_succ, List.drop_succ_cons, List.drop_zero]
                replace h78 : (Rr.FactB.later wa.heap.size 4 1 [.int .u64 n1, .int .u64 0, .string (strOf x), .slice none 0 0]).p v78 w1 := h78
                replace h79 : (Rr.FactB.own wE.heap.size 33 4 (m + k + 1) ((q ++ pr).flatMap iC ++ [.int .u64 n1, .int .u64 0, .string (strOf x), .slice none 0 0]) (Value.slice aB (sl + k) cB).ownBlock).p v79 w1 := h79
                replace h82 : (Rr.FactB.later wa.heap.size 4 1 [.int .u64 n1, .int .u64 0, .string (strOf x), .slice none 0 0]).p v82 w1 := h82
                have g83 : ((Rr.FactB.own wE.heap.size 33 4 (sl + k) ((S ++ pr).flatMap iC) (Value.slice aA (m + k) cA).ownBlock).at (.slice aB (sl + k) cB)).p undef w1 := hgs 7 (by decide) (by show 7 < 10; decide)
                clear hgs
                have k79 : w1.ownsRow wE.heap.size 33 4 v79 (m + k + 1) ((q ++ pr).flatMap iC ++ [.int .u64 n1, .int .u64 0, .string (strOf x), .slice none 0 0]) ∧ ∀ g, v79.ownBlock = some g → (Value.slice aB (sl + k) cB).ownBlock ≠ some g := h79
                have k82 : Row w1 4 v82 1 [.int .u64 n1, .int .u64 0, .string (strOf x), .slice none 0 0] := h82.1
                have k83 : w1.ownsRow wE.heap.size 33 4 (.slice aB (sl + k) cB) (sl + k) ((S ++ pr).flatMap iC) := g83.1
                have kx : Ext wE w1 := hx1.ext HXA.out fun g hg => by
                  simp only [List.mem_cons, List.not_mem_nil, or_false, reduceCtorEq, false_or] at hg
                  exact (HOA.out.lt g hg.symm).1
                have K79 := Lib.hid k79
                have K82 := Lib.hid k82
                have K83 := Lib.hid k83
                have KX := Lib.hid kx
                clear k79 k82 k83 kx h78 h79 h82 g83 hx1 c0 c1 c2 c3 HLA HLB HNB HUA HUB HOA HOB HROW hap hsz
                go_wp2_with (refine Rr.wpList_append_rowA 22 33 (.tmp 80) (.tmp 82) rfl wE.heap.size _ 4 56 Try.underlying22 info33t rfl (by decide) rfl _ (sl + k) ((S ++ pr).flatMap iC) rfl K83.out 1 [.int .u64 n1, .int .u64 0, .string (strOf x), .slice none 0 0] K82.out (it_one _ 0 _ _ _ _) hb7.1 hb7.2 KX.out.size ?_; intro vb w2 hown2 hg2 hat; have HO2 := Lib.hid hown2; have HG2 := Lib.hid hg2; have HAT := Lib.hid hat; clear hown2 hg2 hat)
                go_roundw
                case rel =>
                  refine ⟨k + 1, hlt, by go_num, fun g hg => ?_, own_new (own_keep K79.out.1 HG2.out fun g hg => K79.out.2 g hg) HNEW.out, own_new HO2.out HNEW.out, KX.out.grown_none HG2.out (own_base K83.out)⟩
                  rcases HAT.out with e | e
                  · rw [e]; exact K79.out.2 g hg
                  · rw [e]
                    intro e2
                    have h1 := (K79.out.1.lt g hg).2
                    have h2 := Option.some.inj e2
                    omega
                case measure => simp [intOf]; omega
            · obtain rfl : mk = k := by omega
              have hI : decide ((mk : Int) < (mk : Int)) = false := decide_eq_false (by omega)
              have hoa2 := hoa.out
              have hob2 := hob.out
              rw [List.take_of_length_le (by rw [HKL.out]; exact Nat.le_refl _)] at hoa2 hob2
              have hmm := moreI_mem M ms
              have hlt2 : ∀ x ∈ q, ∀ y ∈ moreI M ms, x.n < y.n := fun x hx y hy => by have := HALL.out x hx; have := (hmm y hy).1; omega
              have hda := doubles_sub hlt2
              have hsa := stays_twice hlt2
              rw [HSQ.out] at hsa
              have hla : (q ++ moreI M ms).length = m + mk := by rw [List.length_append, moreI_len, HQL.out, HKL.out]
              have hlb : (S ++ moreI M ms).length = sl + mk := by rw [List.length_append, moreI_len, HSL.out, HKL.out]
              have hha : ∀ x ∈ q ++ moreI M ms, ∃ a n c, x.h = .slice a n c := fun x hx => by
                rcases List.mem_append.1 hx with hx | hx
                · exact HQH.out x hx
                · exact ⟨none, 0, 0, (hmm x hx).2.2⟩
              have hhb : ∀ x ∈ S ++ moreI M ms, ∃ a n c, x.h = .slice a n c := fun x hx => by
                rcases List.mem_append.1 hx with hx | hx
                · exact HQH.out x (HSE.out x hx)
                · exact ⟨none, 0, 0, (hmm x hx).2.2⟩
              have hba : ∀ x ∈ q ++ moreI M ms, x.n < 18446744073709551616 := fun x hx => by
                rcases List.mem_append.1 hx with hx | hx
                · exact HQB.out x hx
                · have := (hmm x hx).2.1; rw [HKL.out] at this; omega
              obtain ⟨aa, ca, rfl, _, _⟩ := own_shape hoa2
              obtain ⟨ab, cb, rfl, _, _⟩ := own_shape hob2
              have HAI := Lib.hid (show ItemR wr (.slice aa (m + mk) ca) (q ++ moreI M ms) from ⟨by rw [hla]; exact Row.of_own hoa2, hha⟩)
              have HBI := Lib.hid (show ItemR wr (.slice ab (sl + mk) cb) (S ++ moreI M ms) from ⟨by rw [hlb]; exact Row.of_own hob2, hhb⟩)
              have HLI := Lib.hid (HIQ.out.ext hxr.out)
              have HDA := Lib.hid hda
              have HSA := Lib.hid hsa
              have HLA := Lib.hid hla
              have HLB := Lib.hid hlb
              have HBA := Lib.hid hba
              have HXH := Lib.hid (HXE2.out.trans hxr.out)
              clear hoa hob hoa2 hob2 hap hmm hlt2 hda hsa hla hlb hha hhb hba hxr HIQ HIS HRQ HRS ONEQ ONES HXE2 HSME
              generalize q ++ moreI M ms = qa at *
              generalize S ++ moreI M ms = qb at *
              go_upto_region 19 with (first
                | (go_at_call 12; (with_reducible refine (dbl_is _ _ q _ HLI.out (by rw [HQL.out]; omega) HQB.out rfl).mono ?_); rintro e w4 ⟨ad, cd, rfl, h, hx⟩; have HD0 := Lib.hid h; have HX4 := Lib.hid hx; clear h hx)
                | (go_at_call 12; (with_reducible refine (dbl_is _ _ qa _ (HAI.out.ext HX4.out) (by rw [HLA.out]; omega) HBA.out rfl).mono ?_); rintro e w5 ⟨ad2, cd2, rfl, h, hx⟩; have HD1 := Lib.hid h; have HX5 := Lib.hid hx; clear h hx))
              have hel2 : (doublesF (qa.map nkOf)).length ≤ 9223372036854775807 := by
                obtain ⟨a', c', e', h1, h2⟩ := Row.shape HD1.out
                unfold maxLen at h2
                omega
              have HXI := Lib.hid (HX4.out.trans HX5.out)
              have HDD := Lib.hid (UR.ext HD0.out HX5.out)
              clear HX4 HX5 HD0
              generalize doublesF (q.map nkOf) = D at *
              generalize doublesF (qa.map nkOf) = DA at *
              generalize hdl : D.length = dl at *
              generalize hel : DA.length = el at *
              have HDL := Lib.hid hdl
              have HEL := Lib.hid hel
              have hdle : dl ≤ el := by have := HDA.out.length_le; rw [hdl, hel] at this; exact this
              clear hdl hel
              go_upto_region 21 with fail
              go_loopw [14, 15] (fun vj vi wr => ∃ i : Nat, i ≤ el ∧ vi = .int .i64 i ∧ (∃ j : Nat, j ≤ dl ∧ vj = .int .i64 j ∧ Hid (j = seekF D 0 (DA.take i))) ∧ Hid (Ext w5 wr)) (fun _ i _ => el - (intOf i).toNat)
              case atStart => exact ⟨0, Nat.zero_le _, rfl, ⟨0, Nat.zero_le _, rfl, rfl⟩, Ext.refl _⟩
              case round =>
                obtain ⟨i, hi, rfl, ⟨j, hj, rfl, hjs⟩, hxr⟩ := hrel
                by_cases hlt : i < el ∧ j < dl
                · obtain ⟨hil, hjl⟩ := hlt
                  have hI : decide ((i : Int) < (el : Int)) = true := decide_eq_true (by omega)
                  have hJ : decide ((j : Int) < (dl : Int)) = true := decide_eq_true (by omega)
                  have hil2 : i < DA.length := by rw [HEL.out]; exact hil
                  have hjl2 : j < D.length := by rw [HDL.out]; exact hjl
                  have hiN : (i : Int) < (el : Int) := by omega
                  have hjN : (j : Int) < (dl : Int) := by omega
                  have hda : UR wr (.slice ad dl cd) D := UR.ext HDD.out hxr.out
                  have hdb : UR wr (.slice ad2 el cd2) DA := UR.ext HD1.out hxr.out
                  obtain ⟨B, o, ea, f0⟩ := hda.at hjl2
                  obtain ⟨C, o2, ea2, f1⟩ := hdb.at hil2
                  subst ea
                  subst ea2
                  have hstep : seekF D 0 (DA.take (i + 1)) = if D[j] = DA[i] then j + 1 else j := by
                    rw [List.take_succ_eq_append_getElem hil2, seekF_snoc, ← hjs.out, List.getElem?_eq_getElem hjl2]
                    simp only [Option.some.injEq]
                  clear hda hdb hjs
                  generalize DA[i] = y at *
                  generalize D[j] = z at *
                  go_upto_region 23 with fail
                  by_cases hyz : y = z
                  · subst hyz
                    have hE : decide ((y : Int) = (y : Int)) = true := decide_eq_true rfl
                    rw [if_pos rfl] at hstep
                    have HSK := Lib.hid hstep.symm
                    clear hstep
                    refine wp_region_facts [Fact.eq (.slice (some ⟨C, o2, none⟩) el cd2),
                        Fact.eq (.int .i64 i),
                        Fact.eq (.pointer (some ⟨C, o2 + i, none⟩)),
                        Fact.eq (.int .u64 y),
                        Fact.eq (.slice (some ⟨B, o, none⟩) dl cd),
                        Fact.eq (.int .i64 j),
                        Fact.eq (.pointer (some ⟨B, o + j, none⟩)),
                        Fact.eq (.int .u64 y),
                        Fact.eq (.bool true)]
                      [[], [], [(0, 100), (1, 101)], [(2, 102)], [], [], [(4, 104), (5, 105)], [(6, 106)], [(3, 103), (7, 107)]]
                      [(0, 100), (1, 101), (2, 102), (3, 103), (4, 104), (5, 105), (6, 106), (7, 107), (8, 108)] (by kernel_rfl) (by kernel_rfl) ?_ ?_
                    · refine ⟨?_, ?_, ?_, ?_, ?_, ?_, ?_, ?_, ?_, trivial⟩
                      · intro w1 hx1; change wpList _ _ _ _ _ _; exact ob_move rfl rfl rfl rfl rfl
                      · intro w1 hx1; change wpList _ _ _ _ _ _; exact ob_move rfl rfl rfl rfl rfl
                      · intro w1 hx1; rintro _ rfl; rintro _ rfl; change wpList _ _ _ _ _ _; go_wp2_with fail; exact ⟨rfl, Ext.refl _, rfl, rfl⟩
                      · intro w1 hx1; rintro _ rfl; change wpList _ _ _ _ _ _; have m0 := hx1.cell f1; go_wp2_with fail; exact ⟨rfl, Ext.refl _, rfl, rfl⟩
                      · intro w1 hx1; change wpList _ _ _ _ _ _; exact ob_move rfl rfl rfl rfl rfl
                      · intro w1 hx1; change wpList _ _ _ _ _ _; exact ob_move rfl rfl rfl rfl rfl
                      · intro w1 hx1; rintro _ rfl; rintro _ rfl; change wpList _ _ _ _ _ _; go_wp2_with fail; exact ⟨rfl, Ext.refl _, rfl, rfl⟩
                      · intro w1 hx1; rintro _ rfl; change wpList _ _ _ _ _ _; have m0 := hx1.cell f0; go_wp2_with fail; exact ⟨rfl, Ext.refl _, rfl, rfl⟩
                      · intro w1 hx1; rintro _ rfl; rintro _ rfl; change wpList _ _ _ _ _ _; go_wp2_with fail; exact ⟨rfl, Ext.refl _, rfl, rfl⟩
                    · intro w1 hx1; rintro _ rfl; rintro _ rfl; rintro _ rfl; rintro _ rfl; rintro _ rfl; rintro _ rfl; rintro _ rfl; rintro _ rfl; rintro _ rfl; refine depsThen_nil ?_; dsimp only; simp only [Act.put, List.setIfInBounds_toArray, List.set_cons_zero, List.set_cons_succ]
                      have HXW := Lib.hid (hxr.out.trans hx1)
                      clear hx1
                      go_wp2_with fail
                      go_roundw
                      case rel => exact ⟨i + 1, by omega, by go_num, ⟨j + 1, by omega, by go_num, HSK.out⟩, HXW.out⟩
                      case measure => simp [intOf]; omega

                  · have hE : decide ((y : Int) = (z : Int)) = false := decide_eq_false (by omega)
                    have hE2 : decide (y = z) = false := decide_eq_false hyz
                    have hE3 : ¬ (y : Int) = (z : Int) := by omega
                    have hE4 : ((y : Int) == (z : Int)) = false := beq_eq_false_iff_ne.2 hE3
                    have hE5 : (y == z) = false := beq_eq_false_iff_ne.2 hyz
                    rw [if_neg (fun h => hyz h.symm)] at hstep
                    have HSK := Lib.hid hstep.symm
                    clear hstep
                    refine wp_region_facts [Fact.eq (.slice (some ⟨C, o2, none⟩) el cd2),
                        Fact.eq (.int .i64 i),
                        Fact.eq (.pointer (some ⟨C, o2 + i, none⟩)),
                        Fact.eq (.int .u64 y),
                        Fact.eq (.slice (some ⟨B, o, none⟩) dl cd),
                        Fact.eq (.int .i64 j),
                        Fact.eq (.pointer (some ⟨B, o + j, none⟩)),
                        Fact.eq (.int .u64 z),
                        Fact.eq (.bool false)]
                      [[], [], [(0, 100), (1, 101)], [(2, 102)], [], [], [(4, 104), (5, 105)], [(6, 106)], [(3, 103), (7, 107)]]
                      [(0, 100), (1, 101), (2, 102), (3, 103), (4, 104), (5, 105), (6, 106), (7, 107), (8, 108)] (by kernel_rfl) (by kernel_rfl) ?_ ?_
                    · refine ⟨?_, ?_, ?_, ?_, ?_, ?_, ?_, ?_, ?_, trivial⟩
                      · intro w1 hx1; change wpList _ _ _ _ _ _; exact ob_move rfl rfl rfl rfl rfl
                      · intro w1 hx1; change wpList _ _ _ _ _ _; exact ob_move rfl rfl rfl rfl rfl
                      · intro w1 hx1; rintro _ rfl; rintro _ rfl; change wpList _ _ _ _ _ _; go_wp2_with fail; exact ⟨rfl, Ext.refl _, rfl, rfl⟩
                      · intro w1 hx1; rintro _ rfl; change wpList _ _ _ _ _ _; have m0 := hx1.cell f1; go_wp2_with fail; exact ⟨rfl, Ext.refl _, rfl, rfl⟩
                      · intro w1 hx1; change wpList _ _ _ _ _ _; exact ob_move rfl rfl rfl rfl rfl
                      · intro w1 hx1; change wpList _ _ _ _ _ _; exact ob_move rfl rfl rfl rfl rfl
                      · intro w1 hx1; rintro _ rfl; rintro _ rfl; change wpList _ _ _ _ _ _; go_wp2_with fail; exact ⟨rfl, Ext.refl _, rfl, rfl⟩
                      · intro w1 hx1; rintro _ rfl; change wpList _ _ _ _ _ _; have m0 := hx1.cell f0; go_wp2_with fail; exact ⟨rfl, Ext.refl _, rfl, rfl⟩
                      · intro w1 hx1; rintro _ rfl; rintro _ rfl; change wpList _ _ _ _ _ _; go_wp2_with fail; exact ⟨rfl, Ext.refl _, rfl, rfl⟩
                    · intro w1 hx1; rintro _ rfl; rintro _ rfl; rintro _ rfl; rintro _ rfl; rintro _ rfl; rintro _ rfl; rintro _ rfl; rintro _ rfl; rintro _ rfl; refine depsThen_nil ?_; dsimp only; simp only [Act.put, List.setIfInBounds_toArray, List.set_cons_zero, List.set_cons_succ]
                      have HXW := Lib.hid (hxr.out.trans hx1)
                      clear hx1
                      go_wp2_with fail
                      go_roundw
                      case rel => exact ⟨i + 1, by omega, by go_num, ⟨j, by omega, by go_num, HSK.out⟩, HXW.out⟩
                      case measure => simp [intOf]; omega

                · have hje : j = dl := by
                    by_cases h : i < el
                    · omega
                    · have h2 := hjs.out
                      rw [List.take_of_length_le (by rw [HEL.out]; omega), seekF_all D DA 0 (Nat.zero_le _) (by rw [List.drop_zero]; exact HDA.out), HDL.out] at h2
                      exact h2
                  subst hje
                  have hJ : decide ((j : Int) < (j : Int)) = false := decide_eq_false (by omega)
                  have hJ2 : decide (j = j) = true := decide_eq_true rfl
                  have HXW := Lib.hid (HXI.out.trans hxr.out)
                  by_cases hil : i < el
                  · have hI : decide ((i : Int) < (el : Int)) = true := decide_eq_true (by omega)
                    go_wp2_with (first
                      | (go_at_call 13; (with_reducible refine (sty_is _ _ qa _ (HAI.out.ext HXW.out) (by rw [HLA.out]; omega) rfl).mono ?_); rintro e w6 ⟨a6, c6, rfl, hho, h, hx⟩; have HT6 := Lib.hid h; have HX6 := Lib.hid hx; clear hho h hx)
                      | (go_at_call 13; (with_reducible refine (sty_is _ _ qb _ (HBI.out.ext (HXW.out.trans HX6.out)) (by rw [HLB.out]; omega) HSA.out).mono ?_); rintro e w7 ⟨a7, c7, rfl, hho, h, hx⟩; have HT7 := Lib.hid h; have HX7 := Lib.hid hx; clear hho h hx)
                      | (go_at_call 16; (with_reducible refine (same_yes _ _ _ (staysI qa) (staysI qa) (HT6.out.ext HX7.out) HT7.out rfl).mono ?_); rintro e w8 ⟨rfl, hx⟩; have HX8 := Lib.hid hx; clear hx)
                      | (go_at_call 18; (with_reducible refine (wakes_any _).mono ?_); rintro e w9 ⟨rfl, hx⟩; have HX9 := Lib.hid hx; clear hx))
                    go_ret
                    exact ⟨rfl, HXH.out.trans (HXW.out.trans (HX6.out.trans (HX7.out.trans (HX8.out.trans HX9.out))))⟩
                  · have hI : decide ((i : Int) < (el : Int)) = false := decide_eq_false (by omega)
                    go_wp2_with (first
                      | (go_at_call 13; (with_reducible refine (sty_is _ _ qa _ (HAI.out.ext HXW.out) (by rw [HLA.out]; omega) rfl).mono ?_); rintro e w6 ⟨a6, c6, rfl, hho, h, hx⟩; have HT6 := Lib.hid h; have HX6 := Lib.hid hx; clear hho h hx)
                      | (go_at_call 13; (with_reducible refine (sty_is _ _ qb _ (HBI.out.ext (HXW.out.trans HX6.out)) (by rw [HLB.out]; omega) HSA.out).mono ?_); rintro e w7 ⟨a7, c7, rfl, hho, h, hx⟩; have HT7 := Lib.hid h; have HX7 := Lib.hid hx; clear hho h hx)
                      | (go_at_call 16; (with_reducible refine (same_yes _ _ _ (staysI qa) (staysI qa) (HT6.out.ext HX7.out) HT7.out rfl).mono ?_); rintro e w8 ⟨rfl, hx⟩; have HX8 := Lib.hid hx; clear hx)
                      | (go_at_call 18; (with_reducible refine (wakes_any _).mono ?_); rintro e w9 ⟨rfl, hx⟩; have HX9 := Lib.hid hx; clear hx))
                    go_ret
                    exact ⟨rfl, HXH.out.trans (HXW.out.trans (HX6.out.trans (HX7.out.trans (HX8.out.trans HX9.out))))⟩
end Go.Proofs.Ytlgopjfnknjgjaa
