/- CompactOrder, walked. -/
import Derived.Test.YtlgopjfnknjgjaaWCompactParts
import Derived.Test.YtlgopjfnknjgjaaZ5
namespace Go.Proofs.Ytlgopjfnknjgjaa
open Go.RowKit Go.MapKept

theorem sCut {ops : Array Oper} {Q : Exit → Act → World → Prop} {a : Act} {w : World} {rest : List Oper} {o : Oper}
    (x : Operand) (lo hi : Option Operand) (us : List (List UInt8)) (n i j : Nat)
    (ho : o.op = .slice 40 x lo hi none)
    (hw : Region.wanted o (yielded ops a.tmps) = true) (hx : Row w 1 (a.eval x) n (us.map stC))
    (hlo : BoundIs a lo 0 i) (hhi : BoundIs a hi n j) (hij : i ≤ j) (hj : j ≤ n)
    (h : ∀ v, Row w 1 v (j - i) (((us.take j).drop i).map stC) → wpList Try.prog ops Q rest (a.put o.dst v) w) : wpList Try.prog ops Q (o :: rest) a w := by
  refine wpList_cut 40 9 x lo hi 1 n i j _ ho Try.underlying40 (by kernel_rfl) hw hx hlo hhi hij hj fun v hv => h v ?_
  simp only [Nat.mul_one] at hv
  rw [← List.map_take, ← List.map_drop] at hv
  exact hv
def Fact.row4 (n : Nat) (xs : List Value) : Fact := ⟨fun v w => Row w 4 v n xs, fun _ _ _ hx h => h.ext hx⟩
def Fact.own4 (b n : Nat) (xs : List Value) : Fact := ⟨fun v w => w.ownsRow b 33 4 v n xs, fun _ _ _ hx h => own_ext h hx⟩
theorem len_row4 {w : World} {v : Value} {q : List IT} {n : Nat} (h : Row w 4 v q.length (q.flatMap iC)) (e : q.length = n) : Row w 4 v n (q.flatMap iC) := by rw [← e]; exact h

theorem dbl_is (W : World) (v : Value) (us : List IT) (D : List Nat) (hi : ItemR W v us) (hl : us.length ≤ 500) (hb : ∀ x ∈ us, x.n < 18446744073709551616) (he : doublesF (us.map nkOf) = D) :
    Calls Try.prog 12 #[v] W fun e w' => ∃ a c, e = .returned (.slice a D.length c) ∧ UR w' (.slice a D.length c) D ∧ Ext W w' := by
  refine (doubles_any sort500 W v us hi (by omega) hl hb).mono ?_
  rintro e w' ⟨v', rfl, h1, h2⟩
  rw [he] at h1
  obtain ⟨a, c, rfl, _, _⟩ := own_shape h1
  exact ⟨a, c, rfl, Row.of_own h1, h2⟩
theorem idx45 (x y : Value) (w : World) : (Instr.index 45 (.agg #[x, y]) (.int .i64 0)).run Try.prog w = .ok x w ∧ (Instr.index 45 (.agg #[x, y]) (.int .i64 1)).run Try.prog w = .ok y w := ⟨by kernel_rfl, by kernel_rfl⟩
theorem num_is (W W1 : World) (va vb : Value) (D : List Nat) (ha : UR W va D) (hb : UR W1 vb D) (h1 : Ext W1 W) : Calls Try.prog 14 #[va, vb] W fun e w' => e = .returned (.bool true) ∧ Ext W w' := numbers_yes W va vb D ha (Row.ext hb h1)
theorem map_kept {w' : World} {b k n : Nat} {E : List (Value × Value)} {S : List IT} (hk : k < S.length) (hn : S[k].n = n) (h1 : ∀ p ∈ E, p.2 = .int .i64 1) (h2 : ∀ y ∈ S.take k, ∃ p ∈ E, p.1 = Value.int .u64 y.n)
    (h : ((∀ p ∈ E, p.1 ≠ Value.int .u64 n) ∧ MapE w' b (.int .u64) (E ++ [(.int .u64 n, .int .i64 1)])) ∨ ∃ (j : Nat) (u : Value), E[j]? = some (.int .u64 n, u) ∧ MapE w' b (.int .u64) (E.set j (.int .u64 n, .int .i64 1))) :
    ∃ E', MapE w' b (.int .u64) E' ∧ (∀ p ∈ E', p.2 = .int .i64 1) ∧ ∀ y ∈ S.take (k + 1), ∃ p ∈ E', p.1 = Value.int .u64 y.n := by
  rw [List.take_succ_eq_append_getElem hk]
  rcases h with ⟨_, h⟩ | ⟨j, u, hj, h⟩
  · refine ⟨_, h, fun p hp => ?_, fun y hy => ?_⟩
    · rcases List.mem_append.1 hp with hp | hp
      · exact h1 p hp
      · rw [List.mem_singleton] at hp; subst hp; rfl
    · rcases List.mem_append.1 hy with hy | hy
      · obtain ⟨p, hp, e⟩ := h2 y hy
        exact ⟨p, List.mem_append_left _ hp, e⟩
      · rw [List.mem_singleton] at hy; subst hy
        exact ⟨_, List.mem_append_right _ (List.mem_singleton.2 rfl), by rw [hn]⟩
  · obtain ⟨hjl, ej⟩ := List.getElem?_eq_some_iff.1 hj
    have e : E.set j (.int .u64 n, .int .i64 1) = E := by
      have : u = .int .i64 1 := h1 _ (List.mem_of_getElem? hj)
      subst this
      rw [← ej]; exact List.set_getElem_self hjl
    rw [e] at h
    refine ⟨_, h, h1, fun y hy => ?_⟩
    rcases List.mem_append.1 hy with hy | hy
    · exact h2 y hy
    · rw [List.mem_singleton] at hy; subst hy
      exact ⟨_, List.mem_of_getElem? hj, by rw [hn]⟩
theorem own_but {w w' : World} {b base size n : Nat} {e : TypeId} {v : Value} {xs : List Value} (h : w.ownsRow base e size v n xs) (hb : But b w w') (hl : b < base) : w'.ownsRow base e size v n xs := by
  obtain ⟨h1, h | ⟨g, cap, cur, e, hg, hh, rest⟩⟩ := h
  · exact ⟨h1, .inl h⟩
  · exact ⟨h1, .inr ⟨g, cap, cur, e, hg, by rw [hb.block g (by omega)]; exact hh, rest⟩⟩
theorem cut_lo {w : World} {v : Value} {q : List IT} {m c : Nat} (hl : q.length = m) (h : Row w 4 v (m - c) (((q.take m).drop c).flatMap iC)) : Row w 4 v (m - c) ((q.drop c).flatMap iC) := by
  rw [List.take_of_length_le (by omega)] at h; exact h
theorem cut_hi {w : World} {v : Value} {q : List IT} {c : Nat} (h : Row w 4 v (c - 0) (((q.take c).drop 0).flatMap iC)) : Row w 4 v c ((q.take c).flatMap iC) := by
  rw [List.drop_zero, Nat.sub_zero] at h; exact h
theorem one_sub {q r : List IT} (hs : ∀ x ∈ r, x ∈ q) (h : ∀ x ∈ q, ∃ a n c, x.h = .slice a n c) : ∀ u ∈ r.flatMap iC, u.oneCell' = true := ItemR.one fun x hx => h x (hs x hx)

set_option maxRecDepth 100000 in
set_option maxHeartbeats 8000000 in
theorem compactOrder_walk (w : World) (vk : Value) (n : Nat) (ks : List (List UInt8)) (hk : StR w vk ks) (hn : n < 65536) : Calls Try.prog 6 #[vk, .int .u16 n] w fun e w' => e = .returned (.bool true) ∧ Ext w w' := by
  obtain ⟨a, cap, rfl, hc, hmx⟩ := Row.shape hk
  unfold maxLen at hmx
  unfold StR at hk
  generalize hN : ks.length = N at *
  obtain ⟨m, hm⟩ : ∃ m, m = min N 100 := ⟨_, rfl⟩
  have qm : min (N : Int) 100 = (m : Int) := by omega
  have hql : (ks.take m).length = m := by rw [List.length_take]; omega
  have hm1 : m ≤ 100 := by omega
  have hm2 : m ≤ N := by omega
  have HR := Lib.hid hk
  have HQL := Lib.hid hql
  clear hk hN hm hql
  generalize ht : ks.take m = q at *
  have HT := Lib.hid ht
  clear ht
  go_enter Try.func6, Try.ntmps6
  go_upto_region 3 with (first
    | (refine wpList_min2 (.tmp 19) (.const (.int .i64 100)) _ rfl rfl _ _ m rfl rfl qm ?_)
    | (refine sCut (.tmp 17) none (some (.tmp 20)) ks N 0 m rfl rfl HR.out rfl ⟨_, _, rfl, by omega, by omega⟩ (Nat.zero_le _) hm2 ?_; intro v12 h12; rw [List.drop_zero, HT.out, Nat.sub_zero] at h12; obtain ⟨al, cl, rfl, _, _⟩ := Row.shape h12; have H12 := Lib.hid h12; clear h12)
    | (go_at_call 20; (with_reducible refine (keyed_any _ _ q (by unfold StR; rw [HQL.out]; exact H12.out) (by rw [HQL.out]; omega)).mono ?_); rintro e wA ⟨v5, rfl, h, hx⟩; have HK := Lib.hid h; have HX1 := Lib.hid hx; clear h hx))
  have hkl : (keyedI q).length = m := by rw [keyedI_len]; exact HQL.out
  have hnd := keyedI_nodup q
  have hkn : ∀ x ∈ keyedI q, x.n < 18446744073709551616 := fun x hx => by have h1 := (keyedI_le q x hx).1; have h2 := HQL.out; omega
  have hkh : ∀ x ∈ keyedI q, ∃ a n c, x.h = .slice a n c := fun x hx => ⟨none, 0, 0, (keyedI_le q x hx).2⟩
  have hone := ItemR.one hkh
  have ho := HK.out
  unfold OwnI at ho
  rw [hkl] at ho
  obtain ⟨a5, c5, rfl, hc5, hm5⟩ := own_shape ho
  unfold maxLen at hm5
  have HO := Lib.hid ho
  have HKL := Lib.hid hkl
  have HND := Lib.hid hnd
  have HKN := Lib.hid hkn
  have HKH := Lib.hid hkh
  have HONE := Lib.hid hone
  clear HK hkl hnd hkn hkh hone ho H12 HQL HR HT
  generalize keyedI q = it at *
  obtain ⟨c, hcc⟩ : ∃ c, c = n % (m + 1) := ⟨_, rfl⟩
  have hcm : c ≤ m := by have := Nat.mod_lt n (show 0 < m + 1 by omega); omega
  have htm : Int.tmod (n : Int) ((m : Int) + 1) = (c : Int) := by rw [hcc]; exact (Int.ofNat_tmod n (m + 1)).symm
  have hne : ¬ (m : Int) + 1 = 0 := by omega
  clear hcc
  go_upto_region 4 with fail
  have HRI := Lib.hid (Row.of_own HO.out)
  have ONE1 := Lib.hid (one_sub (fun x hx => List.mem_of_mem_drop (i := c) hx) HKH.out)
  have ONE2 := Lib.hid (one_sub (fun x hx => List.mem_of_mem_take (i := c) hx) HKH.out)
  refine wp_region_chain 7 [Fact.eq (.slice a5 m c5),
      Fact.eq (.int .i64 c),
      Fact.row4 (m - c) ((it.drop c).flatMap iC),
      Fact.own4 wA.heap.size (m - c) ((it.drop c).flatMap iC),
      Fact.eq (.slice a5 m c5),
      Fact.eq (.int .i64 c),
      Fact.row4 c ((it.take c).flatMap iC)]
    [[], [], [(0, 30), (1, 31)], [(2, 32)], [], [], [(4, 34), (5, 35)]]
    [(0, 30), (1, 31), (2, 32), (3, 33), (4, 34), (5, 35), (6, 36)] (by kernel_rfl) (by kernel_rfl) ?_ ?_
  · refine ⟨?_, ?_, ?_, ?_, ?_, ?_, ?_, trivial⟩
    · intro w1 hx1; change wpList _ _ _ _ _ _; exact ob_move rfl rfl rfl rfl rfl
    · intro w1 hx1; change wpList _ _ _ _ _ _; exact ob_move rfl rfl rfl rfl rfl
    · intro w1 hx1; rintro _ rfl; rintro _ rfl; change wpList _ _ _ _ _ _; refine iCut (.tmp 30) (some (.tmp 31)) none it m c m rfl rfl (HRI.out.ext hx1) ⟨_, _, rfl, by omega, by omega⟩ rfl hcm (Nat.le_refl _) (fun v hv => ?_); exact wpList_nil ⟨rfl, Ext.refl _, rfl, cut_lo HKL.out hv⟩
    · intro w1 hx1; intro v32 h32; change wpList _ _ _ _ _ _; refine wpList_append_row 22 33 (.const (.slice none 0 0)) (.tmp 32) rfl _ _ 4 56 Try.underlying22 info33t rfl (by decide) rfl (.slice none 0 0) 0 [] rfl (own_none _ _ _ _) (m - c) ((it.drop c).flatMap iC) h32 ONE1.out (by omega) (by unfold maxLen; omega) hx1.size ?_; intro v2 w2 ho2 hg2; exact wpList_nil ⟨rfl, (Ext.refl _).grown_none (v := .slice none 0 0) hg2 (fun q hq => by cases hq), rfl, own_zeroI ho2⟩
    · intro w1 hx1; change wpList _ _ _ _ _ _; exact ob_move rfl rfl rfl rfl rfl
    · intro w1 hx1; change wpList _ _ _ _ _ _; exact ob_move rfl rfl rfl rfl rfl
    · intro w1 hx1; rintro _ rfl; rintro _ rfl; change wpList _ _ _ _ _ _; refine iCut (.tmp 34) none (some (.tmp 35)) it m 0 c rfl rfl (HRI.out.ext hx1) rfl ⟨_, _, rfl, by omega, by omega⟩ (Nat.zero_le _) hcm (fun v hv => ?_); exact wpList_nil ⟨rfl, Ext.refl _, rfl, cut_hi hv⟩
  · intro w1 hx1; rintro _ rfl; rintro _ rfl; intro v32 h32; intro v33 h33; rintro _ rfl; rintro _ rfl; intro v36 h36; refine depsThen_nil ?_; dsimp only; simp only [Act.put, List.setIfInBounds_toArray, List.set_cons_zero, List.set_cons_succ, List.drop_succ_cons, List.drop_zero]
    replace h32 : (Fact.row4 (m - c) ((it.drop c).flatMap iC)).p v32 w1 := h32
    replace h33 : (Fact.own4 wA.heap.size (m - c) ((it.drop c).flatMap iC)).p v33 w1 := h33
    replace h36 : (Fact.row4 c ((it.take c).flatMap iC)).p v36 w1 := h36
    have h33 : w1.ownsRow wA.heap.size 33 4 v33 (m - c) ((it.drop c).flatMap iC) := h33
    have h36 : Row w1 4 v36 c ((it.take c).flatMap iC) := h36
    have H33 := Lib.hid h33
    have H36 := Lib.hid h36
    have HX2 := Lib.hid hx1
    have HB := Lib.hid hx1.size
    clear h32 h33 h36 hx1
    have hb1 : (m - c + c) * 56 ≤ 140737488355328 := by omega
    have hb2 : m - c + c ≤ maxLen := by unfold maxLen; omega
    go_upto_region 5 with (at_builtin; (refine wpList_append_row 22 33 (.tmp 33) (.tmp 36) rfl wA.heap.size _ 4 56 Try.underlying22 info33t rfl (by decide) rfl _ (m - c) ((it.drop c).flatMap iC) rfl H33.out c ((it.take c).flatMap iC) H36.out ONE2.out hb1 hb2 HB.out ?_); intro vt w2 ho2 hg2; have HT := Lib.hid ho2; have HX3 := Lib.hid (HX2.out.grown_none hg2 (own_base H33.out)); clear ho2 hg2)
    have hms : m - c + c = m := by omega
    have htt := HT.out
    rw [← List.flatMap_append, hms] at htt
    have hpt : it.Perm (it.drop c ++ it.take c) := (List.perm_append_comm (l₁ := it.take c) (l₂ := it.drop c)).symm.symm |> fun h => by rw [List.take_append_drop] at h; exact h
    have htl : (it.drop c ++ it.take c).length = m := by rw [← hpt.length_eq]; exact HKL.out
    have HTT := Lib.hid htt
    have HPT := Lib.hid hpt
    have HTL := Lib.hid htl
    clear htt hpt htl hms H33 H36 HT hb1 hb2 HB HX2 ONE1 ONE2 hcm
    generalize it.drop c ++ it.take c = tt at *
    have HI := Lib.hid (show ItemR wA (.slice a5 m c5) it from ⟨by rw [HKL.out]; exact HRI.out, HKH.out⟩)
    obtain ⟨at_, ct, rfl, hct, hmt⟩ := own_shape HTT.out
    unfold maxLen at hmt
    go_upto_region 7 with fail
    go_loopw [8, 9] (fun v i wr => ∃ (k : Nat) (z : Int), k ≤ m ∧ i = .int .i64 z ∧ Hid (z = (m : Int) - 1 - (k : Int)) ∧ Hid (wr.ownsRow w2.heap.size 33 4 v k ((it.reverse.take k).flatMap iC)) ∧ Hid (Ext w2 wr)) (fun _ i _ => (intOf i + 1).toNat)
    case atStart => exact ⟨0, _, Nat.zero_le _, rfl, by show _ = _; omega, own_none _ _ _ _, Ext.refl _⟩
    case round =>
      obtain ⟨k, z, hk, rfl, hz, hown, hxr⟩ := hrel
      have hzz := hz.out
      by_cases hlt : k < m
      · obtain ⟨j, hj⟩ : ∃ j : Nat, j = m - 1 - k := ⟨_, rfl⟩
        have hjm : j < m := by omega
        obtain rfl : z = (j : Int) := by omega
        have hI : decide ((0 : Int) ≤ (j : Int)) = true := decide_eq_true (by omega)
        have hjl : j < it.length := by rw [HKL.out]; exact hjm
        have hjn : (j : Int) < (m : Int) := by omega
        obtain ⟨B, o, ea, f0, f1, f2, f3⟩ := (HI.out.ext (HX3.out.trans hxr.out)).at (k := j) hjl
        subst ea
        obtain ⟨ha, hn, hcc, hh⟩ := HKH.out it[j] (List.getElem_mem hjl)
        rw [hh] at f3
        have hnk : iC it[j] = [.int .u64 it[j].n, .int .u64 it[j].t, .string (strOf it[j].key), .slice ha hn hcc] := by unfold iC; rw [hh]
        have hst : it.reverse.take (k + 1) = it.reverse.take k ++ [it[j]] := by
          rw [List.take_succ_eq_append_getElem (by rw [List.length_reverse, HKL.out]; exact hlt), List.getElem_reverse]
          congr 2
          have := HKL.out
          simp only [hj, this]
        have hrl : (it.reverse.take k).length = k := by rw [List.length_take, List.length_reverse, HKL.out]; omega
        have HST := Lib.hid hst
        have HNK := Lib.hid hnk
        clear hst hnk hh hzz hz
        generalize it[j] = x at *
        generalize it.reverse.take k = pr at *
        have hrow := it_row wr x.n x.t x.key ha hn hcc
        have hxa := (boxes1 wr (.cells #[.int .u64 x.n, .int .u64 x.t, .string (strOf x.key), .slice ha hn hcc] 33)).1
        have HROW := Lib.hid hrow
        have HO := Lib.hid (own_ext hown.out hxa)
        have HXA := Lib.hid (hxr.out.trans hxa)
        have HBASE := Lib.hid HXA.out.size
        have HJ := Lib.hid hj
        clear hrow hxa hown hxr hj hrl
        have hb1 : (k + 1) * 56 ≤ 140737488355328 := by omega
        have hb2 : k + 1 ≤ maxLen := by unfold maxLen; omega
        go_wp2_with (at_builtin; (refine wpList_append_row 22 33 (.tmp 45) (.tmp 50) rfl w2.heap.size _ 4 56 Try.underlying22 info33t rfl (by decide) rfl _ k (pr.flatMap iC) rfl HO.out 1 [.int .u64 x.n, .int .u64 x.t, .string (strOf x.key), .slice ha hn hcc] HROW.out (it_one _ _ _ _ _ _) hb1 hb2 HBASE.out ?_); intro v' w3 hown2 hg; have HO2 := Lib.hid hown2; have HX4 := Lib.hid (HXA.out.grown_none hg (own_base HO.out)); clear hown2 hg)
        go_roundw
        case rel =>
          refine ⟨k + 1, _, hlt, rfl, ?_, ?_, HX4.out⟩
          · show _ = _
            have := HJ.out
            omega
          · show World.ownsRow _ _ _ _ _ _ _
            rw [HST.out, List.flatMap_append]
            have := HO2.out
            simpa [HNK.out] using this
        case measure => simp [intOf]
      · obtain rfl : m = k := by omega
        obtain rfl : z = -1 := by omega
        have ho := hown.out
        rw [List.take_of_length_le (by rw [List.length_reverse, HKL.out]; exact Nat.le_refl _)] at ho
        obtain ⟨ab, cb, rfl, _, _⟩ := own_shape ho
        have HBO := Lib.hid ho
        have HXR := Lib.hid (HX3.out.trans hxr.out)
        have HIr := Lib.hid (HI.out.ext HXR.out)
        have htr : ItemR wr (.slice at_ m ct) tt := ⟨by rw [HTL.out]; exact (Row.of_own HTT.out).ext hxr.out, fun x hx => HKH.out x (HPT.out.mem_iff.2 hx)⟩
        have hbr : ItemR wr (.slice ab m cb) it.reverse := ⟨by rw [List.length_reverse, HKL.out]; exact Row.of_own ho, fun x hx => HKH.out x (List.mem_reverse.1 hx)⟩
        have hdt := doubles_perm HPT.out HND.out
        have hdb := doubles_perm (List.reverse_perm it).symm HND.out
        have hst := stays_perm HPT.out HND.out
        have hsb := stays_perm (List.reverse_perm it).symm HND.out
        have hbt : ∀ x ∈ tt, x.n < 18446744073709551616 := fun x hx => HKN.out x (HPT.out.mem_iff.2 hx)
        have hbb : ∀ x ∈ it.reverse, x.n < 18446744073709551616 := fun x hx => HKN.out x (List.mem_reverse.1 hx)
        have hbl : it.reverse.length = m := by rw [List.length_reverse]; exact HKL.out
        have HTR := Lib.hid htr
        have HBR := Lib.hid hbr
        have HDT := Lib.hid hdt
        have HDB := Lib.hid hdb
        have HST := Lib.hid hst
        have HSB := Lib.hid hsb
        have HBT := Lib.hid hbt
        have HBB := Lib.hid hbb
        have HBL := Lib.hid hbl
        clear hz hzz hown hxr ho htr hbr hdt hdb hst hsb hbt hbb hbl HBO HTT HI HX3 HRI HO HONE
        generalize it.reverse = bk at *
        generalize hde : doublesF (it.map nkOf) = D at *
        have HDE := Lib.hid hde
        clear hde
        obtain ⟨wB, rfl⟩ : ∃ x : World, x = wr := ⟨_, rfl⟩
        go_upto_region 11 with (go_at_call 12; (with_reducible refine (dbl_is _ _ it _ HIr.out (by rw [HKL.out]; omega) HKN.out HDE.out).mono ?_); rintro e w4 ⟨ad, cd, rfl, h, hx⟩; have HD0 := Lib.hid h; have HX4 := Lib.hid hx; clear h hx)
        go_upto_region 13 with (first
          | (go_at_call 12; (with_reducible refine (dbl_is _ _ tt D (HTR.out.ext HX4.out) (by rw [HTL.out]; omega) HBT.out HDT.out).mono ?_); rintro e w5 ⟨ad2, cd2, rfl, h, hx⟩; have HD2 := Lib.hid h; have HX45 := Lib.hid hx; have HX5 := Lib.hid (HX4.out.trans hx); clear h hx)
          | (go_at_call 14; (with_reducible refine (num_is _ w4 _ _ D HD2.out HD0.out HX45.out).mono ?_); rintro e w6 ⟨rfl, hx⟩; have HX46 := Lib.hid (HX45.out.trans hx); have HX6 := Lib.hid (HX5.out.trans hx); clear hx)
          | (go_at_call 12; (with_reducible refine (dbl_is _ _ bk D (HBR.out.ext HX6.out) (by rw [HBL.out]; omega) HBB.out HDB.out).mono ?_); rintro e w7 ⟨ad3, cd3, rfl, h, hx⟩; have HD3 := Lib.hid h; have HX47 := Lib.hid (HX46.out.trans hx); have HX7 := Lib.hid (HX6.out.trans hx); clear h hx)
          | (go_at_call 14; (with_reducible refine (num_is _ w4 _ _ D HD3.out HD0.out HX47.out).mono ?_); rintro e w8 ⟨rfl, hx⟩; have HX8 := Lib.hid (HX7.out.trans hx); clear hx))
        clear HX4 HX5 HX6 HX7 HX45 HX46 HX47 HD0 HD2 HD3 HDT HDB HBB HBT
        have hmk := run_makeMap (P := Try.prog) 44 w8
        have HM0 := Lib.hid (MapE.made w8 (.int .u64))
        have HX9 := Lib.hid ((Ext.refl w8).alloc (.map #[] 0))
        have HSZ := Lib.hid (World.size_alloc w8 (.map #[] 0))
        go_upto_region 14 with fail
        clear hmk
        generalize w8.alloc (.map #[] 0) = w9 at *
        go_upto_region 15 with (go_at_call 13; (with_reducible refine (stays_any _ _ it (HIr.out.ext (HX8.out.trans HX9.out)) (by rw [HKL.out]; omega)).mono ?_); rintro e w10 ⟨v68, rfl, h, hx⟩; have HS := Lib.hid h; have HX10 := Lib.hid hx; clear h hx)
        obtain ⟨as_, cs, rfl, hcs, hms⟩ := own_shape HS.out
        unfold maxLen at hms
        have hsl : (staysI it).length ≤ m := by have := pickF_le (fun i => !goesF (it.map nkOf) i) it; rw [HKL.out] at this; exact this
        have hsh : ∀ x ∈ staysI it, ∃ a n c, x.h = .slice a n c := fun x hx => HKH.out x (stays_mem it x hx)
        have htl2 := HST.out.length_eq
        have hbl2 := HSB.out.length_eq
        have HSH := Lib.hid hsh
        have HTL2 := Lib.hid htl2
        have HBL2 := Lib.hid hbl2
        clear hsh htl2 hbl2
        generalize staysI it = S at *
        generalize hsle : S.length = sl at *
        have HSL := Lib.hid hsle
        clear hsle
        have HM10 := Lib.hid (HM0.out.ext HX10.out)
        have HX810 := Lib.hid (HX9.out.trans HX10.out)
        go_upto_region 16 with fail
        go_loopw [13] (fun i wr => ∃ k : Nat, k ≤ sl ∧ i = .int .i64 k ∧ Hid (∃ E, MapE wr w8.heap.size (.int .u64) E ∧ (∀ p ∈ E, p.2 = .int .i64 1) ∧ ∀ y ∈ S.take k, ∃ p ∈ E, p.1 = Value.int .u64 y.n) ∧ Hid (wr.ownsRow w9.heap.size 33 4 (.slice as_ sl cs) sl (S.flatMap iC)) ∧ Hid (Ext w8 wr)) (fun i _ => sl - (intOf i).toNat)
        case atStart => exact ⟨0, Nat.zero_le _, rfl, ⟨[], HM10.out, (fun p hp => absurd hp List.not_mem_nil), (fun y hy => absurd hy List.not_mem_nil)⟩, HS.out, HX810.out⟩
        case round =>
          obtain ⟨k, hk, rfl, hmap, hown, hx8⟩ := hrel
          by_cases hlt : k < sl
          · have hI : decide ((k : Int) < (sl : Int)) = true := decide_eq_true (by omega)
            have hkN : (k : Int) < (sl : Int) := by omega
            have hkl : k < S.length := by rw [HSL.out]; exact hlt
            have hir : ItemR wr (.slice as_ sl cs) S := ⟨by rw [HSL.out]; exact Row.of_own hown.out, HSH.out⟩
            obtain ⟨B, o, ea, f0, -, -, -⟩ := hir.at hkl
            subst ea
            obtain ⟨E, h1, h2, h3⟩ := hmap.out
            have HME := Lib.hid h1
            have HKP := Lib.hid (fun (n : Nat) (hn : S[k].n = n) w' h => map_kept (w' := w') (b := w8.heap.size) hkl hn h2 h3 h)
            clear h1 h2 h3 hir hmap
            generalize hy : S[k].n = y at *
            have HY := Lib.hid hy
            clear hy
            go_wp2_with (refine wpList_put rfl (.tmp 75) (.tmp 80) (.const (.int .i64 1)) 44 rfl Try.underlying44 Try.underlying28 rfl HME.out rfl ?_; intro w' hbut hput; have hnew := HKP.out y rfl w' hput; have HNEW := Lib.hid hnew; have HBUT := Lib.hid hbut; clear hput hnew hbut)
            go_roundw
            case rel => exact ⟨k + 1, hlt, by go_num, HNEW.out, own_but hown.out HBUT.out (by rw [HSZ.out]; omega), HBUT.out.ext hx8.out (Nat.le_refl _)⟩
            case measure => simp [intOf]; omega
          · obtain rfl : sl = k := by omega
            have hI : decide ((sl : Int) < (sl : Int)) = false := decide_eq_false (by omega)
            obtain ⟨E, h1, h2, h3⟩ := hmap.out
            rw [List.take_of_length_le (by rw [HSL.out]; exact Nat.le_refl _)] at h3
            have HME := Lib.hid h1
            have HV := Lib.hid h2
            have HLK := Lib.hid h3
            have HXD := Lib.hid (HX8.out.trans hx8.out)
            clear h1 h2 h3 hmap hx8 hown
            go_upto_region 20 with (first
              | (go_at_call 13; (with_reducible refine (stays_any _ _ tt (HTR.out.ext HXD.out) (by rw [HTL.out]; omega)).mono ?_); rintro e w11 ⟨v82, rfl, h, hx⟩; rw [← HTL2.out] at h; obtain ⟨a8, c8, rfl, _, _⟩ := own_shape h; have HS1 := Lib.hid h; have HX11 := Lib.hid hx; clear h hx)
              | (go_at_call 13; (with_reducible refine (stays_any _ _ bk (HBR.out.ext (HXD.out.trans HX11.out)) (by rw [HBL.out]; omega)).mono ?_); rintro e wC ⟨v84, rfl, h, hx⟩; rw [← HBL2.out] at h; obtain ⟨a9, c9, rfl, _, _⟩ := own_shape h; have HS2 := Lib.hid h; have HX12 := Lib.hid hx; clear h hx))
            have hs1 : ItemR w11 (.slice a8 sl c8) (staysI tt) := ⟨by rw [← HTL2.out]; exact Row.of_own HS1.out, fun x hx => HTR.out.hs x (stays_mem tt x hx)⟩
            have hs2 : ItemR wC (.slice a9 sl c9) (staysI bk) := ⟨by rw [← HBL2.out]; exact Row.of_own HS2.out, fun x hx => HBR.out.hs x (stays_mem bk x hx)⟩
            have Hss1 := Lib.hid (hs1.ext HX12.out)
            have Hss2 := Lib.hid hs2
            have HMss1 : Hid (∀ x ∈ staysI tt, x ∈ S) := fun x hx => HST.out.mem_iff.2 hx
            have HMss2 : Hid (∀ x ∈ staysI bk, x ∈ S) := fun x hx => HSB.out.mem_iff.2 hx
            have HLss1 := Lib.hid HTL2.out.symm
            have HLss2 := Lib.hid HBL2.out.symm
            have HMAP := Lib.hid (HME.out.ext (HX11.out.trans HX12.out))
            have HXF := Lib.hid (HX1.out.trans (HXR.out.trans (HXD.out.trans (HX11.out.trans HX12.out))))
            clear hs1 hs2 HS1 HS2 HTL2 HBL2 HTR HBR HST HSB HX11 HX12 HXD HXR HX1 HME
            generalize staysI tt = ss1 at *
            generalize staysI bk = ss2 at *
            go_loopw [86] (fun i wr => ∃ z : Int, (z = 0 ∨ z = 1 ∨ z = 2) ∧ i = .int .i64 z ∧ Hid (Ext wC wr)) (fun i _ => (2 - intOf i).toNat)
            case atStart => exact ⟨0, .inl rfl, rfl, Ext.refl _⟩
            case round =>
              obtain ⟨z, hz, rfl, hxo⟩ := hrel
              rcases hz with rfl | rfl | rfl
              · have hI : decide ((0 : Int) < 2) = true := by decide
                have hA : decide (sl = sl) = true := decide_eq_true rfl
                have hix := (idx45 (.slice a8 sl c8) (.slice a9 sl c9) wr).1
                go_wp2_with fail
                clear hix
                go_loopw [16] (fun i wq => ∃ k : Nat, k ≤ sl ∧ i = .int .i64 k ∧ Hid (Ext wC wq)) (fun i _ => sl - (intOf i).toNat)
                case atStart => exact ⟨0, Nat.zero_le _, rfl, hxo⟩
                case round =>
                  obtain ⟨k, hk, rfl, hxq⟩ := hrel
                  by_cases hlt : k < sl
                  · have hI : decide ((k : Int) < (sl : Int)) = true := decide_eq_true (by omega)
                    have hkN : (k : Int) < (sl : Int) := by omega
                    have hkl : k < ss1.length := by rw [HLss1.out]; exact hlt
                    obtain ⟨B, o, ea, f0, -, -, -⟩ := (Hss1.out.ext hxq.out).at (k := k) hkl
                    subst ea
                    have hlk := HLK.out _ (HMss1.out _ (List.getElem_mem hkl))
                    have HLKY := Lib.hid hlk
                    have HMQ := Lib.hid (HMAP.out.ext hxq.out)
                    clear hlk
                    generalize ss1[k] = y at *
                    go_wp2_with (refine wpList_look rfl (.tmp 100) (.tmp 105) 44 false rfl Try.underlying44 Try.underlying28 (z := .int .i64 0) (by kernel_rfl) rfl HMQ.out rfl (fun hno => by obtain ⟨p, hp, e⟩ := HLKY.out; exact absurd e (hno p hp)) (fun j v hj => ?_); obtain rfl : v = .int .i64 1 := HV.out _ (List.mem_of_getElem? hj))
                    go_roundw
                    case rel => exact ⟨k + 1, hlt, by go_num, hxq⟩
                    case measure => simp [intOf]; omega
                  · obtain rfl : sl = k := by omega
                    have hI : decide ((sl : Int) < (sl : Int)) = false := decide_eq_false (by omega)
                    go_wp2_with fail
                    go_roundw
                    case rel => exact ⟨0 + 1, by simp, rfl, hxq⟩
                    case measure => simp [intOf]
              · have hI : decide ((1 : Int) < 2) = true := by decide
                have hA : decide (sl = sl) = true := decide_eq_true rfl
                have hix := (idx45 (.slice a8 sl c8) (.slice a9 sl c9) wr).2
                go_wp2_with fail
                clear hix
                go_loopw [16] (fun i wq => ∃ k : Nat, k ≤ sl ∧ i = .int .i64 k ∧ Hid (Ext wC wq)) (fun i _ => sl - (intOf i).toNat)
                case atStart => exact ⟨0, Nat.zero_le _, rfl, hxo⟩
                case round =>
                  obtain ⟨k, hk, rfl, hxq⟩ := hrel
                  by_cases hlt : k < sl
                  · have hI : decide ((k : Int) < (sl : Int)) = true := decide_eq_true (by omega)
                    have hkN : (k : Int) < (sl : Int) := by omega
                    have hkl : k < ss2.length := by rw [HLss2.out]; exact hlt
                    obtain ⟨B, o, ea, f0, -, -, -⟩ := (Hss2.out.ext hxq.out).at (k := k) hkl
                    subst ea
                    have hlk := HLK.out _ (HMss2.out _ (List.getElem_mem hkl))
                    have HLKY := Lib.hid hlk
                    have HMQ := Lib.hid (HMAP.out.ext hxq.out)
                    clear hlk
                    generalize ss2[k] = y at *
                    go_wp2_with (refine wpList_look rfl (.tmp 100) (.tmp 105) 44 false rfl Try.underlying44 Try.underlying28 (z := .int .i64 0) (by kernel_rfl) rfl HMQ.out rfl (fun hno => by obtain ⟨p, hp, e⟩ := HLKY.out; exact absurd e (hno p hp)) (fun j v hj => ?_); obtain rfl : v = .int .i64 1 := HV.out _ (List.mem_of_getElem? hj))
                    go_roundw
                    case rel => exact ⟨k + 1, hlt, by go_num, hxq⟩
                    case measure => simp [intOf]; omega
                  · obtain rfl : sl = k := by omega
                    have hI : decide ((sl : Int) < (sl : Int)) = false := decide_eq_false (by omega)
                    go_wp2_with fail
                    go_roundw
                    case rel => exact ⟨1 + 1, by simp, rfl, hxq⟩
                    case measure => simp [intOf]
              · have hI : decide ((2 : Int) < 2) = false := by decide
                go_wp2_with (go_at_call 18; (with_reducible refine (wakes_any _).mono ?_); rintro e w20 ⟨rfl, hx⟩; have HX20 := Lib.hid (hxo.out.trans hx); clear hx)
                go_ret
                exact ⟨rfl, HXF.out.trans HX20.out⟩
end Go.Proofs.Ytlgopjfnknjgjaa
