/- Disk: Remove, Append. -/
import Derived.Test.YtdfnfmanpdafpaaDoorD13
import Derived.Test.YtdfnfmanpdafpaaDoorK15
namespace Go.Proofs.YtdfnfmanpdafpaaDoor
open Go.RowKit Go.MapKept

theorem wpList_delD {P : Program} {ops : Array Oper} {Q : Exit → Act → World → Prop} {a : Act} {w : World} {rest : List Oper} {o : Oper} (hg : o.guard = none) (m x : Operand) (t k : TypeId) (hop : o.op = Op.call { callee := Callee.builtin Builtin.delete, args := #[m, x], argTypes := #[t, k] })
    {e : TypeId} {d : TypeDesc} (ht : P.underlying t = some (.map k e)) (hd : P.underlying k = some d) {b : Nat} {E : List (Value × Value)} (key : Value) (hm : a.eval m = .map (some b)) (hx : a.eval x = key) (h : MapE w b d E) (hk : IsKey d key)
    (hK : ∀ w', But b w w' → (∃ E', MapE w' b d E' ∧ (((∀ p ∈ E, p.1 ≠ key) ∧ E' = E) ∨ ∃ (j : Nat) (u : Value), E[j]? = some (key, u) ∧ E' = E.eraseIdx j)) → wpList P ops Q rest (a.put o.dst (.tuple #[])) w') :
    wpList P ops Q (o :: rest) a w := by
  subst hx
  refine wpList_del hg m x t k hop ht hd hm h hk fun w' hb hm => hK w' hb ?_
  rcases hm with ⟨h1, h2⟩ | ⟨j, u, h1, h2⟩
  · exact ⟨_, h2, .inl ⟨h1, rfl⟩⟩
  · exact ⟨_, h2, .inr ⟨j, u, h1, rfl⟩⟩
set_option maxRecDepth 100000 in
set_option maxHeartbeats 8000000 in
theorem remove_any (w : World) (b : Nat) (F : List Nat) (S : DS) (n : List UInt8) (hd : Dk w b F S) (f0 : -1 ≤ S.fz) (f1 : S.fz < 9223372036854775808) :
    Calls Tryd.prog 22 #[.pointer (some ⟨b, 0, none⟩), .string (strOf n)] w fun e w' => e = .returned (.int .i64 (askdE S (syncL S n))) ∧ LeftD w b F (askdS S (syncL S n) (removeA n)) w' := by
  obtain ⟨bm, gs, hd, hgs, rfl⟩ := hd
  have hask := fun w1 b1 b2 hx h1 h2 => asks2 w w1 b bm b1 b2 gs S n hx h1 h2 hd hgs f0 f1
  obtain ⟨c, hc⟩ : ∃ c, c = askdE S (syncL S n) := ⟨_, rfl⟩
  rw [← hc] at hask ⊢
  have HC := Lib.hid hc
  have HGS := Lib.hid hgs
  have HASK := Lib.hid hask
  clear hgs hd hask f0 f1 hc
  go_enter Tryd.func22, Tryd.ntmps22
  go_upto_region 2 with (first
    | (go_at_call 34; (with_reducible refine (there_fact _ b n).mono ?_); rintro e w1 ⟨b1, b2, rfl, hs1, hp1, hx1⟩; have HCL := Lib.hid (HASK.out w1 b1 b2 hx1 hs1 hp1); clear hs1 hp1 hx1)
    | (go_at_call 33; (with_reducible refine HCL.out.mono ?_); rintro e w3 ⟨rfl, hd3, w0, hx0, ht3⟩; have HD3 := Lib.hid hd3; have HT3 := Lib.hid ht3; have HX0 := Lib.hid hx0; clear hd3 ht3 hx0))
  clear HCL HASK
  by_cases hc0 : c = 0
  · have hyes := askd_yes (S := S) (l := syncL S n) (by rw [← HC.out]; exact hc0) (removeA n)
    subst hc0
    have HY := Lib.hid hyes
    clear hyes
    have n0 := cell_of_row _ _ 0 _ _ _ HD3.out.box
    obtain ⟨E, hE, hper⟩ := HD3.out.map
    have HE := Lib.hid hE
    have HPER := Lib.hid hper
    clear hE hper
    go_upto_region 4 with (refine wpList_delD rfl (.tmp 20) (.tmp 21) 56 9 rfl Tryd.underlying56 Tryd.underlying9 (.string (strOf n)) rfl rfl HE.out trivial ?_; intro w5 hbut hput; have HBUT := Lib.hid hbut; have HPUT := Lib.hid hput; clear hbut hput)
    have hfin : LeftD w b (foot b bm gs) (askdS S (syncL S n) (removeA n)) w5 := by
      obtain ⟨E', hE', hput⟩ := HPUT.out
      have hset := HD3.out.del (n := n) (turns_but HBUT.out) hE' (map_del HE.out HPER.out hput)
      refine leftD_yes HX0.out HT3.out hset.1 hset.2 ?_ ?_ ?_ ?_
      · rw [HY.out.2]
        show _ = removeA n S.fs
        unfold removeA
        rw [← HGS.out, ndel_map fl_nm]
      · rw [HY.out.2]
      · rw [HY.out.2]
      · rw [HY.out.2]
    have HFIN := Lib.hid hfin
    clear hfin n0
    go_wp2_with fail
    exact bodyPost_ret (v := .int .i64 0) (by simp [results, Tryd.results22, go_sem]) rfl ⟨rfl, HFIN.out⟩
  · have hno := askd_no (S := S) (l := syncL S n) (by rw [← HC.out]; exact hc0) (removeA n)
    have hfin : LeftD w b (foot b bm gs) (askdS S (syncL S n) (removeA n)) w3 := by
      rw [hno]; exact leftD_no HX0.out HD3.out HT3.out HGS.out (askd_fs _ _)
    have HFIN := Lib.hid hfin
    have hcn : ((c : Int) == 0) = false := by rw [beq_eq_false_iff_ne]; exact hc0
    clear hno hfin hc0
    go_wp2_with fail
    exact bodyPost_ret (v := .int .i64 c) (by simp [results, Tryd.results22, go_sem]) rfl ⟨rfl, HFIN.out⟩

/-- A slice of bytes whose block is none of F's. -/
def ApartD (F : List Nat) (v : Value) : Prop := ∀ B o k c, v = .slice (some ⟨B, o, none⟩) k c → B ∉ F
theorem infoU8 : (Tryd.prog.info? 5).map (fun i => (i.zero, i.size, i.bytes)) = some (some (.int .u8 0), 1, 1) := by kernel_rfl
theorem bV_one (l : List UInt8) : ∀ u ∈ bV l, u.oneCell' = true := by
  intro u hu
  obtain ⟨x, _, rfl⟩ := List.mem_map.1 hu
  rfl
theorem firstE_le {l : List Int} : firstE l = 0 ↔ ∀ e ∈ l, e = 0 := by
  refine ⟨firstE_zero, fun h => ?_⟩
  induction l with
  | nil => rfl
  | cons x l ih =>
    unfold firstE
    rw [if_pos (h x (by simp))]
    exact ih fun e he => h e (by simp [he])
theorem DkR.lookB {w : World} {b bm : Nat} {gs : List FG} {q fz : Int} {off : Bool} (h : DkR w b bm gs q fz off) {n : List UInt8} {g : FG} (hg : nget FG.nm gs n = some g) (w' : World) (hb : w'.heap[bm]? = w.heap[bm]?) :
    (Instr.lookup 56 (.map (some bm)) (.string (strOf n)) false).run Tryd.prog w' = .ok (.pointer (some ⟨g.p, 0, none⟩)) w' := by
  obtain ⟨E, hE, hp⟩ := h.map
  have hE' : MapE w' bm .string E := by
    obtain ⟨es, clock, h1, h2⟩ := hE
    exact ⟨es, clock, hb.trans h1, h2⟩
  obtain ⟨h1, h2⟩ := nget_some hg
  refine (hE'.known (P := Tryd.prog) Tryd.underlying56 Tryd.underlying9 (z := .pointer none) (by kernel_rfl) (hp.mem_iff.2 (List.mem_map.2 ⟨g, h1, ?_⟩))).1
  subst h2; rfl
theorem Row.turnD {w w' : World} {F : List Nat} {size n : Nat} {v : Value} {xs : List Value} (h : Row w size v n xs) (ht : Turns F w w') (hn : ApartD F v) : Row w' size v n xs := by
  obtain ⟨h1, a, cap, rfl, h3, h4, h5, h6, h7⟩ := h
  refine ⟨h1, a, cap, rfl, h3, h4, h5, h6, fun j u hj => ?_⟩
  obtain ⟨p, rfl, hc⟩ := h7 j u hj
  refine ⟨p, rfl, ?_⟩
  by_cases h0 : 0 < cap
  · have hs := h6 p rfl h0
    obtain ⟨B, o, sp⟩ := p
    simp only at hs
    subst hs
    exact (World.cell?_of_block (ht.block _ (World.block_lt_of_cell? w _ hc) (hn B o _ _ rfl))).trans hc
  · exfalso
    have hjl : j < xs.length := by
      rcases Nat.lt_or_ge j xs.length with h' | h'
      · exact h'
      · rw [List.getElem?_eq_none h'] at hj; cases hj
    have hn : n = 0 := by omega
    rw [hn, Nat.zero_mul] at h1
    omega
theorem mem_le_usedG {g : FG} : ∀ {l : List FG}, g ∈ l → g.b.length ≤ usedG l
  | x :: l, h => by
    unfold usedG
    rw [List.map_cons, List.sum_cons]
    rcases List.mem_cons.1 h with rfl | h
    · omega
    · have := mem_le_usedG h
      unfold usedG at this
      omega
def Fact.tqF (n : List UInt8) (b : Nat) : Fact := ⟨fun v w => ∃ b1 b2, v = tqV b1 b2 ∧ SBox w b1 n ∧ PBox w b2 b, fun _ _ _ hx ⟨b1, b2, h1, h2, h3⟩ => ⟨b1, b2, h1, h2.ext hx, h3.ext hx⟩⟩
theorem names_short {gs : List FG} {S : DS} (h : gs.map FG.fl = S.fs) (ok : OkD S) : ∀ g ∈ gs, g.nm.length ≤ 32 := by
  intro g hg
  have := ok.names (FG.fl g) (by rw [← h]; exact List.mem_map.2 ⟨g, hg, rfl⟩)
  unfold mayN at this
  simp only [Bool.and_eq_true, decide_eq_true_eq] at this
  exact this.1.2
theorem few_files {gs : List FG} {S : DS} (h : gs.map FG.fl = S.fs) (ok : OkD S) : gs.length ≤ 1000000 := by
  have := ok.len; rw [dkG_len h]; omega
theorem used_gs {gs : List FG} {S : DS} (h : gs.map FG.fl = S.fs) : usedF S.fs = usedG gs := by rw [← h, usedG_fl]
theorem offE_zero {S : DS} (h : offE S = 0) : S.off = false := by
  unfold offE at h
  cases ho : S.off with
  | false => rfl
  | true => rw [ho] at h; cases h
/-- What is asked ahead of Append. -/
theorem asks3 (w w1 : World) (b bm b1 b2 bb bx : Nat) (gs : List FG) (S : DS) (n : List UInt8) (m : Nat) (hx : Ext w w1) (h1 : SBox w1 b1 n) (h2 : PBox w1 b2 b) (h3 : PBox w1 bx b) {a : Option Addr} {vc : Nat} (h4 : w1.heap[bb]? = some (.cells #[.slice a m vc] 24 (0, 0))) (hd : DkR w b bm gs S.q S.fz S.off) (hg : gs.map FG.fl = S.fs) (ok : OkD S) :
    Calls Tryd.prog 33 #[.slice (some ⟨w1.heap.size, 0, none⟩) 4 4] (w1.alloc (.cells #[.func (.func 30) #[.pointer (some ⟨b, 0, none⟩)] #[], tqV b1 b2, .func (.func 41) #[] #[.pointer (some ⟨bb, 0, none⟩), .pointer (some ⟨bx, 0, none⟩)], .func (.func 39) #[.pointer (some ⟨b, 0, none⟩)] #[]] 61)) fun e w' =>
      e = .returned (.int .i64 (askdE S (appendL S n m))) ∧ DkR w' b bm gs (askdS S (appendL S n m) id).q (askdS S (appendL S n m) id).fz (askdS S (appendL S n m) id).off ∧ ∃ w0, Ext w1 w0 ∧ Turns [b] w0 w' := by
  obtain ⟨hxa, hra⟩ := boxes1 w1 (.cells #[.func (.func 30) #[.pointer (some ⟨b, 0, none⟩)] #[], tqV b1 b2, .func (.func 41) #[] #[.pointer (some ⟨bb, 0, none⟩), .pointer (some ⟨bx, 0, none⟩)], .func (.func 39) #[.pointer (some ⟨b, 0, none⟩)] #[]] 61)
  have hda := hd.ext (hx.trans hxa)
  have hcs : [offE S, thereG gs n, errB (decide (S.q - (usedG gs : Nat) < (m : Int))) 7] = appendL S n m := by unfold appendL; rw [thereG_S hg, used_gs hg]
  have hF := firstq_dk _ w1.heap.size b bm gs S [(_, offE S), (_, thereG gs n), (_, errB (decide (S.q - (usedG gs : Nat) < (m : Int))) 7)] hra (by simp) ⟨answersQ hda, fun h0 => ⟨therQ (h1.ext hxa) (h2.ext hxa) hda, fun _ => ⟨append1Q (h3.ext hxa) (by rw [offE_zero h0] at hda; exact hda) (names_short hg ok) (few_files hg ok) (by rw [← used_gs hg]; have := ok.used; omega) ok.q0 (by have := ok.q1; omega) (block_later h4 hxa), fun _ => trivial⟩⟩⟩ hda ok.f0 ok.f1
  simp only [List.map_cons, List.map_nil] at hF
  rw [hcs] at hF
  refine hF.mono ?_
  rintro e w' ⟨rfl, hd', ht⟩
  exact ⟨rfl, hd', _, hxa, ht⟩
set_option maxRecDepth 100000 in
set_option maxHeartbeats 8000000 in
theorem append_any (w : World) (b : Nat) (F : List Nat) (S : DS) (n : List UInt8) (hd : Dk w b F S) (ok : OkD S) (v : Value) (l : List UInt8) (m : Nat) (hm : l.length = m) (hv : Bytes w v l) (hap : ApartD F v) :
    Calls Tryd.prog 24 #[.pointer (some ⟨b, 0, none⟩), .string (strOf n), v] w fun e w' => e = .returned (.int .i64 (askdE S (appendL S n m))) ∧ LeftD w b F (askdS S (appendL S n m) (appendA n l)) w' := by
  obtain ⟨bm, gs, hd, hgs, rfl⟩ := hd
  obtain ⟨va, vc, rfl, hvc, hvm⟩ := hv.shape
  rw [hm] at hvc hv hap ⊢
  have hrow : Row w 1 (.slice va m vc) m (bV l) := by have := hv; unfold Bytes at this; rw [hm] at this; exact this
  obtain ⟨hx0, hb1, hb2⟩ := boxes2 w (.cells #[.pointer (some ⟨b, 0, none⟩)] 25) (.cells #[.slice va m vc] 24)
  obtain ⟨c, hc⟩ : ∃ c, c = askdE S (appendL S n m) := ⟨_, rfl⟩
  rw [← hc]
  have HC := Lib.hid hc
  have HGS := Lib.hid hgs
  have HD := Lib.hid hd
  have HX0 := Lib.hid hx0
  have HB1 := Lib.hid hb1
  have HB2 := Lib.hid hb2
  have HBL : Hid (b < w.heap.size) := (Array.getElem?_eq_some_iff.1 hd.box).1
  have HOK := Lib.hid ok
  have HV := Lib.hid hrow
  have HAP := Lib.hid hap
  have HM := Lib.hid hm
  clear hgs hd hx0 hb1 hb2 ok hc hv hap hm hrow
  go_enter Tryd.func24, Tryd.ntmps24
  go_upto_region 1 with fail
  generalize ((w.alloc (.cells #[.pointer (some ⟨b, 0, none⟩)] 25)).alloc (.cells #[.slice va m vc] 24)) = w2 at *
  obtain ⟨x1, hx1⟩ : ∃ x1, x1 = w.heap.size := ⟨_, rfl⟩
  rw [← hx1] at HB1 HB2 HBL ⊢
  clear hx1
  have n1 := cell_of_row _ _ 0 _ _ _ HB1.out
  refine wp_region_chain 8 [Fact.eq (.pointer (some ⟨b, 0, none⟩)),
      Fact.eq (.func (.func 30) #[.pointer (some ⟨b, 0, none⟩)] #[]),
      Fact.eq (.pointer (some ⟨b, 0, none⟩)),
      Fact.eq (.string (strOf n)),
      Fact.tqF n b,
      Fact.eq (.func (.func 41) #[] #[.pointer (some ⟨x1 + 1, 0, none⟩), .pointer (some ⟨x1, 0, none⟩)]),
      Fact.eq (.pointer (some ⟨b, 0, none⟩)),
      Fact.eq (.func (.func 39) #[.pointer (some ⟨b, 0, none⟩)] #[])]
    [[], [(0, 8)], [], [], [(2, 10), (3, 11)], [], [], [(6, 14)]]
    [(0, 8), (1, 9), (2, 10), (3, 11), (4, 12), (5, 13), (6, 14), (7, 15)] (by kernel_rfl) (by kernel_rfl) ?_ ?_
  · refine ⟨?_, ?_, ?_, ?_, ?_, ?_, ?_, ?_, trivial⟩
    · intro w1 hx1; change wpList _ _ _ _ _ _; have m0 := hx1.cell n1; go_wp2_with fail; exact ⟨rfl, Ext.refl _, rfl, rfl⟩
    · intro w1 hx1; rintro _ rfl; change wpList _ _ _ _ _ _; go_wp2_with fail; exact ⟨rfl, Ext.refl _, rfl, rfl⟩
    · intro w1 hx1; change wpList _ _ _ _ _ _; have m0 := hx1.cell n1; go_wp2_with fail; exact ⟨rfl, Ext.refl _, rfl, rfl⟩
    · intro w1 hx1; change wpList _ _ _ _ _ _; exact ob_move rfl rfl rfl rfl rfl
    · intro w1 hx1; rintro _ rfl; rintro _ rfl; change wpList _ _ _ _ _ _; go_wp2_with ((with_reducible refine (there_fact _ b n).mono ?_); rintro e w2 ⟨c1, c2, rfl, g1, g2, hx2⟩); exact ⟨rfl, hx2, rfl, c1, c2, rfl, g1, g2⟩
    · intro w1 hx1; change wpList _ _ _ _ _ _; go_wp2_with fail; exact ⟨rfl, Ext.refl _, rfl, rfl⟩
    · intro w1 hx1; change wpList _ _ _ _ _ _; have m0 := hx1.cell n1; go_wp2_with fail; exact ⟨rfl, Ext.refl _, rfl, rfl⟩
    · intro w1 hx1; rintro _ rfl; change wpList _ _ _ _ _ _; go_wp2_with fail; exact ⟨rfl, Ext.refl _, rfl, rfl⟩
  · intro w1 hx1; rintro _ rfl; rintro _ rfl; rintro _ rfl; rintro _ rfl; intro v12 h12; rintro _ rfl; rintro _ rfl; rintro _ rfl; refine depsThen_nil ?_; dsimp only; simp only [Act.put, List.setIfInBounds_toArray, List.set_cons_zero, List.set_cons_succ, List.drop_succ_cons, List.drop_zero]
    replace h12 : (Fact.tqF n b).p v12 w1 := h12
    obtain ⟨c1, c2, rfl, g1, g2⟩ : ∃ c1 c2, v12 = tqV c1 c2 ∧ SBox w1 c1 n ∧ PBox w1 c2 b := h12
    have hF := asks3 w w1 b bm c1 c2 (x1 + 1) x1 gs S n m (HX0.out.trans hx1) g1 g2 (block_later HB1.out hx1) (block_later HB2.out hx1) HD.out HGS.out HOK.out
    rw [← HC.out] at hF
    have HFQ := Lib.hid hF
    have HX1 := Lib.hid hx1
    clear hF g1 g2 hx1 n1
    go_upto_region 2 with (go_at_call 33; (with_reducible refine HFQ.out.mono ?_); rintro e w3 ⟨rfl, hd3, w0, hx3, ht3⟩; have HD3 := Lib.hid hd3; have HT3 := Lib.hid ht3; have HX3 := Lib.hid (HX0.out.trans (HX1.out.trans hx3)); have HX4 := Lib.hid (HX1.out.trans hx3); clear hd3 ht3 hx3)
    clear HFQ
    by_cases hc0 : c = 0
    · have hyes := askd_yes (S := S) (l := appendL S n m) (by rw [← HC.out]; exact hc0) (appendA n l)
      subst hc0
      have HY := Lib.hid hyes
      have hz := firstE_zero hyes.1
      obtain ⟨g, hg⟩ := thereG_zero (gs := gs) (n := n) (by rw [thereG_S HGS.out]; exact hz _ (by simp [appendL]))
      have hroom := errB_zero (by decide) (hz _ (by simp [appendL] : errB (decide (S.q - (usedF S.fs : Nat) < (m : Int))) 7 ∈ _))
      have hroom := of_decide_eq_false hroom
      clear hyes hz
      obtain ⟨fa, fc, hfh, hfc, hlk⟩ := HD3.out.file hg
      obtain ⟨fn, hfn⟩ : ∃ fn, g.b.length = fn := ⟨_, rfl⟩
      obtain ⟨gp, hgp⟩ : ∃ gp, g.p = gp := ⟨_, rfl⟩
      have hfr := (HD3.out.files g (nget_some hg).1).row
      rw [hfn] at hfc hfh hfr
      rw [hfh] at hfr
      rw [hgp] at hlk hfc
      have n0 := cell_of_row _ _ 0 _ _ _ HD3.out.box
      have n4 := cell_of_row _ _ 0 _ _ _ hfc
      have n1 := cell_of_row _ _ 0 _ _ _ (show PBox w3 x1 b from HT3.out.at (block_later HB1.out HX4.out) (by have := HBL.out; simp; omega))
      have n2 := cell_of_row _ _ 0 _ _ _ (HT3.out.at (block_later HB2.out HX4.out) (by have := HBL.out; simp; omega))
      have HFC := Lib.hid hfc
      have HLK := Lib.hid hlk
      have HFN := Lib.hid hfn
      have HGP := Lib.hid hgp
      have HG := Lib.hid hg
      have HFH := Lib.hid hfh
      have HFR := Lib.hid hfr
      have HROOM := Lib.hid hroom
      clear hfn hgp hfc hfh hlk hg hfr hroom
      go_upto_region 3 with fail
      have HNR : Hid (∀ k, (Value.slice fa fn fc).ownBlock ≠ some k → some k ∉ [none, none, none, none, none, none, none, none, none, none, none, none, none, none, none, none, (Value.slice fa fn fc).ownBlock, none, none]) := fun k hk h => by
        simp only [List.mem_cons, List.not_mem_nil, or_false, reduceCtorEq, false_or] at h
        exact hk h.symm
      have hq1 : PBox w3 x1 b := HT3.out.at (block_later HB1.out HX4.out) (by have := HBL.out; simp; omega)
      have hq2 : w3.heap[x1 + 1]? = some (.cells #[.slice va m vc] 24 (0, 0)) := HT3.out.at (block_later HB2.out HX4.out) (by have := HBL.out; simp; omega)
      have hq3 : ∀ {bq : Nat} {es : Array MapEntry} {cl : Nat}, w3.heap[bq]? = some (.map es cl) → (Value.slice fa fn fc).ownBlock ≠ some bq := fun {bq} {es} {cl} hm e => by
        rcases HFR.out.2 with ⟨e2, _⟩ | ⟨g', cap, cur, e2, _, hg, _⟩
        · rw [e2] at e; cases e
        · rw [e2] at e
          have : g' = bq := by injection e
          subst this
          have := hg.symm.trans hm
          injection this with this
          cases this
      obtain ⟨E, hE, hper⟩ := HD3.out.map
      have hbm : (Value.slice fa fn fc).ownBlock ≠ some bm := by obtain ⟨es, cl, h1, _⟩ := hE; exact hq3 h1
      have HNB := Lib.hid (HNR.out b (own_ne HFR.out HD3.out.box (by decide)))
      have HNX := Lib.hid (HNR.out x1 (own_ne HFR.out hq1 (by decide)))
      have HNY := Lib.hid (HNR.out (x1 + 1) (own_ne HFR.out hq2 (by decide)))
      have HNG := Lib.hid (HNR.out gp (own_ne HFR.out HFC.out (by decide)))
      have HLB : Hid (∀ W, Rr.Buts [none, none, none, none, none, none, none, none, none, none, none, none, none, none, none, none, (Value.slice fa fn fc).ownBlock, none, none] w3 W → (Instr.lookup 56 (.map (some bm)) (.string (strOf n)) false).run Tryd.prog W = .ok (.pointer (some ⟨gp, 0, none⟩)) W) := fun W hW => by
        have := HD3.out.lookB HG.out W (hW.block bm (hE.lt) (HNR.out bm hbm))
        rw [HGP.out] at this
        exact this
      have hv3 : Row w3 1 (.slice va m vc) m (bV l) := HV.out.turnD ((Turns.of_ext HX3.out).trans HT3.out fun i hi => .inl hi) (fun B o k c e hm => HAP.out B o k c e (mem_foot.2 (.inl (by simpa using hm))))
      have HVW : Hid (∀ W, Rr.Buts [none, none, none, none, none, none, none, none, none, none, none, none, none, none, none, none, (Value.slice fa fn fc).ownBlock, none, none] w3 W → Row W 1 (.slice va m vc) m (bV l)) := fun W hW => row_kept hv3 (hW.grown (row := (Value.slice fa fn fc).ownBlock) fun q hq => by
        simp only [List.mem_cons, List.not_mem_nil, or_false, reduceCtorEq, false_or] at hq
        exact hq.symm) fun B o k c e hne => HAP.out B o k c e (foot_file (nget_some HG.out).1 (by rw [← HFH.out] at hne; simp [ftG, hne.symm]))
      have hokU := HOK.out.used
      have hokQ := HOK.out.q1
      have hfu : fn ≤ usedF S.fs := by
        rw [used_gs HGS.out, ← HFN.out]
        exact mem_le_usedG (nget_some HG.out).1
      have hb1 : (fn + m) * 1 ≤ 140737488355328 := by have := HROOM.out; omega
      have hb2 : fn + m ≤ maxLen := by have := HROOM.out; unfold maxLen; omega
      clear hq1 hq2 hq3 hE hper hbm hv3 hokU hokQ hfu
      refine Rr.wp_region_rows_chain 19 [none, none, none, none, none, none, none, none, none, none, none, none, none, none, none, none, (Value.slice fa fn fc).ownBlock, none, none] [Rr.FactB.eq (.pointer (some ⟨b, 0, none⟩)),
          Rr.FactB.eq (.pointer (some ⟨b, 0, none⟩)),
          Rr.FactB.eq (.pointer (some ⟨b, 0, none⟩)),
          Rr.FactB.eq (.map (some bm)),
          Rr.FactB.eq (.string (strOf n)),
          Rr.FactB.eq (.pointer (some ⟨gp, 0, none⟩)),
          Rr.FactB.eq (.pointer (some ⟨b, 0, none⟩)),
          Rr.FactB.eq (.pointer (some ⟨b, 0, none⟩)),
          Rr.FactB.eq (.pointer (some ⟨b, 0, none⟩)),
          Rr.FactB.eq (.map (some bm)),
          Rr.FactB.eq (.string (strOf n)),
          Rr.FactB.eq (.pointer (some ⟨gp, 0, none⟩)),
          Rr.FactB.eq (.pointer (some ⟨gp, 0, none⟩)),
          Rr.FactB.eq (.pointer (some ⟨gp, 0, none⟩)),
          Rr.FactB.eq (.slice fa fn fc),
          Rr.FactB.eq (.slice va m vc),
          Rr.FactB.ownL 0 5 1 (fn + m) (bV g.b ++ bV l) (Value.slice fa fn fc).ownBlock w3.heap.size,
          Rr.FactB.eq (.pointer (some ⟨gp, 0, none⟩)),
          Rr.FactB.eq (.pointer (some ⟨gp, 0, none⟩))]
        [Rr.FactB.any, Rr.FactB.any, Rr.FactB.any, Rr.FactB.any, Rr.FactB.any, Rr.FactB.any, Rr.FactB.any, Rr.FactB.any, Rr.FactB.any, Rr.FactB.any, Rr.FactB.any, Rr.FactB.any, Rr.FactB.any, Rr.FactB.any, Rr.FactB.any, Rr.FactB.any, (Rr.FactB.own 0 5 1 fn (bV g.b) none).at (.slice fa fn fc), Rr.FactB.any, Rr.FactB.any, Rr.FactB.any]
        [[], [(0, 20)], [(1, 21)], [(2, 22)], [], [(3, 23), (4, 24)], [], [(6, 26)], [(7, 27)], [(8, 28)], [], [(9, 29), (10, 30)], [(11, 31)], [(12, 32)], [(13, 33)], [], [(14, 34), (15, 35)], [(5, 25)], [(17, 37)]]
        [(0, 20), (1, 21), (2, 22), (3, 23), (4, 24), (5, 25), (6, 26), (7, 27), (8, 28), (9, 29), (10, 30), (11, 31), (12, 32), (13, 33), (14, 34), (15, 35), (16, 36), (17, 37), (18, 38)] (by kernel_rfl) (by kernel_rfl) ?_ ?_ ?_ ?_ ?_
      · refine ⟨?_, ?_, ?_, ?_, ?_, ?_, ?_, ?_, ?_, ?_, ?_, ?_, ?_, ?_, ?_, ?_, ?_, ?_, ?_, trivial⟩
        · exact fun _ _ h => h
        · exact fun _ _ h => h
        · exact fun _ _ h => h
        · exact fun _ _ h => h
        · exact fun _ _ h => h
        · exact fun _ _ h => h
        · exact fun _ _ h => h
        · exact fun _ _ h => h
        · exact fun _ _ h => h
        · exact fun _ _ h => h
        · exact fun _ _ h => h
        · exact fun _ _ h => h
        · exact fun _ _ h => h
        · exact fun _ _ h => h
        · exact fun _ _ h => h
        · exact fun _ _ h => h
        · change ∀ row ∈ ([none, none, none, none, none, none, none, none, none, none, none, none, none, none, none, none, none, none, none] : List (Option Nat)), ¬ (Rr.FactB.ownL 0 5 1 (fn + m) (bV g.b ++ bV l) (Value.slice fa fn fc).ownBlock w3.heap.size).bad row; exact (List.forall_mem_cons.2 ⟨Rr.ownL_none, (List.forall_mem_cons.2 ⟨Rr.ownL_none, (List.forall_mem_cons.2 ⟨Rr.ownL_none, (List.forall_mem_cons.2 ⟨Rr.ownL_none, (List.forall_mem_cons.2 ⟨Rr.ownL_none, (List.forall_mem_cons.2 ⟨Rr.ownL_none, (List.forall_mem_cons.2 ⟨Rr.ownL_none, (List.forall_mem_cons.2 ⟨Rr.ownL_none, (List.forall_mem_cons.2 ⟨Rr.ownL_none, (List.forall_mem_cons.2 ⟨Rr.ownL_none, (List.forall_mem_cons.2 ⟨Rr.ownL_none, (List.forall_mem_cons.2 ⟨Rr.ownL_none, (List.forall_mem_cons.2 ⟨Rr.ownL_none, (List.forall_mem_cons.2 ⟨Rr.ownL_none, (List.forall_mem_cons.2 ⟨Rr.ownL_none, (List.forall_mem_cons.2 ⟨Rr.ownL_none, (List.forall_mem_cons.2 ⟨Rr.ownL_none, (List.forall_mem_cons.2 ⟨Rr.ownL_none, (List.forall_mem_cons.2 ⟨Rr.ownL_none, (fun _ h => absurd h List.not_mem_nil)⟩)⟩)⟩)⟩)⟩)⟩)⟩)⟩)⟩)⟩)⟩)⟩)⟩)⟩)⟩)⟩)⟩)⟩)⟩)
        · exact fun _ _ h => h
        · exact fun _ _ h => h
      · refine ⟨?_, ?_, ?_, ?_, ?_, ?_, ?_, ?_, ?_, ?_, ?_, ?_, ?_, ?_, ?_, ?_, ?_, ?_, ?_, ?_, trivial⟩
        · exact fun _ _ h => h
        · exact fun _ _ h => h
        · exact fun _ _ h => h
        · exact fun _ _ h => h
        · exact fun _ _ h => h
        · exact fun _ _ h => h
        · exact fun _ _ h => h
        · exact fun _ _ h => h
        · exact fun _ _ h => h
        · exact fun _ _ h => h
        · exact fun _ _ h => h
        · exact fun _ _ h => h
        · exact fun _ _ h => h
        · exact fun _ _ h => h
        · exact fun _ _ h => h
        · exact fun _ _ h => h
        · change ∀ row ∈ ([none, none, none, none, none, none, none, none, none, none, none, none, none, none, none, none, none, none, none] : List (Option Nat)), ¬ ((Rr.FactB.own 0 5 1 fn (bV g.b) none).at (.slice fa fn fc)).bad row; exact (List.forall_mem_cons.2 ⟨(Rr.at_calm Rr.own_none'), (List.forall_mem_cons.2 ⟨(Rr.at_calm Rr.own_none'), (List.forall_mem_cons.2 ⟨(Rr.at_calm Rr.own_none'), (List.forall_mem_cons.2 ⟨(Rr.at_calm Rr.own_none'), (List.forall_mem_cons.2 ⟨(Rr.at_calm Rr.own_none'), (List.forall_mem_cons.2 ⟨(Rr.at_calm Rr.own_none'), (List.forall_mem_cons.2 ⟨(Rr.at_calm Rr.own_none'), (List.forall_mem_cons.2 ⟨(Rr.at_calm Rr.own_none'), (List.forall_mem_cons.2 ⟨(Rr.at_calm Rr.own_none'), (List.forall_mem_cons.2 ⟨(Rr.at_calm Rr.own_none'), (List.forall_mem_cons.2 ⟨(Rr.at_calm Rr.own_none'), (List.forall_mem_cons.2 ⟨(Rr.at_calm Rr.own_none'), (List.forall_mem_cons.2 ⟨(Rr.at_calm Rr.own_none'), (List.forall_mem_cons.2 ⟨(Rr.at_calm Rr.own_none'), (List.forall_mem_cons.2 ⟨(Rr.at_calm Rr.own_none'), (List.forall_mem_cons.2 ⟨(Rr.at_calm Rr.own_none'), (List.forall_mem_cons.2 ⟨(Rr.at_calm Rr.own_none'), (List.forall_mem_cons.2 ⟨(Rr.at_calm Rr.own_none'), (List.forall_mem_cons.2 ⟨(Rr.at_calm Rr.own_none'), (fun _ h => absurd h List.not_mem_nil)⟩)⟩)⟩)⟩)⟩)⟩)⟩)⟩)⟩)⟩)⟩)⟩)⟩)⟩)⟩)⟩)⟩)⟩)⟩)
        · exact fun _ _ h => h
        · exact fun _ _ h => h
        · exact fun _ _ h => h
      · intro f hf; simp only [List.mem_cons, List.not_mem_nil, or_false] at hf; rcases hf with rfl | rfl | rfl | rfl | rfl | rfl | rfl | rfl | rfl | rfl | rfl | rfl | rfl | rfl | rfl | rfl | rfl | rfl | rfl | rfl
        · exact True.intro
        · exact True.intro
        · exact True.intro
        · exact True.intro
        · exact True.intro
        · exact True.intro
        · exact True.intro
        · exact True.intro
        · exact True.intro
        · exact True.intro
        · exact True.intro
        · exact True.intro
        · exact True.intro
        · exact True.intro
        · exact True.intro
        · exact True.intro
        · exact ⟨own_ext HFR.out ((Ext.refl _).drew), fun _ _ h => nomatch h⟩
        · exact True.intro
        · exact True.intro
        · exact True.intro
      · refine ⟨?_, ?_, ?_, ?_, ?_, ?_, ?_, ?_, ?_, ?_, ?_, ?_, ?_, ?_, ?_, ?_, ?_, ?_, ?_, trivial⟩
        · intro w1 hx1 hg1; change wpList _ _ _ _ _ _; refine Rr.lift (fun _ _ h => Rr.grew_of h) ?_; have m0 := hx1.cell n1 HNX.out; go_wp2_with fail; exact ⟨rfl, Ext.refl _, rfl, rfl⟩
        · intro w1 hx1 hg1; rintro _ rfl; change wpList _ _ _ _ _ _; refine Rr.lift (fun _ _ h => Rr.grew_of h) ?_; go_wp2_with fail; exact ⟨rfl, Ext.refl _, rfl, rfl⟩
        · intro w1 hx1 hg1; rintro _ rfl; change wpList _ _ _ _ _ _; refine Rr.lift (fun _ _ h => Rr.grew_of h) ?_; go_wp2_with fail; exact ⟨rfl, Ext.refl _, rfl, rfl⟩
        · intro w1 hx1 hg1; rintro _ rfl; change wpList _ _ _ _ _ _; refine Rr.lift (fun _ _ h => Rr.grew_of h) ?_; have m0 := hx1.cell n0 HNB.out; go_wp2_with fail; exact ⟨rfl, Ext.refl _, rfl, rfl⟩
        · intro w1 hx1 hg1; change wpList _ _ _ _ _ _; refine Rr.lift (fun _ _ h => Rr.grew_of h) ?_; exact ob_move rfl rfl rfl rfl rfl
        · intro w1 hx1 hg1; rintro _ rfl; rintro _ rfl; change wpList _ _ _ _ _ _; refine Rr.lift (fun _ _ h => Rr.grew_of h) ?_; have k1 := HLB.out w1 hx1; go_wp2_with fail; exact ⟨rfl, Ext.refl _, rfl, rfl⟩
        · intro w1 hx1 hg1; change wpList _ _ _ _ _ _; refine Rr.lift (fun _ _ h => Rr.grew_of h) ?_; have m0 := hx1.cell n1 HNX.out; go_wp2_with fail; exact ⟨rfl, Ext.refl _, rfl, rfl⟩
        · intro w1 hx1 hg1; rintro _ rfl; change wpList _ _ _ _ _ _; refine Rr.lift (fun _ _ h => Rr.grew_of h) ?_; go_wp2_with fail; exact ⟨rfl, Ext.refl _, rfl, rfl⟩
        · intro w1 hx1 hg1; rintro _ rfl; change wpList _ _ _ _ _ _; refine Rr.lift (fun _ _ h => Rr.grew_of h) ?_; go_wp2_with fail; exact ⟨rfl, Ext.refl _, rfl, rfl⟩
        · intro w1 hx1 hg1; rintro _ rfl; change wpList _ _ _ _ _ _; refine Rr.lift (fun _ _ h => Rr.grew_of h) ?_; have m0 := hx1.cell n0 HNB.out; go_wp2_with fail; exact ⟨rfl, Ext.refl _, rfl, rfl⟩
        · intro w1 hx1 hg1; change wpList _ _ _ _ _ _; refine Rr.lift (fun _ _ h => Rr.grew_of h) ?_; exact ob_move rfl rfl rfl rfl rfl
        · intro w1 hx1 hg1; rintro _ rfl; rintro _ rfl; change wpList _ _ _ _ _ _; refine Rr.lift (fun _ _ h => Rr.grew_of h) ?_; have k1 := HLB.out w1 hx1; go_wp2_with fail; exact ⟨rfl, Ext.refl _, rfl, rfl⟩
        · intro w1 hx1 hg1; rintro _ rfl; change wpList _ _ _ _ _ _; refine Rr.lift (fun _ _ h => Rr.grew_of h) ?_; go_wp2_with fail; exact ⟨rfl, Ext.refl _, rfl, rfl⟩
        · intro w1 hx1 hg1; rintro _ rfl; change wpList _ _ _ _ _ _; refine Rr.lift (fun _ _ h => Rr.grew_of h) ?_; go_wp2_with fail; exact ⟨rfl, Ext.refl _, rfl, rfl⟩
        · intro w1 hx1 hg1; rintro _ rfl; change wpList _ _ _ _ _ _; refine Rr.lift (fun _ _ h => Rr.grew_of h) ?_; have m0 := hx1.cell n4 HNG.out; go_wp2_with fail; exact ⟨rfl, Ext.refl _, rfl, rfl⟩
        · intro w1 hx1 hg1; change wpList _ _ _ _ _ _; refine Rr.lift (fun _ _ h => Rr.grew_of h) ?_; have m0 := hx1.cell n2 HNY.out; go_wp2_with fail; exact ⟨rfl, Ext.refl _, rfl, rfl⟩
        · intro w1 hx1 hg1; rintro _ rfl; rintro _ rfl; change wpList _ _ _ _ _ _; refine Rr.wpList_append_rowA 24 5 (.tmp 34) (.tmp 35) rfl 0 _ 1 1 Tryd.underlying24 infoU8 rfl (by decide) rfl _ fn (bV g.b) rfl hg1.1 m (bV l) (HVW.out w1 hx1) (bV_one l) hb1 hb2 (Nat.zero_le _) ?_; intro v' w2 ho2 hg2 hat; exact wpList_nil ⟨rfl, hg2, rfl, ho2, hat.imp (fun h => h) fun e => ⟨_, e, hx1.size⟩⟩
        · intro w1 hx1 hg1; rintro _ rfl; change wpList _ _ _ _ _ _; refine Rr.lift (fun _ _ h => Rr.grew_of h) ?_; go_wp2_with fail; exact ⟨rfl, Ext.refl _, rfl, rfl⟩
        · intro w1 hx1 hg1; rintro _ rfl; change wpList _ _ _ _ _ _; refine Rr.lift (fun _ _ h => Rr.grew_of h) ?_; go_wp2_with fail; exact ⟨rfl, Ext.refl _, rfl, rfl⟩
      · intro w1 hx1; intro hgs; rintro _ rfl; rintro _ rfl; rintro _ rfl; rintro _ rfl; rintro _ rfl; rintro _ rfl; rintro _ rfl; rintro _ rfl; rintro _ rfl; rintro _ rfl; rintro _ rfl; rintro _ rfl; rintro _ rfl; rintro _ rfl; rintro _ rfl; rintro _ rfl; intro v36 h36; rintro _ rfl; rintro _ rfl; refine depsThen_nil ?_; dsimp only; simp only [Act.put, List.setIfInBounds_toArray, List.set_cons_zero, List.set_cons_succ, List.drop_succ_cons, List.drop_zero]
        replace h36 : (Rr.FactB.ownL 0 5 1 (fn + m) (bV g.b ++ bV l) (Value.slice fa fn fc).ownBlock w3.heap.size).p v36 w1 := h36
        clear hgs
        obtain ⟨ho36, hl36⟩ := h36
        obtain ⟨a36, c36, rfl, _, _⟩ := own_shape ho36
        have hfc1 : w1.heap[gp]? = some (.cells #[.slice fa fn fc, .int .i64 g.fast] 70 (0, 0)) := (hx1.block gp (Array.getElem?_eq_some_iff.1 HFC.out).1 HNG.out).trans HFC.out
        have k5 := cell_of_row _ _ 0 _ _ _ hfc1
        have j5 := frozen_of_row _ _ 0 _ _ hfc1
        have hfin : LeftD w b (foot b bm gs) (askdS S (appendL S n m) (appendA n l)) (w1.setCell ⟨gp, 0, none⟩ (.slice a36 (fn + m) c36)) := by
          have hgm := (nget_some HG.out).1
          have hgr : w3.grownBy w1 (Value.slice fa fn fc).ownBlock := hx1.grown (row := (Value.slice fa fn fc).ownBlock) fun q hq => by
            simp only [List.mem_cons, List.not_mem_nil, or_false, reduceCtorEq, false_or] at hq
            exact hq.symm
          have htg : Turns (ftG g) w3 w1 := ⟨hgr.os, hgr.tape, hgr.output, hgr.size, fun k hk hn => hgr.block k hk fun e => hn (by
            rw [← HFH.out] at e; simp [ftG, e])⟩
          have htc : Turns (ftG g) w1 (w1.setCell ⟨gp, 0, none⟩ (.slice a36 (fn + m) c36)) := (turns_cell w1 gp 0 _).wide (fun i hi => by rw [← HGP.out] at hi; simp at hi; subst hi; simp [ftG])
          have hset := HD3.out.set (g := g) (g' := { g with b := g.b ++ l, h := .slice a36 (fn + m) c36 }) (w' := w1.setCell ⟨gp, 0, none⟩ (.slice a36 (fn + m) c36)) hgm rfl rfl (htg.trans htc fun i hi => .inl hi) ⟨by
              show (w1.setCell ⟨gp, 0, none⟩ (.slice a36 (fn + m) c36)).heap[g.p]? = _
              rw [HGP.out]
              exact setCell_row (i := 0) hfc1 (.slice a36 (fn + m) c36), by
              show (w1.setCell ⟨gp, 0, none⟩ (.slice a36 (fn + m) c36)).ownsRow 0 5 1 (.slice a36 (fn + m) c36) (g.b ++ l).length (bV (g.b ++ l))
              have e1 : bV (g.b ++ l) = bV g.b ++ bV l := by unfold bV; rw [List.map_append]
              rw [List.length_append, HFN.out, HM.out, e1]
              exact (turns_cell w1 gp 0 _).own ho36 fun q hq e => by
                simp at e; subst e; exact own_ne ho36 hfc1 (by decide) hq⟩ (fun k hk => by
            rcases List.mem_cons.1 hk with rfl | hk
            · exact .inl (by simp [ftG])
            · have hk : (Value.slice a36 (fn + m) c36).ownBlock = some k := by simpa using hk
              rcases hl36 with h | ⟨q, h, hq⟩
              · exact .inl (by rw [h, ← HFH.out] at hk; simp [ftG, hk])
              · rw [h] at hk; injection hk with hk; subst hk; exact .inr hq)
          refine leftD_yes HX3.out HT3.out hset.1 hset.2 ?_ ?_ ?_ ?_
          · rw [HY.out.2]
            show _ = appendA n l S.fs
            unfold appendA
            rw [dkG_get HGS.out n, HG.out, ← HGS.out]
            show _ = nset Fl.nm (gs.map FG.fl) (FG.fl { g with b := g.b ++ l, h := .slice a36 (fn + m) c36 })
            rw [nset_map fl_nm]
          · rw [HY.out.2]
          · rw [HY.out.2]
          · rw [HY.out.2]
        have HFIN := Lib.hid hfin
        clear hfin hx1 ho36 hl36 hfc1 n0 n1 n2 n4
        go_wp2_with fail
        exact bodyPost_ret (v := .int .i64 0) (by simp [results, Tryd.results24, go_sem]) rfl ⟨rfl, HFIN.out⟩
    · have hno := askd_no (S := S) (l := appendL S n m) (by rw [← HC.out]; exact hc0) (appendA n l)
      have hfin : LeftD w b (foot b bm gs) (askdS S (appendL S n m) (appendA n l)) w3 := by
        rw [hno]; exact leftD_no HX3.out HD3.out HT3.out HGS.out (askd_fs _ _)
      have HFIN := Lib.hid hfin
      have hcn : ((c : Int) == 0) = false := by rw [beq_eq_false_iff_ne]; exact hc0
      clear hno hfin hc0
      go_wp2_with fail
      exact bodyPost_ret (v := .int .i64 c) (by simp [results, Tryd.results24, go_sem]) rfl ⟨rfl, HFIN.out⟩
end Go.Proofs.YtdfnfmanpdafpaaDoor
