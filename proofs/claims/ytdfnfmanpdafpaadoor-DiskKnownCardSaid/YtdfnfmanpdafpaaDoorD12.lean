/- Disk: Create. -/
import Derived.Test.YtdfnfmanpdafpaaDoorD11
namespace Go.Proofs.YtdfnfmanpdafpaaDoor
open Go.RowKit Go.MapKept

theorem wpList_putD {P : Program} {ops : Array Oper} {Q : Exit → Act → World → Prop} {a : Act} {w : World} {rest : List Oper} {o : Oper} (hg : o.guard = none) (m x v : Operand) (t : TypeId) (hop : o.op = .mapUpdate t m x v)
    {k e : TypeId} {d : TypeDesc} (ht : P.underlying t = some (.map k e)) (hd : P.underlying k = some d) {b : Nat} {E : List (Value × Value)} (key val : Value) (hm : a.eval m = .map (some b)) (hx : a.eval x = key) (hv : a.eval v = val) (h : MapE w b d E) (hk : IsKey d key)
    (hK : ∀ w', But b w w' → (∃ E', MapE w' b d E' ∧ (((∀ p ∈ E, p.1 ≠ key) ∧ E' = E ++ [(key, val)]) ∨ ∃ (j : Nat) (u : Value), E[j]? = some (key, u) ∧ E' = E.set j (key, val))) → wpList P ops Q rest (a.put o.dst undef) w') :
    wpList P ops Q (o :: rest) a w := by
  subst hx; subst hv
  refine wpList_put hg m x v t hop ht hd hm h hk fun w' hb hm => hK w' hb ?_
  rcases hm with ⟨h1, h2⟩ | ⟨j, u, h1, h2⟩
  · exact ⟨_, h2, .inl ⟨h1, rfl⟩⟩
  · exact ⟨_, h2, .inr ⟨j, u, h1, rfl⟩⟩
def Fact.fileD (N : Nat) : Fact := ⟨fun v w => ∃ p, v = .pointer (some ⟨p, 0, none⟩) ∧ N ≤ p ∧ w.heap[p]? = some (.cells #[.slice none 0 0, .int .i64 0] 70 (0, 0)), fun _ _ _ hx ⟨p, h1, h2, h3⟩ => ⟨p, h1, h2, block_later h3 hx⟩⟩
/-- What a call leaves of a disk. -/
def LeftD (w : World) (b : Nat) (F : List Nat) (S' : DS) (w' : World) : Prop := ∃ F', Dk w' b F' S' ∧ Moves F F' w w'
theorem leftD_no {w w0 w1 : World} {b bm : Nat} {gs : List FG} {S S1 : DS} (hx : Ext w w0) (hd : DkR w1 b bm gs S1.q S1.fz S1.off) (ht : Turns [b] w0 w1) (hg : gs.map FG.fl = S.fs) (hf : S1.fs = S.fs) : LeftD w b (foot b bm gs) S1 w1 :=
  ⟨foot b bm gs, ⟨bm, gs, hd, hg.trans hf.symm, rfl⟩, (Turns.of_ext hx).trans (ht.wide (fun i hi => mem_foot.2 (.inl (by simpa using hi)))) fun i hi => .inl hi, fun k hk => .inl hk⟩
theorem leftD_yes {w w0 w1 w2 : World} {b bm : Nat} {gs gs' : List FG} {q fz : Int} {off : Bool} {S' : DS} (hx : Ext w w0) (ht : Turns [b] w0 w1) (hd : DkR w2 b bm gs' q fz off) (hm : Moves (foot b bm gs) (foot b bm gs') w1 w2) (hg : gs'.map FG.fl = S'.fs) (e1 : S'.q = q) (e2 : S'.fz = fz) (e3 : S'.off = off) : LeftD w b (foot b bm gs) S' w2 := by
  subst e1; subst e2; subst e3
  have h1 : Moves (foot b bm gs) (foot b bm gs) w w1 := ⟨(Turns.of_ext hx).trans (ht.wide (fun i hi => mem_foot.2 (.inl (by simpa using hi)))) fun i hi => .inl hi, fun k hk => .inl hk⟩
  exact ⟨_, ⟨bm, gs', hd, hg, rfl⟩, h1.trans hm⟩

set_option maxRecDepth 100000 in
set_option maxHeartbeats 8000000 in
theorem create_any (w : World) (b : Nat) (F : List Nat) (S : DS) (n : List UInt8) (hd : Dk w b F S) (f0 : -1 ≤ S.fz) (f1 : S.fz < 9223372036854775808) :
    Calls Tryd.prog 19 #[.pointer (some ⟨b, 0, none⟩), .string (strOf n)] w fun e w' => e = .returned (.int .i64 (askdE S (createL S n))) ∧ LeftD w b F (askdS S (createL S n) (createA n)) w' := by
  obtain ⟨bm, gs, hd, hgs, rfl⟩ := hd
  obtain ⟨hx0, hb1, hb2⟩ := boxes2 w (.cells #[.pointer (some ⟨b, 0, none⟩)] 25) (.cells #[.string (strOf n)] 9)
  obtain ⟨c, hc⟩ : ∃ c, c = askdE S (createL S n) := ⟨_, rfl⟩
  rw [← hc]
  have HC := Lib.hid hc
  have HGS := Lib.hid hgs
  have HD := Lib.hid hd
  have HX0 := Lib.hid hx0
  have HB1 := Lib.hid hb1
  have HB2 := Lib.hid hb2
  have HBL : Hid (b < w.heap.size) := (Array.getElem?_eq_some_iff.1 hd.box).1
  have HF0 : Hid (-1 ≤ S.fz ∧ S.fz < 9223372036854775808) := ⟨f0, f1⟩
  clear hgs hd hx0 hb1 hb2 f0 f1 hc
  go_enter Tryd.func19, Tryd.ntmps19
  go_upto_region 1 with fail
  generalize ((w.alloc (.cells #[.pointer (some ⟨b, 0, none⟩)] 25)).alloc (.cells #[.string (strOf n)] 9)) = w2 at *
  obtain ⟨x1, hx1⟩ : ∃ x1, x1 = w.heap.size := ⟨_, rfl⟩
  rw [← hx1] at HB1 HB2 HBL ⊢
  clear hx1
  have n1 := cell_of_row _ _ 0 _ _ _ HB1.out
  have n2 := cell_of_row _ _ 0 _ _ _ HB2.out
  refine wp_region_chain 10 [Fact.eq (.pointer (some ⟨b, 0, none⟩)),
      Fact.eq (.func (.func 30) #[.pointer (some ⟨b, 0, none⟩)] #[]),
      Fact.eq (.string (strOf n)),
      Fact.eq (.bool (mayN n)),
      Fact.eq (.bool (!mayN n)),
      Fact.wqF (!mayN n) 1,
      Fact.eq (.func (.func 37) #[] #[.pointer (some ⟨x1, 0, none⟩), .pointer (some ⟨x1 + 1, 0, none⟩)]),
      Fact.eq (.func (.func 38) #[] #[.pointer (some ⟨x1, 0, none⟩)]),
      Fact.eq (.pointer (some ⟨b, 0, none⟩)),
      Fact.eq (.func (.func 39) #[.pointer (some ⟨b, 0, none⟩)] #[])]
    [[], [(0, 6)], [], [(2, 8)], [(3, 9)], [(4, 10)], [], [], [], [(8, 14)]]
    [(0, 6), (1, 7), (2, 8), (3, 9), (4, 10), (5, 11), (6, 12), (7, 13), (8, 14), (9, 15)] (by kernel_rfl) (by kernel_rfl) ?_ ?_
  · refine ⟨?_, ?_, ?_, ?_, ?_, ?_, ?_, ?_, ?_, ?_, trivial⟩
    · intro w1 hx1; change wpList _ _ _ _ _ _; have m0 := hx1.cell n1; go_wp2_with fail; exact ⟨rfl, Ext.refl _, rfl, rfl⟩
    · intro w1 hx1; rintro _ rfl; change wpList _ _ _ _ _ _; go_wp2_with fail; exact ⟨rfl, Ext.refl _, rfl, rfl⟩
    · intro w1 hx1; change wpList _ _ _ _ _ _; have m0 := hx1.cell n2; go_wp2_with fail; exact ⟨rfl, Ext.refl _, rfl, rfl⟩
    · intro w1 hx1; rintro _ rfl; change wpList _ _ _ _ _ _; go_wp2_with ((with_reducible refine (may_any _ n).mono ?_); rintro e w2 ⟨rfl, hx2⟩); exact ⟨rfl, hx2, rfl, rfl⟩
    · intro w1 hx1; rintro _ rfl; change wpList _ _ _ _ _ _; go_wp2_with fail; exact ⟨rfl, Ext.refl _, rfl, rfl⟩
    · intro w1 hx1; rintro _ rfl; change wpList _ _ _ _ _ _; go_wp2_with ((with_reducible refine (wrong_fact _ (!mayN n) 1).mono ?_); rintro e w2 ⟨c1, c2, rfl, g1, g2, hx2⟩); exact ⟨rfl, hx2, rfl, c1, c2, rfl, g1, g2⟩
    · intro w1 hx1; change wpList _ _ _ _ _ _; go_wp2_with fail; exact ⟨rfl, Ext.refl _, rfl, rfl⟩
    · intro w1 hx1; change wpList _ _ _ _ _ _; go_wp2_with fail; exact ⟨rfl, Ext.refl _, rfl, rfl⟩
    · intro w1 hx1; change wpList _ _ _ _ _ _; have m0 := hx1.cell n1; go_wp2_with fail; exact ⟨rfl, Ext.refl _, rfl, rfl⟩
    · intro w1 hx1; rintro _ rfl; change wpList _ _ _ _ _ _; go_wp2_with fail; exact ⟨rfl, Ext.refl _, rfl, rfl⟩
  · intro w1 hx1; rintro _ rfl; rintro _ rfl; rintro _ rfl; rintro _ rfl; rintro _ rfl; intro v11 h11; rintro _ rfl; rintro _ rfl; rintro _ rfl; rintro _ rfl; refine depsThen_nil ?_; dsimp only; simp only [Act.put, List.setIfInBounds_toArray, List.set_cons_zero, List.set_cons_succ, List.drop_succ_cons, List.drop_zero]
    replace h11 : (Fact.wqF (!mayN n) 1).p v11 w1 := h11
    obtain ⟨c1, c2, rfl, g1, g2⟩ : ∃ c1 c2, v11 = wqV c1 c2 ∧ w1.heap[c1]? = some (.cells #[.bool (!mayN n)] 4 (0, 0)) ∧ w1.heap[c2]? = some (.cells #[.int .i64 1] 26 (0, 0)) := h11
    obtain ⟨hxa, hra⟩ := boxes1 w1 (.cells #[.func (.func 30) #[.pointer (some ⟨b, 0, none⟩)] #[], wqV c1 c2, .func (.func 37) #[] #[.pointer (some ⟨x1, 0, none⟩), .pointer (some ⟨x1 + 1, 0, none⟩)], .func (.func 38) #[] #[.pointer (some ⟨x1, 0, none⟩)], .func (.func 39) #[.pointer (some ⟨b, 0, none⟩)] #[]] 61)
    have hxx : Ext w2 _ := hx1.trans hxa
    have hda := HD.out.ext (HX0.out.trans hxx)
    have hp1 : PBox _ x1 b := block_later HB1.out hxx
    have hp2 : SBox _ (x1 + 1) n := block_later HB2.out hxx
    have hcs : [offE S, errB (!mayN n) 1, errB (nget FG.nm gs n).isSome 9, errB (decide (512 ≤ gs.length)) 7] = createL S n := by
      unfold createL; rw [dkG_get HGS.out n, Option.isSome_map, dkG_len HGS.out]
    have hF := firstq_dk _ w1.heap.size b bm gs S [(_, offE S), (_, errB (!mayN n) 1), (_, errB (nget FG.nm gs n).isSome 9), (_, errB (decide (512 ≤ gs.length)) 7)] hra (by simp) ⟨answersQ hda, fun _ => ⟨wrongQ (block_later g1 hxa) (block_later g2 hxa), fun _ => ⟨create1Q hp2 hp1 hda, fun _ => ⟨create2Q hp1 hda, fun _ => trivial⟩⟩⟩⟩ hda HF0.out.1 HF0.out.2
    simp only [List.map_cons, List.map_nil] at hF
    rw [hcs] at hF
    rw [← HC.out] at hF
    have HFQ : Hid (Calls Tryd.prog 33 #[.slice (some ⟨w1.heap.size, 0, none⟩) 5 5] _ _) := hF
    have HXA : Hid (Ext w (w1.alloc _)) := HX0.out.trans hxx
    have HP1 := Lib.hid hp1
    have HP2 := Lib.hid hp2
    clear hxa hra hxx hda hp1 hp2 hcs hF g1 g2 hx1 n1 n2 HB1 HB2
    go_upto_region 2 with (go_at_call 33; (with_reducible refine HFQ.out.mono ?_); rintro e w3 ⟨rfl, hd3, ht3⟩; have HD3 := Lib.hid hd3; have HT3 := Lib.hid ht3; clear hd3 ht3)
    by_cases hc0 : c = 0
    · have hyes := askd_yes (S := S) (l := createL S n) (by rw [← HC.out]; exact hc0) (createA n)
      subst hc0
      have HY := Lib.hid hyes
      clear hyes HFQ
      have n0 := cell_of_row _ _ 0 _ _ _ HD3.out.box
      have m1 := cell_of_row _ _ 0 _ _ _ (show PBox w3 x1 b from HT3.out.at HP1.out (by have := HBL.out; simp; omega))
      have m2 := cell_of_row _ _ 0 _ _ _ (show SBox w3 (x1 + 1) n from HT3.out.at HP2.out (by have := HBL.out; simp; omega))
      go_upto_region 3 with fail
      refine wp_region_chain 7 [Fact.eq (.pointer (some ⟨b, 0, none⟩)),
          Fact.eq (.pointer (some ⟨b, 0, none⟩)),
          Fact.eq (.pointer (some ⟨b, 0, none⟩)),
          Fact.eq (.map (some bm)),
          Fact.eq (.string (strOf n)),
          Fact.eq (.agg #[.slice none 0 0, .int .i64 0]),
          Fact.fileD w3.heap.size]
        [[], [(0, 20)], [(1, 21)], [(2, 22)], [], [], [(5, 25)]]
        [(0, 20), (1, 21), (2, 22), (3, 23), (4, 24), (5, 25), (6, 26)] (by kernel_rfl) (by kernel_rfl) ?_ ?_
      · refine ⟨?_, ?_, ?_, ?_, ?_, ?_, ?_, trivial⟩
        · intro w1 hx1; change wpList _ _ _ _ _ _; have m0 := hx1.cell m1; go_wp2_with fail; exact ⟨rfl, Ext.refl _, rfl, rfl⟩
        · intro w1 hx1; rintro _ rfl; change wpList _ _ _ _ _ _; go_wp2_with fail; exact ⟨rfl, Ext.refl _, rfl, rfl⟩
        · intro w1 hx1; rintro _ rfl; change wpList _ _ _ _ _ _; go_wp2_with fail; exact ⟨rfl, Ext.refl _, rfl, rfl⟩
        · intro w1 hx1; rintro _ rfl; change wpList _ _ _ _ _ _; have m0 := hx1.cell n0; go_wp2_with fail; exact ⟨rfl, Ext.refl _, rfl, rfl⟩
        · intro w1 hx1; change wpList _ _ _ _ _ _; have m0 := hx1.cell m2; go_wp2_with fail; exact ⟨rfl, Ext.refl _, rfl, rfl⟩
        · intro w1 hx1; change wpList _ _ _ _ _ _; go_wp2_with fail; exact ⟨rfl, Ext.refl _, rfl, rfl⟩
        · intro w1 hx1; rintro _ rfl; change wpList _ _ _ _ _ _; go_wp2_with fail; exact ⟨rfl, (Ext.refl _).alloc _, rfl, _, rfl, hx1.size, heap_alloc_new _ _⟩
      · intro w1 hx1; rintro _ rfl; rintro _ rfl; rintro _ rfl; rintro _ rfl; rintro _ rfl; rintro _ rfl; intro v26 h26; refine depsThen_nil ?_; dsimp only; simp only [Act.put, List.setIfInBounds_toArray, List.set_cons_zero, List.set_cons_succ, List.drop_succ_cons, List.drop_zero]
        replace h26 : (Fact.fileD w3.heap.size).p v26 w1 := h26
        obtain ⟨p, rfl, hp, hbp⟩ : ∃ p, v26 = .pointer (some ⟨p, 0, none⟩) ∧ w3.heap.size ≤ p ∧ w1.heap[p]? = some (.cells #[.slice none 0 0, .int .i64 0] 70 (0, 0)) := h26
        obtain ⟨E, hE, hper⟩ := (HD3.out.ext hx1).map
        have HE := Lib.hid hE
        have HPER := Lib.hid hper
        have HP := Lib.hid hp
        have HBP := Lib.hid hbp
        have HX1 := Lib.hid hx1
        clear hE hper hp hbp hx1 m1 m2 n0
        refine wpList_putD rfl (.tmp 23) (.tmp 24) (.tmp 26) 56 rfl Tryd.underlying56 Tryd.underlying9 (.string (strOf n)) (.pointer (some ⟨p, 0, none⟩)) rfl rfl rfl HE.out trivial ?_; intro w5 hbut hput; have HBUT := Lib.hid hbut; have HPUT := Lib.hid hput; clear hbut hput
        have hfin : LeftD w b (foot b bm gs) (askdS S (createL S n) (createA n)) w5 := by
          obtain ⟨E', hE', hput⟩ := HPUT.out
          have hnb : p ≠ bm := by
            rintro rfl
            obtain ⟨es, cl, hm, _⟩ := HE.out
            have := HBP.out.symm.trans hm
            injection this with this
            cases this
          have hput' := DkR.put (g := ⟨n, [], 0, p, .slice none 0 0⟩) (w' := w5) HD3.out (fun k hk => by simp [ftG, Value.ownBlock] at hk; rw [hk]; exact HP.out) ((Turns.of_ext HX1.out).trans (turns_but HBUT.out) fun i hi => .inl hi) ⟨(HBUT.out.block p hnb).trans HBP.out, own_none w5 0 _ 1⟩ hE' (map_put HE.out HPER.out hput)
          refine leftD_yes (HXA.out) HT3.out hput'.1 hput'.2 ?_ ?_ ?_ ?_
          · rw [HY.out.2]
            show _ = createA n S.fs
            unfold createA
            rw [← HGS.out, ← nput_map fl_nm]
            rfl
          · rw [HY.out.2]
          · rw [HY.out.2]
          · rw [HY.out.2]
        have HFIN := Lib.hid hfin
        clear hfin
        go_wp2_with fail
        exact bodyPost_ret (v := .int .i64 0) (by simp [results, Tryd.results19, go_sem]) rfl ⟨rfl, HFIN.out⟩
    · have hno := askd_no (S := S) (l := createL S n) (by rw [← HC.out]; exact hc0) (createA n)
      have hfin : LeftD w b (foot b bm gs) (askdS S (createL S n) (createA n)) w3 := by
        rw [hno]; exact leftD_no HXA.out HD3.out HT3.out HGS.out (askd_fs _ _)
      have HFIN := Lib.hid hfin
      have hcn : ((c : Int) == 0) = false := by rw [beq_eq_false_iff_ne]; exact hc0
      clear hno hfin hc0
      go_wp2_with fail
      exact bodyPost_ret (v := .int .i64 c) (by simp [results, Tryd.results19, go_sem]) rfl ⟨rfl, HFIN.out⟩
end Go.Proofs.YtdfnfmanpdafpaaDoor
