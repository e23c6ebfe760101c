/- Subs (24): the document's Same, the law's ge.
Subs (24): Reset; a table of the call's own, as calls are made on it.
Subs (24): what the law's examples say.
Subs (24), plainly: what the maximal ones are. No program is in sight. -/
import Derived.Laws.Tables
import Derived.Test.YtlhbpflcffjhmaaGreatPk15
import Derived.Test.YtlhbpflcffjhmaaGreatPk9
namespace Go.Proofs.YtlhbpflcffjhmaaGreat
open Go.RowKit Go.Sort Go.MapKept

/-- Are both the same? -/
noncomputable def sameB (a b : List (List C)) : Bool := @decide (a = b) (Classical.propDecidable _)
theorem sameB_yes {a b : List (List C)} (h : a = b) : sameB a b = true := by unfold sameB; exact @decide_eq_true _ (Classical.propDecidable _) h
theorem sameB_no {a b : List (List C)} (h : a ≠ b) : sameB a b = false := by unfold sameB; exact @decide_eq_false _ (Classical.propDecidable _) h
theorem psP_at (us : List PP) {k : Nat} (hk : k < us.length) : (psP us)[k]? = some us[k].p := by unfold psP; rw [List.getElem?_map, List.getElem?_eq_getElem hk]; rfl
set_option maxRecDepth 100000 in
set_option maxHeartbeats 8000000 in
theorem rsameQ_any (w : World) (v1 v2 : Value) (u1 u2 : List PP) (h1 : PredsR w v1 u1) (h2 : PredsR w v2 u2) :
    Calls Tryz.prog 12 #[v1, v2] w fun e w' => e = .returned (.bool (sameB (psP u1) (psP u2))) ∧ Ext w w' := by
  obtain ⟨a1, c1, rfl, hc1, hm1⟩ := Row.shape h1.row
  obtain ⟨a2, c2, rfl, hc2, hm2⟩ := Row.shape h2.row
  unfold maxLen at hm1 hm2
  have HA := Lib.hid h1
  have HB := Lib.hid h2
  obtain ⟨n1, hn1⟩ : ∃ n, n = u1.length := ⟨_, rfl⟩
  obtain ⟨n2, hn2⟩ : ∃ n, n = u2.length := ⟨_, rfl⟩
  rw [← hn1] at hc1 HA ⊢
  rw [← hn2] at hc2 HB ⊢
  have HN1 := Lib.hid hn1
  have HN2 := Lib.hid hn2
  clear h1 h2 hn1 hn2
  by_cases hne : n1 = n2
  · subst hne
    have hE : ((n1 : Int) != (n1 : Int)) = false := by simp
    go_enter Tryz.func12, Tryz.ntmps12
    go_wp2_with fail
    go_loopw [5] (fun i wr => ∃ k : Nat, k ≤ n1 ∧ i = .int .i64 k ∧ Hid ((psP u1).take k = (psP u2).take k) ∧ Hid (Ext w wr)) (fun i _ => n1 - (intOf i).toNat)
    case atStart => exact ⟨0, Nat.zero_le _, rfl, rfl, Ext.refl w⟩
    case round =>
      obtain ⟨k, hk, rfl, hcm, hx⟩ := hrel
      by_cases hlt : k < n1
      · have hI : decide ((k : Int) < (n1 : Int)) = true := decide_eq_true (by omega)
        have k1 : k < u1.length := by rw [← HN1.out]; exact hlt
        have k2 : k < u2.length := by rw [← HN2.out]; exact hlt
        obtain ⟨B1, o1, rfl, f0⟩ := PredsR.at (HA.out.ext hx.out) k1
        obtain ⟨B2, o2, rfl, g0⟩ := PredsR.at (HB.out.ext hx.out) k2
        have hp1 := (HA.out.hs _ (List.getElem_mem k1)).ext hx.out
        have hp2 := (HB.out.hs _ (List.getElem_mem k2)).ext hx.out
        have ht1 : (psP u1).take (k + 1) = (psP u1).take k ++ [u1[k].p] := by rw [List.take_add_one, psP_at u1 k1]; rfl
        have ht2 : (psP u2).take (k + 1) = (psP u2).take k ++ [u2[k].p] := by rw [List.take_add_one, psP_at u2 k2]; rfl
        generalize u1[k] = x at *
        generalize u2[k] = y at *
        obtain ⟨xa, xc, hxh, _, _⟩ := hp1.shape
        obtain ⟨ya, yc, hyh, _, _⟩ := hp2.shape
        obtain ⟨xn, hxn⟩ : ∃ xn, xn = x.p.length := ⟨_, rfl⟩
        obtain ⟨yn, hyn⟩ : ∃ yn, yn = y.p.length := ⟨_, rfl⟩
        rw [← hxn] at hxh
        rw [← hyn] at hyh
        rw [hxh] at f0 hp1
        rw [hyh] at g0 hp2
        have HP1 := Lib.hid hp1
        have HP2 := Lib.hid hp2
        obtain ⟨b, hb⟩ : ∃ b, (cmpP x.p y.p == 0) = b := ⟨_, rfl⟩
        have hyes : b = true → (psP u1).take (k + 1) = (psP u2).take (k + 1) := fun hb1 => by
          rw [hb1] at hb
          have : x.p = y.p := cmpP_zero (by simpa using hb)
          rw [ht1, ht2, hcm.out, this]
        have hno : b = false → psP u1 ≠ psP u2 := fun hb1 e => by
          rw [hb1] at hb
          have e2 := congrArg (fun l => l[k]?) e
          have e3 : some x.p = some y.p := by
            have q1 : (psP u1)[k]? = some x.p := by
              have := congrArg (fun l => l[k]?) ht1
              simpa [List.getElem?_take, List.getElem?_append, List.length_take, psP_len, Nat.min_eq_left (Nat.le_of_lt k1)] using this
            have q2 : (psP u2)[k]? = some y.p := by
              have := congrArg (fun l => l[k]?) ht2
              simpa [List.getElem?_take, List.getElem?_append, List.length_take, psP_len, Nat.min_eq_left (Nat.le_of_lt k2)] using this
            rw [← q1, ← q2]; exact e2
          rw [Option.some.inj e3] at hb
          have := wo_P.refl y.p
          simp at hb
          exact hb this
        have HYES := Lib.hid hyes
        have HNO := Lib.hid hno
        have HBV := Lib.hid (congrArg Value.bool hb)
        clear hp1 hp2 hb hyes hno ht1 ht2 hxn hyn hxh hyh
        go_upto_region 6 with fail
        refine wp_region_facts [Fact.eq (.slice (some ⟨B1, o1, none⟩) n1 c1),
            Fact.eq (.int .i64 k),
            Fact.eq (.pointer (some ⟨B1, o1 + k, none⟩)),
            Fact.eq (.slice xa xn xc),
            Fact.eq (.slice (some ⟨B2, o2, none⟩) n1 c2),
            Fact.eq (.int .i64 k),
            Fact.eq (.pointer (some ⟨B2, o2 + k, none⟩)),
            Fact.eq (.slice ya yn yc),
            Fact.eq (.bool b),
            Fact.eq (.bool (!b))]
          [[], [], [(0, 17), (1, 18)], [(2, 19)], [], [], [(4, 21), (5, 22)], [(6, 23)], [(3, 20), (7, 24)], [(8, 25)]]
          [(0, 17), (1, 18), (2, 19), (3, 20), (4, 21), (5, 22), (6, 23), (7, 24), (8, 25), (9, 26)] (by kernel_rfl) (by kernel_rfl) ?_ ?_
        · refine ⟨?_, ?_, ?_, ?_, ?_, ?_, ?_, ?_, ?_, ?_, trivial⟩
          · intro w1 hx1; change wpList _ _ _ _ _ _; exact ob_move rfl rfl rfl rfl rfl
          · intro w1 hx1; change wpList _ _ _ _ _ _; exact ob_move rfl rfl rfl rfl rfl
          · intro w1 hx1; rintro _ rfl; rintro _ rfl; change wpList _ _ _ _ _ _; go_wp2_with fail; exact ⟨rfl, Ext.refl _, rfl, rfl⟩
          · intro w1 hx1; rintro _ rfl; change wpList _ _ _ _ _ _; have m0 := hx1.cell f0; go_wp2_with fail; exact ⟨rfl, Ext.refl _, rfl, rfl⟩
          · intro w1 hx1; change wpList _ _ _ _ _ _; exact ob_move rfl rfl rfl rfl rfl
          · intro w1 hx1; change wpList _ _ _ _ _ _; exact ob_move rfl rfl rfl rfl rfl
          · intro w1 hx1; rintro _ rfl; rintro _ rfl; change wpList _ _ _ _ _ _; go_wp2_with fail; exact ⟨rfl, Ext.refl _, rfl, rfl⟩
          · intro w1 hx1; rintro _ rfl; change wpList _ _ _ _ _ _; have m0 := hx1.cell g0; go_wp2_with fail; exact ⟨rfl, Ext.refl _, rfl, rfl⟩
          · intro w1 hx1; rintro _ rfl; rintro _ rfl; change wpList _ _ _ _ _ _; go_wp2_with fail; (with_reducible refine (rpsame_any w1 _ _ x.p y.p (HP1.out.ext hx1) (HP2.out.ext hx1)).mono ?_); rintro e w2 ⟨rfl, hx2⟩; go_wp2_with fail; exact ⟨rfl, hx2, rfl, HBV.out⟩
          · intro w1 hx1; rintro _ rfl; change wpList _ _ _ _ _ _; go_wp2_with fail; exact ⟨rfl, Ext.refl _, rfl, rfl⟩
        · intro w1 hx1; rintro _ rfl; rintro _ rfl; rintro _ rfl; rintro _ rfl; rintro _ rfl; rintro _ rfl; rintro _ rfl; rintro _ rfl; rintro _ rfl; rintro _ rfl; refine depsThen_nil ?_; dsimp only; simp only [Act.put, List.setIfInBounds_toArray, List.set_cons_zero, List.set_cons_succ]
          have HX2 := Lib.hid (hx.out.trans hx1)
          clear f0 g0 hx1 hx HP1 HP2 HBV
          cases b
          · have hres := Lib.hid (sameB_no (HNO.out rfl))
            clear HYES HNO
            go_wp2_with fail
            go_ret
            exact ⟨by rw [hres.out]; rfl, HX2.out⟩
          · have hres := Lib.hid (HYES.out rfl)
            clear HYES HNO
            go_wp2_with fail
            go_roundw
            case rel => exact ⟨k + 1, hlt, by go_num, hres.out, HX2.out⟩
            case measure => simp [intOf]; omega
      · obtain rfl : k = n1 := by omega
        have hI : decide ((k : Int) < (k : Int)) = false := decide_eq_false (by omega)
        have hres : Hid (sameB (psP u1) (psP u2) = true) := by
          refine sameB_yes ?_
          have := hcm.out
          rwa [List.take_of_length_le (by rw [psP_len]; exact Nat.le_of_eq HN1.out.symm), List.take_of_length_le (by rw [psP_len]; exact Nat.le_of_eq HN2.out.symm)] at this
        go_wp2_with fail
        go_ret
        exact ⟨by rw [hres.out]; rfl, hx.out⟩
  · have hE : ((n1 : Int) != (n2 : Int)) = true := by simp; omega
    have hEN : decide ((n1 : Int) = (n2 : Int)) = false := decide_eq_false (by omega)
    have hres : Hid (sameB (psP u1) (psP u2) = false) := sameB_no fun e => by
      have := congrArg List.length e
      rw [psP_len, psP_len, ← HN1.out, ← HN2.out] at this
      exact hne this
    go_enter Tryz.func12, Tryz.ntmps12
    go_wp2_with fail
    go_ret
    exact ⟨by rw [hres.out]; rfl, Ext.refl w⟩

/-- What ge tells. -/
def geC (n : Int) : C := ⟨[97], 7, vN1 n, []⟩
theorem ge_ok (n : Int) (hn : okN n) : ∀ c ∈ [geC n], okC c := by
  intro c hc
  rw [List.mem_singleton.1 hc]
  refine ⟨(by show 1 ≤ maxLen; unfold maxLen; omega), (by show okN 7; unfold okN; omega), ⟨(by show okN 1; unfold okN; omega), hn, (by show 0 ≤ maxLen; omega)⟩, (fun _ h => by cases h)⟩
set_option maxRecDepth 100000 in
theorem ge_any (w : World) (n : Int) : Calls Tryz.prog 26 #[.int .i64 n] w fun e w' => ∃ k, e = .returned (.slice (some ⟨k, 0, none⟩) 1 1) ∧ PredR w' (.slice (some ⟨k, 0, none⟩) 1 1) [geC n] ∧ Ext w w' := by
  go_enter Tryz.func26, Tryz.ntmps26
  go_wp2_with (go_at_call 58; (with_reducible refine (lawN_any _ _).mono ?_); rintro e w2 ⟨rfl, hx2⟩; have HX2 := Lib.hid hx2; clear hx2)
  have hR : PredR (w2.alloc (.cells #[.string ⟨#[97]⟩, .int .i64 7, .int .i64 1, .int .i64 n, .string ⟨#[]⟩, .bool false, .slice none 0 0] 64)) (.slice (some ⟨w2.heap.size, 0, none⟩) 1 1) [geC n] := pred_lit w2 [⟨geC n, .slice none 0 0⟩] (by show 1 ≤ maxLen; unfold maxLen; omega) (fun x hx => by rw [List.mem_singleton.1 hx]; exact Row.nil _ _)
  exact bodyPost_ret (v := .slice (some ⟨w2.heap.size, 0, none⟩) 1 1) (by simp [results, Tryz.results26, go_sem]) rfl ⟨_, rfl, hR, HX2.out.trans ((Ext.refl _).alloc _)⟩
end Go.Proofs.YtlhbpflcffjhmaaGreat

namespace Go.Proofs.YtlhbpflcffjhmaaGreat
open Go.RowKit Go.Sort Go.MapKept

theorem turns_setRow (w : World) (k : Nat) (cs : Array Value) : Turns [k] w (w.setRow k cs) :=
  ⟨rfl, rfl, rfl, by unfold World.setRow; simp, fun i _ hn => setRow_other w k i cs (fun e => hn (by rw [e]; simp))⟩
theorem sizeLink : (Tryz.prog.info? 85).map (·.size) = some 3 := by kernel_rfl
set_option maxRecDepth 100000 in
set_option maxHeartbeats 8000000 in
theorem resetT_any (w : World) (b bt : Nat) (F : List Nat) (S : TbS) (h : Sb b w bt F S) (n : Int) :
    Calls Tryz.prog 19 #[.pointer (some ⟨bt, 0, none⟩), .int .i64 n] w fun e w' => e = .returned (.int .i64 (linkTE S n)) ∧ Sb b w' bt F (resetTS S n) ∧ Turns F w w' := by
  obtain ⟨bm, gs, vo, o, hS, rfl, rfl⟩ := h
  have HS := Lib.hid hS
  have hlk := lkF_G gs (psP o) n
  cases hg : lkG gs n with
  | none =>
    rw [hg] at hlk
    have hat := atT_none w b bt bm gs vo o hS n hg none 0 0
    have he : linkTE ⟨gs.map LkG.ls, psP o⟩ n = 6 := by unfold linkTE; rw [hlk]; rfl
    have hs : resetTS ⟨gs.map LkG.ls, psP o⟩ n = ⟨gs.map LkG.ls, psP o⟩ := setL_none hlk _
    rw [he, hs]
    have HAT := Lib.hid hat
    clear hat he hs hlk hg hS
    go_enter Tryz.func19, Tryz.ntmps19
    go_wp2_with (go_at_call 48; (with_reducible refine HAT.out.mono ?_); rintro e w1 ⟨rfl, hx⟩; have HX := Lib.hid hx; clear hx)
    exact bodyPost_ret (v := .int .i64 6) (by simp [results, Tryz.results19, go_sem]) rfl ⟨rfl, ⟨bm, gs, vo, o, HS.out.ext HX.out, rfl, rfl⟩, Turns.of_ext HX.out⟩
  | some g =>
    rw [hg] at hlk
    obtain ⟨hgm, rfl⟩ := lkG_some hg
    have hlr := hS.links g hgm
    have hat := atT_ok w b bt bm gs vo o hS g.n g hg (.slice none 0 0) [] (PredR.nil w) rfl
    have he : linkTE ⟨gs.map LkG.ls, psP o⟩ g.n = 0 := by unfold linkTE; rw [hlk]; rfl
    rw [he]
    have hbox := fun W (hW : Ext w W) => block_later hlr.box hW
    have HGM := Lib.hid hgm
    obtain ⟨gp, hgp⟩ : ∃ gp, gp = g.p := ⟨_, rfl⟩
    obtain ⟨gn, hgn⟩ : ∃ gn, gn = g.n := ⟨_, rfl⟩
    rw [← hgp] at hat hbox
    rw [← hgn] at hat ⊢
    have HAT := Lib.hid hat
    have HB := Lib.hid hbox
    have HGP := Lib.hid hgp
    have HGN := Lib.hid hgn
    obtain ⟨vc, hvc⟩ : ∃ x, x = g.vc := ⟨_, rfl⟩
    obtain ⟨va, hva⟩ : ∃ x, x = g.va := ⟨_, rfl⟩
    obtain ⟨vs, hvs⟩ : ∃ x, x = g.vs := ⟨_, rfl⟩
    rw [← hvc, ← hva, ← hvs] at HB
    clear hat he hlk hg hS hlr hgp hgm hbox hgn hvc hva hvs
    go_enter Tryz.func19, Tryz.ntmps19
    go_wp2_with (first
      | (go_at_call 48; (with_reducible refine HAT.out.mono ?_); rintro e w1 ⟨na, nn, nc, rfl, hT, hx⟩; have HX1 := Lib.hid hx; have hb1 := HB.out _ hx; have HB1 := Lib.hid hb1; clear hx hT; have c1 := cell_of_row _ _ 0 _ _ _ hb1; clear hb1)
      | (refine wpList_store_whole 85 (.tmp 19) (.tmp 18) rfl rfl gp rfl #[.slice none 0 0, .slice none 0 0, .slice none 0 0] rfl _ 85 HB1.out rfl sizeLink (by simp [Value.oneCell']) ?_))
    have hr := setRow_heap w1 gp _ #[.slice none 0 0, .slice none 0 0, .slice none 0 0] 85 (0, 0) HB1.out
    have hfin := Sb.link HS.out HX1.out HGM.out (g' := ⟨g.n, g.p, .slice none 0 0, .slice none 0 0, .slice none 0 0, [], [], []⟩) rfl rfl (w4 := w1.setRow gp #[.slice none 0 0, .slice none 0 0, .slice none 0 0]) (by rw [← HGP.out]; exact hr) (RowQ.nil _ _) (RowQ.nil _ _) (RowQ.nil _ _) (by rw [← HGP.out]; exact turns_setRow _ _ _) (fun x => ⟨x.n, [], [], []⟩) rfl
    rw [← HGN.out] at hfin
    exact bodyPost_ret (v := .int .i64 0) (by simp [results, Tryz.results19, go_sem]) rfl ⟨rfl, hfin⟩

/-- The table in block bt, over the blocks F, says S; it was made by the call that began at w0. -/
structure AtS (w0 w : World) (bt : Nat) (F : List Nat) (S : TbS) : Prop where
  ok : OkT S
  sb : ∃ b, w0.heap.size ≤ b ∧ b ≤ w.heap.size ∧ Sb b w bt F S
  ext : Ext w0 w
/-- What a call on it leaves. -/
structure LeftS (w0 w w' : World) (bt : Nat) (F : List Nat) (S : TbS) : Prop where
  at_ : AtS w0 w' bt F S
  turns : Turns F w w'
  tbb : TbB w F
  lo : ∀ k ∈ F, w0.heap.size ≤ k
section
variable {w0 w w' : World} {bt : Nat} {F : List Nat} {S S' : TbS}
theorem AtS.later (k : AtS w0 w bt F S) (hx : Ext w w') : AtS w0 w' bt F S := by
  obtain ⟨ok, ⟨b, h1, h2, h3⟩, h4⟩ := k
  exact ⟨ok, ⟨b, h1, Nat.le_trans h2 hx.size, h3.ext hx⟩, h4.trans hx⟩
theorem AtS.lo (k : AtS w0 w bt F S) : ∀ i ∈ F, w0.heap.size ≤ i := fun i hi => by
  obtain ⟨ok, ⟨b, h1, h2, h3⟩, h4⟩ := k
  exact Nat.le_trans h1 (h3.lo i hi)
theorem AtS.tbb (k : AtS w0 w bt F S) : TbB w F := by
  obtain ⟨ok, ⟨b, h1, h2, h3⟩, h4⟩ := k
  exact h3.tbb
/-- Another table turns. -/
theorem AtS.turn {G : List Nat} {ct : Nat} {T' : TbS} (k : AtS w0 w bt F S) (g : LeftS w0 w w' ct G T') (hn : ∀ i ∈ F, i ∉ G) : AtS w0 w' bt F S := by
  obtain ⟨ok, ⟨b, h1, h2, h3⟩, h4⟩ := k
  exact ⟨ok, ⟨b, h1, Nat.le_trans h2 g.turns.size, h3.turn g.tbb g.turns hn⟩, g.at_.ext⟩
theorem AtS.left (k : AtS w0 w bt F S) (ok : OkT S') (h : ∀ b, w0.heap.size ≤ b → b ≤ w.heap.size → Sb b w bt F S → Sb b w' bt F S' ∧ Turns F w w') : LeftS w0 w w' bt F S' := by
  have hlo := k.lo
  have htb := k.tbb
  obtain ⟨_, ⟨b, h1, h2, h3⟩, h4⟩ := k
  obtain ⟨q1, q2⟩ := h b h1 h2 h3
  exact ⟨⟨ok, ⟨b, h1, Nat.le_trans h2 q2.size, q1⟩, q2.ext h4 hlo⟩, q2, htb, hlo⟩
theorem AtS.call {f : Nat} {args : Array Value} {c : Int} (k : AtS w0 w bt F S) (ok : OkT S') (h : ∀ b, b ≤ w.heap.size → Sb b w bt F S → Calls Tryz.prog f args w fun e w' => e = .returned (.int .i64 c) ∧ Sb b w' bt F S' ∧ Turns F w w') :
    Calls Tryz.prog f args w fun e w' => e = .returned (.int .i64 c) ∧ LeftS w0 w w' bt F S' := by
  have hlo := k.lo
  have htb := k.tbb
  obtain ⟨_, ⟨b, h1, h2, h3⟩, h4⟩ := k
  refine (h b h2 h3).mono ?_
  rintro e w' ⟨rfl, q1, q2⟩
  exact ⟨rfl, ⟨ok, ⟨b, h1, Nat.le_trans h2 q2.size, q1⟩, q2.ext h4 hlo⟩, q2, htb, hlo⟩
theorem AtS.own (k : AtS w0 w bt F S) (hl : S.own.length ≤ 50000) (v : Value) (p : List C) (hp : PredR w v p) (kp : ∀ c ∈ p, okC c) :
    Calls Tryz.prog 14 #[.pointer (some ⟨bt, 0, none⟩), v] w fun e w' => e = .returned (.int .i64 (ownTE p)) ∧ LeftS w0 w w' bt F (ownTS S p) :=
  k.call (k.ok.ownS p) fun b hb h => ownT_any w b bt F S h k.ok hl hb v p hp kp
theorem AtS.disown (k : AtS w0 w bt F S) (hl : S.own.length ≤ 50000) (v : Value) (p : List C) (hp : PredR w v p) :
    Calls Tryz.prog 15 #[.pointer (some ⟨bt, 0, none⟩), v] w fun e w' => e = .returned (.int .i64 (disTE S p)) ∧ LeftS w0 w w' bt F (disTS S p) :=
  k.call (k.ok.disS p) fun b hb h => disownT_any w b bt F S h k.ok hl hb v p hp
theorem AtS.learn (k : AtS w0 w bt F S) (hl : ∀ x ∈ S.ls, x.came.length ≤ 50000) (n : Int) (v : Value) (p : List C) (hp : PredR w v p) (kp : ∀ c ∈ p, okC c) :
    Calls Tryz.prog 16 #[.pointer (some ⟨bt, 0, none⟩), .int .i64 n, v] w fun e w' => e = .returned (.int .i64 (atTE S n p)) ∧ LeftS w0 w w' bt F (learnTS S n p) :=
  k.call (k.ok.learnS n p) fun b hb h => learnT_any w b bt F S h k.ok hl hb n v p hp kp
theorem AtS.forget (k : AtS w0 w bt F S) (hl : ∀ x ∈ S.ls, x.came.length ≤ 50000) (n : Int) (v : Value) (p : List C) (hp : PredR w v p) :
    Calls Tryz.prog 17 #[.pointer (some ⟨bt, 0, none⟩), .int .i64 n, v] w fun e w' => e = .returned (.int .i64 (forgetTE S n p)) ∧ LeftS w0 w w' bt F (forgetTS S n p) :=
  k.call (k.ok.forgetS n p) fun b hb h => forgetT_any w b bt F S h k.ok hl hb n v p hp
theorem AtS.ads (k : AtS w0 w bt F S) (n : Int) (v : Value) (us : List PP) (hv : PredsR w v us) (hk : ∀ x ∈ us, ∀ c ∈ x.p, okC c) (hul : us.length ≤ 100000) :
    Calls Tryz.prog 18 #[.pointer (some ⟨bt, 0, none⟩), .int .i64 n, v] w fun e w' => e = .returned (.int .i64 (adsTE S n (us.map PP.p))) ∧ LeftS w0 w w' bt F (adsTS S n (us.map PP.p)) :=
  k.call (k.ok.adsS n _) fun b hb h => adsT_any w b bt F S h hb n v us hv hk hul
theorem AtS.reset (k : AtS w0 w bt F S) (n : Int) :
    Calls Tryz.prog 19 #[.pointer (some ⟨bt, 0, none⟩), .int .i64 n] w fun e w' => e = .returned (.int .i64 (linkTE S n)) ∧ LeftS w0 w w' bt F (resetTS S n) :=
  k.call (k.ok.resetS n) fun b _ h => resetT_any w b bt F S h n
/-- A row that a call answers. -/
def AnsQ (w0 w : World) (v : Value) (L : List (List C)) : Prop := ∃ a n c us, v = .slice a n c ∧ psP us = L ∧ RowQ w0.heap.size w v us
theorem AnsQ.later {v : Value} {L : List (List C)} (h : AnsQ w0 w v L) (hx : Ext w w') : AnsQ w0 w' v L := by
  obtain ⟨a, n, c, us, e, h1, h2⟩ := h
  exact ⟨a, n, c, us, e, h1, h2.ext hx⟩
theorem AnsQ.turn {G : List Nat} {ct : Nat} {T' : TbS} {v : Value} {L : List (List C)} (h : AnsQ w0 w v L) (g : LeftS w0 w w' ct G T') : AnsQ w0 w' v L := by
  obtain ⟨a, n, c, us, e, h1, h2⟩ := h
  exact ⟨a, n, c, us, e, h1, h2.turnF g.tbb g.turns⟩
theorem AtS.changes (k : AtS w0 w bt F S) (sm : SmallT S) (n : Int) (x : LkS) (hn : lkF S n = some x) :
    Calls Tryz.prog 20 #[.pointer (some ⟨bt, 0, none⟩), .int .i64 n] w fun e w' => ∃ v1 v2, e = .returned (.tuple #[v1, v2, .int .i64 0]) ∧ AnsQ w0 w' v1 (lessF (wantF S x) x.sent) ∧ AnsQ w0 w' v2 (lessF x.sent (wantF S x)) ∧ LeftS w0 w w' bt F (chTS S n) := by
  have hlo := k.lo
  have htb := k.tbb
  have hok := k.ok.chS n
  obtain ⟨ok, ⟨b, h1, h2, h3⟩, h4⟩ := k
  refine (changesT_any w b bt F S h3 ok sm h2 n x hn).mono ?_
  rintro e w' ⟨a1, n1, c1, a2, n2, c2, u1, u2, rfl, e1, r1, e2, r2, q1, q2⟩
  exact ⟨_, _, rfl, ⟨_, _, _, u1, rfl, e1, r1.low h1⟩, ⟨_, _, _, u2, rfl, e2, r2.low h1⟩, ⟨hok, ⟨b, h1, Nat.le_trans h2 q2.size, q1⟩, q2.ext h4 hlo⟩, q2, htb, hlo⟩
theorem AtS.sent (k : AtS w0 w bt F S) (hl : ∀ x ∈ S.ls, x.sent.length ≤ 100000) (n : Int) :
    Calls Tryz.prog 22 #[.pointer (some ⟨bt, 0, none⟩), .int .i64 n] w fun e w' => ∃ v, e = .returned v ∧ AnsQ w0 w' v (sentF S n) ∧ Ext w w' := by
  obtain ⟨ok, ⟨b, h1, h2, h3⟩, h4⟩ := k
  refine (sentT_any w b bt F S h3 ok hl n).mono ?_
  rintro e w' ⟨a, m, c, us, rfl, e1, r1, hx⟩
  exact ⟨_, rfl, ⟨_, _, _, us, rfl, e1, r1.low h4.size⟩, hx⟩
theorem AtS.came (k : AtS w0 w bt F S) (hl : ∀ x ∈ S.ls, x.came.length ≤ 100000) (n : Int) :
    Calls Tryz.prog 21 #[.pointer (some ⟨bt, 0, none⟩), .int .i64 n] w fun e w' => ∃ v, e = .returned v ∧ AnsQ w0 w' v (cameF S n) ∧ Ext w w' := by
  obtain ⟨ok, ⟨b, h1, h2, h3⟩, h4⟩ := k
  refine (cameT_any w b bt F S h3 ok hl n).mono ?_
  rintro e w' ⟨a, m, c, us, rfl, e1, r1, hx⟩
  exact ⟨_, rfl, ⟨_, _, _, us, rfl, e1, r1.low h4.size⟩, hx⟩
theorem AtS.wants (k : AtS w0 w bt F S) (hl : ∀ x ∈ S.ls, x.came.length ≤ 100000) (n : Int) (key : List UInt8) (va : Value) (l : List (List UInt8 × V)) (hv : AttrR w va l) :
    Calls Tryz.prog 25 #[.pointer (some ⟨bt, 0, none⟩), .int .i64 n, .agg #[.string (strOf key), va]] w fun e w' => e = .returned (.bool ((cameF S n).any fun p => matchP p l)) ∧ Ext w w' := by
  obtain ⟨ok, ⟨b, h1, h2, h3⟩, h4⟩ := k
  exact wantsT_any w b bt F S h3 ok hl n key va l hv
end
theorem SubS_new_ok (l : List Int) (h : l.Nodup) : OkT ⟨l.map zS, []⟩ := by
  refine ⟨?_, ⟨(fun _ h => by cases h), List.Pairwise.nil⟩, fun x hx => ?_⟩
  · show ((l.map zS).map LkS.n).Nodup
    rw [List.map_map, show LkS.n ∘ zS = id from rfl, List.map_id]; exact h
  · obtain ⟨n, _, rfl⟩ := List.mem_map.1 hx
    exact OkL.zero n
/-- A table is made. -/
theorem newS_yes (w0 w : World) (hx : Ext w0 w) (v : Value) (l : List Int) (hv : Row w 1 v l.length (l.map (Value.int .i64))) (hwf : ∀ n ∈ l, (Lit.int .i64 n).wf = true) (hg : good l) (hl : l.length ≤ 64) :
    Calls Tryz.prog 13 #[v] w fun e w' => ∃ bt F, e = .returned (.tuple #[.pointer (some ⟨bt, 0, none⟩), .int .i64 0]) ∧ AtS w0 w' bt F ⟨l.map zS, []⟩ ∧ Ext w w' ∧ (∀ k ∈ F, w.heap.size ≤ k) := by
  refine (newT_any w v l hv hwf (by omega)).mono ?_
  rintro e w' ⟨h1, h2 | h2⟩
  · obtain ⟨_, _, bt, F, rfl, h3⟩ := h2
    exact ⟨bt, F, rfl, ⟨SubS_new_ok l hg.2, ⟨_, hx.size, h1.size, h3⟩, hx.trans h1⟩, h1, h3.lo⟩
  · exact absurd ⟨hg, hl⟩ h2.1
theorem newS_no (w : World) (v : Value) (l : List Int) (hv : Row w 1 v l.length (l.map (Value.int .i64))) (hwf : ∀ n ∈ l, (Lit.int .i64 n).wf = true) (hg : ¬ (good l ∧ l.length ≤ 64)) (hl : l.length ≤ 1000) :
    Calls Tryz.prog 13 #[v] w fun e w' => e = .returned (.tuple #[.pointer none, .int .i64 1]) ∧ Ext w w' := by
  refine (newT_any w v l hv hwf (by omega)).mono ?_
  rintro e w' ⟨h1, h2 | h2⟩
  · exact absurd ⟨h2.1, h2.2.1⟩ hg
  · exact ⟨h2.2, h1⟩
end Go.Proofs.YtlhbpflcffjhmaaGreat

namespace Go.Proofs.YtlhbpflcffjhmaaGreat
open Go.RowKit Go.Sort Go.MapKept

def smallB (S : TbS) : Bool := Nat.ble S.own.length 1000 && (S.ls.all fun x => Nat.ble x.came.length 1000 && Nat.ble x.ads.length 1000 && Nat.ble x.sent.length 71000) && Nat.ble S.ls.length 70
theorem small_of {S : TbS} (h : smallB S = true) : SmallT S := by
  unfold smallB at h
  simp only [Bool.and_eq_true, List.all_eq_true, Nat.ble_eq] at h
  obtain ⟨⟨h1, h2⟩, h3⟩ := h
  exact ⟨h1, fun x hx => (h2 x hx).1.1, fun x hx => (h2 x hx).1.2, fun x hx => (h2 x hx).2, h3⟩
def kA : List C := [⟨[97], 1, ⟨0, 0, [], false⟩, []⟩]
def kS0 : TbS := ⟨[zS 1, zS 2], []⟩
def kS1 : TbS := adsTS kS0 1 [kA]
def kS2 : TbS := ownTS kS1 [geC 5]
def kS3 : TbS := chTS kS2 1
def kS4 : TbS := chTS kS3 2
def kS5 : TbS := learnTS kS4 2 [geC 1]
def kS6 : TbS := chTS kS5 1
def kS7 : TbS := forgetTS kS6 2 [geC 1]
def kS8 : TbS := chTS kS7 1
def kX (S : TbS) (n : Int) : LkS := (lkF S n).getD (zS 0)
theorem kE1 : adsTE kS0 1 [kA] = 0 := by kernel_rfl
theorem kE2 : ownTE [geC 5] = 0 := by kernel_rfl
theorem kE5 : atTE kS4 2 [geC 1] = 0 := by kernel_rfl
theorem kE7 : forgetTE kS6 2 [geC 1] = 0 := by kernel_rfl
theorem kL2 : lkF kS2 1 = some (kX kS2 1) := by kernel_rfl
theorem kL3 : lkF kS3 2 = some (kX kS3 2) := by kernel_rfl
theorem kL5 : lkF kS5 1 = some (kX kS5 1) := by kernel_rfl
theorem kL7 : lkF kS7 1 = some (kX kS7 1) := by kernel_rfl
theorem kC2 : lessF (wantF kS2 (kX kS2 1)) (kX kS2 1).sent = [[geC 5]] ∧ lessF (kX kS2 1).sent (wantF kS2 (kX kS2 1)) = [] := by constructor <;> kernel_rfl
theorem kC3 : lessF (wantF kS3 (kX kS3 2)) (kX kS3 2).sent = [] ∧ lessF (kX kS3 2).sent (wantF kS3 (kX kS3 2)) = [] := by constructor <;> kernel_rfl
theorem kC5 : lessF (wantF kS5 (kX kS5 1)) (kX kS5 1).sent = [[geC 1]] ∧ lessF (kX kS5 1).sent (wantF kS5 (kX kS5 1)) = [[geC 5]] := by constructor <;> kernel_rfl
theorem kC7 : lessF (wantF kS7 (kX kS7 1)) (kX kS7 1).sent = [[geC 5]] ∧ lessF (kX kS7 1).sent (wantF kS7 (kX kS7 1)) = [[geC 1]] := by constructor <;> kernel_rfl
theorem kM2 : SmallT kS2 := small_of (by kernel_rfl)
theorem kM3 : SmallT kS3 := small_of (by kernel_rfl)
theorem kM4 : SmallT kS4 := small_of (by kernel_rfl)
theorem kM5 : SmallT kS5 := small_of (by kernel_rfl)
theorem kM6 : SmallT kS6 := small_of (by kernel_rfl)
theorem kM7 : SmallT kS7 := small_of (by kernel_rfl)
theorem preds1 (W : World) (h : Value) (p : List C) (hp : PredR W h p) : PredsR (W.alloc (.cells #[h] 25)) (.slice (some ⟨W.heap.size, 0, none⟩) 1 1) [⟨h, p⟩] :=
  ⟨lit_Q W h, fun x hx => by rw [List.mem_singleton.1 hx]; exact hp.ext ((Ext.refl W).alloc _)⟩
theorem kOkA : ∀ c ∈ kA, okC c := fun c hc => by
  rw [List.mem_singleton.1 hc]
  refine ⟨(by show 1 ≤ maxLen; unfold maxLen; omega), (by show okN 1; unfold okN; omega), ⟨(by show okN 0; unfold okN; omega), (by show okN 0; unfold okN; omega), (by show 0 ≤ maxLen; omega)⟩, (fun _ h => by cases h)⟩
theorem kOk5 : ∀ c ∈ [geC 5], okC c := ge_ok 5 (by unfold okN; omega)
theorem kOk1 : ∀ c ∈ [geC 1], okC c := ge_ok 1 (by unfold okN; omega)
section
variable {w0 w : World} {bt : Nat} {F : List Nat}
theorem k_ads (k : AtS w0 w bt F kS0) (h : Value) (hp : PredR w h kA) (B : Nat) (hB : w.heap.size = B) :
    Calls Tryz.prog 18 #[.pointer (some ⟨bt, 0, none⟩), .int .i64 1, .slice (some ⟨B, 0, none⟩) 1 1] (w.alloc (.cells #[h] 25)) fun e w' => e = .returned (.int .i64 0) ∧ LeftS w0 (w.alloc (.cells #[h] 25)) w' bt F kS1 := by
  subst hB
  have := (k.later ((Ext.refl w).alloc (.cells #[h] 25))).ads 1 _ _ (preds1 w h kA hp) (fun x hx => by rw [List.mem_singleton.1 hx]; exact kOkA) (by show 1 ≤ 100000; omega)
  rw [show ([⟨h, kA⟩] : List PP).map PP.p = [kA] from rfl, kE1] at this
  exact this
theorem k_own (k : AtS w0 w bt F kS1) (h : Value) (hp : PredR w h [geC 5]) :
    Calls Tryz.prog 14 #[.pointer (some ⟨bt, 0, none⟩), h] w fun e w' => e = .returned (.int .i64 0) ∧ LeftS w0 w w' bt F kS2 := by
  have := k.own (by show 0 ≤ 50000; omega) h _ hp kOk5
  rw [kE2] at this
  exact this
theorem k_learn (k : AtS w0 w bt F kS4) (h : Value) (hp : PredR w h [geC 1]) :
    Calls Tryz.prog 16 #[.pointer (some ⟨bt, 0, none⟩), .int .i64 2, h] w fun e w' => e = .returned (.int .i64 0) ∧ LeftS w0 w w' bt F kS5 := by
  have := k.learn (fun x hx => by have := kM4.came x hx; omega) 2 h _ hp kOk1
  rw [kE5] at this
  exact this
theorem k_forget (k : AtS w0 w bt F kS6) (h : Value) (hp : PredR w h [geC 1]) :
    Calls Tryz.prog 17 #[.pointer (some ⟨bt, 0, none⟩), .int .i64 2, h] w fun e w' => e = .returned (.int .i64 0) ∧ LeftS w0 w w' bt F kS7 := by
  have := k.forget (fun x hx => by have := kM6.came x hx; omega) 2 h _ hp
  rw [kE7] at this
  exact this
theorem k_ch2 (k : AtS w0 w bt F kS2) : Calls Tryz.prog 20 #[.pointer (some ⟨bt, 0, none⟩), .int .i64 1] w fun e w' => ∃ v1 v2, e = .returned (.tuple #[v1, v2, .int .i64 0]) ∧ AnsQ w0 w' v1 [[geC 5]] ∧ AnsQ w0 w' v2 [] ∧ LeftS w0 w w' bt F kS3 := by
  have := k.changes kM2 1 _ kL2
  rw [kC2.1, kC2.2] at this
  exact this
theorem k_ch3 (k : AtS w0 w bt F kS3) : Calls Tryz.prog 20 #[.pointer (some ⟨bt, 0, none⟩), .int .i64 2] w fun e w' => ∃ v1 v2, e = .returned (.tuple #[v1, v2, .int .i64 0]) ∧ AnsQ w0 w' v1 [] ∧ AnsQ w0 w' v2 [] ∧ LeftS w0 w w' bt F kS4 := by
  have := k.changes kM3 2 _ kL3
  rw [kC3.1, kC3.2] at this
  exact this
theorem k_ch5 (k : AtS w0 w bt F kS5) : Calls Tryz.prog 20 #[.pointer (some ⟨bt, 0, none⟩), .int .i64 1] w fun e w' => ∃ v1 v2, e = .returned (.tuple #[v1, v2, .int .i64 0]) ∧ AnsQ w0 w' v1 [[geC 1]] ∧ AnsQ w0 w' v2 [[geC 5]] ∧ LeftS w0 w w' bt F kS6 := by
  have := k.changes kM5 1 _ kL5
  rw [kC5.1, kC5.2] at this
  exact this
theorem k_ch7 (k : AtS w0 w bt F kS7) : Calls Tryz.prog 20 #[.pointer (some ⟨bt, 0, none⟩), .int .i64 1] w fun e w' => ∃ v1 v2, e = .returned (.tuple #[v1, v2, .int .i64 0]) ∧ AnsQ w0 w' v1 [[geC 5]] ∧ AnsQ w0 w' v2 [[geC 1]] ∧ LeftS w0 w w' bt F kS8 := by
  have := k.changes kM7 1 _ kL7
  rw [kC7.1, kC7.2] at this
  exact this
theorem AnsQ.empty {v : Value} (h : AnsQ w0 w v []) : ∃ a c, v = .slice a 0 c := by
  obtain ⟨a, n, c, us, rfl, h1, h2⟩ := h
  have hu : us = [] := List.map_eq_nil_iff.1 h1
  subst hu
  obtain ⟨b, d, e, _, _⟩ := own_shape h2.own
  simp only [Value.slice.injEq, List.length_nil] at e
  exact ⟨a, c, by rw [e.2.1]⟩
theorem k_same {v : Value} {p : List C} (hv : AnsQ w0 w v [p]) (h : Value) (hp : PredR w h p) :
    Calls Tryz.prog 12 #[v, .slice (some ⟨w.heap.size, 0, none⟩) 1 1] (w.alloc (.cells #[h] 25)) fun e w' => e = .returned (.bool true) ∧ Ext (w.alloc (.cells #[h] 25)) w' := by
  obtain ⟨a, n, c, us, rfl, h1, h2⟩ := hv
  have := rsameQ_any _ _ _ us [⟨h, p⟩] (h2.preds.ext ((Ext.refl w).alloc (.cells #[h] 25))) (preds1 w h p hp)
  rw [sameB_yes (by rw [h1]; rfl)] at this
  exact this
end
theorem k_new (w : World) : Calls Tryz.prog 13 #[.slice (some ⟨w.heap.size, 0, none⟩) 2 2] (w.alloc (.cells #[.int .i64 1, .int .i64 2] 3)) fun e w' => ∃ bt F, e = .returned (.tuple #[.pointer (some ⟨bt, 0, none⟩), .int .i64 0]) ∧ AtS w w' bt F kS0 := by
  refine (newS_yes w _ ((Ext.refl w).alloc _) _ [1, 2] (Row.of_own (World.ownsRow_lit (base := w.heap.size) (e := 3) (size := 1) w #[.int .i64 1, .int .i64 2] 2 (Nat.le_refl _) (by decide) rfl)) (by decide) ⟨by decide, by decide⟩ (by decide)).mono ?_
  rintro e w' ⟨bt, F, rfl, h, _⟩
  exact ⟨bt, F, rfl, h⟩
theorem k_hasA (w : World) : PredR (w.alloc (.cells #[.string ⟨#[97]⟩, .int .i64 1, .int .i64 0, .int .i64 0, .string ⟨#[]⟩, .bool false, .slice none 0 0] 64)) (.slice (some ⟨w.heap.size, 0, none⟩) 1 1) kA := pred_lit w [⟨⟨[97], 1, ⟨0, 0, [], false⟩, []⟩, .slice none 0 0⟩] (by show 1 ≤ maxLen; unfold maxLen; omega) (fun x hx => by rw [List.mem_singleton.1 hx]; exact Row.nil _ _)

set_option maxRecDepth 100000 in
set_option maxHeartbeats 16000000 in
theorem awake24_any (w : World) : Calls Tryz.prog 11 #[] w fun e w' => e = .returned (.bool true) ∧ Ext w w' := by
  go_enter Tryz.func11, Tryz.ntmps11
  go_upto_region 2 with (go_at_call 13; (with_reducible refine (k_new _).mono ?_); rintro e w1 ⟨bt, F, rfl, hi⟩; have HI1 := Lib.hid hi; clear hi)
  have HA := Lib.hid (k_hasA w1)
  have HI2 := Lib.hid (HI1.out.later ((Ext.refl w1).alloc (.cells #[.string ⟨#[97]⟩, .int .i64 1, .int .i64 0, .int .i64 0, .string ⟨#[]⟩, .bool false, .slice none 0 0] 64)))
  clear HI1
  go_upto_region 4 with (first
    | (go_at_call 18; (with_reducible refine (k_ads HI2.out _ HA.out _ (World.size_alloc _ _)).mono ?_); rintro e w3 ⟨rfl, hl⟩; have HI3 := Lib.hid hl.at_; clear hl HI2 HA)
    | (go_at_call 26; (with_reducible refine (ge_any _ 5).mono ?_); rintro e w4 ⟨g4, rfl, hp, hx⟩; have HI4 := Lib.hid (HI3.out.later hx); have HP4 := Lib.hid hp; clear hp hx HI3)
    | (go_at_call 14; (with_reducible refine (k_own HI4.out _ HP4.out).mono ?_); rintro e w5 ⟨rfl, hl⟩; have HI5 := Lib.hid hl.at_; clear hl HI4 HP4))
  go_upto_region 5 with (go_at_call 20; (with_reducible refine (k_ch2 HI5.out).mono ?_); rintro e w6 ⟨va, vb, rfl, ha, hb, hl⟩; obtain ⟨ba, bc, rfl⟩ := hb.empty; have HA6 := Lib.hid ha; have HI6 := Lib.hid hl.at_; clear hl ha hb HI5)
  go_upto_region 6 with (go_at_call 20; (with_reducible refine (k_ch3 HI6.out).mono ?_); rintro e w7 ⟨vc, vd, rfl, hc, hd, hl⟩; obtain ⟨ca, cc, rfl⟩ := hc.empty; obtain ⟨da, dc, rfl⟩ := hd.empty; have HA7 := Lib.hid (HA6.out.turn hl); have HI7 := Lib.hid hl.at_; clear hl hc hd HI6 HA6)
  go_upto_region 8 with (first
    | (go_at_call 26; (with_reducible refine (ge_any _ 5).mono ?_); rintro e w8 ⟨g8, rfl, hp, hx⟩; have HA8 := Lib.hid (HA7.out.later hx); have HI8 := Lib.hid ((HI7.out.later hx).later ((Ext.refl _).alloc (.cells #[.slice (some ⟨g8, 0, none⟩) 1 1] 25))); have HP8 := Lib.hid hp; clear hp hx HI7 HA7)
    | (go_at_call 12; (with_reducible refine (k_same HA8.out _ HP8.out).mono ?_); rintro e w9 ⟨rfl, hx⟩; have HI9 := Lib.hid (HI8.out.later hx); clear hx HI8 HA8 HP8)
    | (go_at_call 26; (with_reducible refine (ge_any _ 1).mono ?_); rintro e w10 ⟨g10, rfl, hp, hx⟩; have HI10 := Lib.hid (HI9.out.later hx); have HP10 := Lib.hid hp; clear hp hx HI9)
    | (go_at_call 16; (with_reducible refine (k_learn HI10.out _ HP10.out).mono ?_); rintro e w11 ⟨rfl, hl⟩; have HI11 := Lib.hid hl.at_; clear hl HI10 HP10))
  go_upto_region 9 with (go_at_call 20; (with_reducible refine (k_ch5 HI11.out).mono ?_); rintro e w12 ⟨ve, vf, rfl, ha, hb, hl⟩; have HE12 := Lib.hid ha; have HF12 := Lib.hid hb; have HI12 := Lib.hid hl.at_; clear hl ha hb HI11)
  go_upto_region 10 with (first
    | (go_at_call 26; (with_reducible refine (ge_any _ 1).mono ?_); rintro e w13 ⟨g13, rfl, hp, hx⟩; have HE13 := Lib.hid (HE12.out.later hx); have HF13 := Lib.hid (HF12.out.later hx); have HI13 := Lib.hid (HI12.out.later hx); have HP13 := Lib.hid hp; clear hp hx HI12 HE12 HF12)
    | (go_at_call 17; (with_reducible refine (k_forget HI13.out _ HP13.out).mono ?_); rintro e w14 ⟨rfl, hl⟩; have HE14 := Lib.hid (HE13.out.turn hl); have HF14 := Lib.hid (HF13.out.turn hl); have HI14 := Lib.hid hl.at_; clear hl HI13 HP13 HE13 HF13))
  go_upto_region 11 with (go_at_call 20; (with_reducible refine (k_ch7 HI14.out).mono ?_); rintro e w15 ⟨vg, vh, rfl, ha, hb, hl⟩; have HE15 := Lib.hid (HE14.out.turn hl); have HF15 := Lib.hid (HF14.out.turn hl); have HG15 := Lib.hid ha; have HH15 := Lib.hid hb; have HX15 := Lib.hid hl.at_.ext; clear hl ha hb HI14 HE14 HF14)
  go_wp2_with (first
    | (go_at_call 26; (with_reducible refine (ge_any _ 1).mono ?_); rintro e w16 ⟨g16, rfl, hp, hx⟩; have hy := hx.trans ((Ext.refl _).alloc (.cells #[.slice (some ⟨g16, 0, none⟩) 1 1] 25)); have HE16 := Lib.hid (HE15.out.later hx); have HF16 := Lib.hid (HF15.out.later hy); have HG16 := Lib.hid (HG15.out.later hy); have HH16 := Lib.hid (HH15.out.later hy); have HX16 := Lib.hid (HX15.out.trans hy); have HP16 := Lib.hid hp; clear hp hx hy HX15 HE15 HF15 HG15 HH15)
    | (go_at_call 12; (with_reducible refine (k_same HE16.out _ HP16.out).mono ?_); rintro e w17 ⟨rfl, hx⟩; have HF17 := Lib.hid (HF16.out.later hx); have HG17 := Lib.hid (HG16.out.later hx); have HH17 := Lib.hid (HH16.out.later hx); have HX17 := Lib.hid (HX16.out.trans hx); clear hx HX16 HE16 HF16 HG16 HH16 HP16)
    | (go_at_call 26; (with_reducible refine (ge_any _ 5).mono ?_); rintro e w18 ⟨g18, rfl, hp, hx⟩; have hy := hx.trans ((Ext.refl _).alloc (.cells #[.slice (some ⟨g18, 0, none⟩) 1 1] 25)); have HF18 := Lib.hid (HF17.out.later hx); have HG18 := Lib.hid (HG17.out.later hy); have HH18 := Lib.hid (HH17.out.later hy); have HX18 := Lib.hid (HX17.out.trans hy); have HP18 := Lib.hid hp; clear hp hx hy HX17 HF17 HG17 HH17)
    | (go_at_call 12; (with_reducible refine (k_same HF18.out _ HP18.out).mono ?_); rintro e w19 ⟨rfl, hx⟩; have HG19 := Lib.hid (HG18.out.later hx); have HH19 := Lib.hid (HH18.out.later hx); have HX19 := Lib.hid (HX18.out.trans hx); clear hx HX18 HF18 HG18 HH18 HP18)
    | (go_at_call 26; (with_reducible refine (ge_any _ 5).mono ?_); rintro e w20 ⟨g20, rfl, hp, hx⟩; have hy := hx.trans ((Ext.refl _).alloc (.cells #[.slice (some ⟨g20, 0, none⟩) 1 1] 25)); have HG20 := Lib.hid (HG19.out.later hx); have HH20 := Lib.hid (HH19.out.later hy); have HX20 := Lib.hid (HX19.out.trans hy); have HP20 := Lib.hid hp; clear hp hx hy HX19 HG19 HH19)
    | (go_at_call 12; (with_reducible refine (k_same HG20.out _ HP20.out).mono ?_); rintro e w21 ⟨rfl, hx⟩; have HH21 := Lib.hid (HH20.out.later hx); have HX21 := Lib.hid (HX20.out.trans hx); clear hx HX20 HG20 HH20 HP20)
    | (go_at_call 26; (with_reducible refine (ge_any _ 1).mono ?_); rintro e w22 ⟨g22, rfl, hp, hx⟩; have hy := hx.trans ((Ext.refl _).alloc (.cells #[.slice (some ⟨g22, 0, none⟩) 1 1] 25)); have HH22 := Lib.hid (HH21.out.later hx); have HX22 := Lib.hid (HX21.out.trans hy); have HP22 := Lib.hid hp; clear hp hx hy HX21 HH21)
    | (go_at_call 12; (with_reducible refine (k_same HH22.out _ HP22.out).mono ?_); rintro e w23 ⟨rfl, hx⟩; have HX23 := Lib.hid (HX22.out.trans hx); clear hx HX22 HH22 HP22))
  go_ret
  exact ⟨rfl, HX23.out⟩
end Go.Proofs.YtlhbpflcffjhmaaGreat

namespace Go.Proofs.YtlhbpflcffjhmaaGreat

theorem max_base {l : List (List C)} {z : List C} (h : z ∈ onceF ((l.filter mayP).map normP)) : ∃ p ∈ l, mayP p = true ∧ z = normP p := by
  obtain ⟨p, hp, e⟩ := List.mem_map.1 (sortP_mem.1 h)
  rw [List.mem_filter] at hp
  exact ⟨p, hp.1, hp.2, e.symm⟩
theorem max_may {l : List (List C)} : ∀ z ∈ onceF ((l.filter mayP).map normP), mayP z = true := fun z hz => by
  obtain ⟨p, _, hm, rfl⟩ := max_base hz
  exact normP_may hm
theorem max_up (l : List (List C)) : Up cmpP (maxF l) := List.Pairwise.sublist (topsF_sub _) (sortP_up _)
theorem max_len (l : List (List C)) : (maxF l).length ≤ l.length := by
  refine Nat.le_trans (topsF_sub _).length_le (Nat.le_trans (sortU_len _) ?_)
  rw [List.length_map]
  exact List.length_filter_le ..
theorem max_free {l : List (List C)} {p q : List C} (hp : p ∈ maxF l) (hq : q ∈ maxF l) (hne : q ≠ p) : coversF q p = false := tops_free max_may hp hq hne
theorem max_cov {l : List (List C)} {p : List C} (hp : p ∈ l) (hm : mayP p = true) : ∃ q ∈ maxF l, coversF q p = true := by
  have hz : normP p ∈ onceF ((l.filter mayP).map normP) := sortP_mem.2 (List.mem_map.2 ⟨p, List.mem_filter.2 ⟨hp, hm⟩, rfl⟩)
  obtain ⟨q, hq, h⟩ := (tops_law max_may).cov _ hz
  exact ⟨q, hq, covers_trans h (covers_norm hm).1⟩
theorem max_turn (l : List (List C)) : maxF l.reverse = maxF l := by
  unfold maxF
  congr 1
  refine up_unique wo_P _ _ (sortP_up _) (sortP_up _) fun z => ?_
  unfold onceF
  rw [sortP_mem, sortP_mem]
  simp [List.mem_map, List.mem_filter]
theorem max_rise {l : List (List C)} {i : Nat} (hi : i + 1 < (maxF l).length) : cmpP (maxF l)[i] (maxF l)[i + 1] < 0 := List.pairwise_iff_getElem.1 (max_up l) i (i + 1) (by omega) hi (by omega)
theorem max_apart {l : List (List C)} {i k : Nat} (hi : i < (maxF l).length) (hk : k < (maxF l).length) (h : i ≠ k) : coversF (maxF l)[i] (maxF l)[k] = false := by
  refine max_free (List.getElem_mem hk) (List.getElem_mem hi) fun e => ?_
  rcases Nat.lt_or_gt_of_ne h with h | h
  · have q := List.pairwise_iff_getElem.1 (max_up l) i k hi hk h
    rw [e, wo_P.refl] at q; exact absurd q (by decide)
  · have q := List.pairwise_iff_getElem.1 (max_up l) k i hk hi h
    rw [e, wo_P.refl] at q; exact absurd q (by decide)
end Go.Proofs.YtlhbpflcffjhmaaGreat
