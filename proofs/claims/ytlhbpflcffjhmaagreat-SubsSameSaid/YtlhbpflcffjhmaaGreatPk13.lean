/- Subs (24): Learn, Forget.
Subs (24): Came, Sent; Forget. (Printed by tools/mke18.py.)
Subs (24): Ads, Reset, Wants.
What both ask of a name: the closure of asked; may. (Printed by a program.)
As K7; and the boxes that a region makes lie apart. -/
import Derived.Test.YtlhbpflcffjhmaaGreatPk12
import Derived.Test.YtlhbpflcffjhmaaGreatPk6
import Derived.Test.YtlhbpflcffjhmaaGreatPk3
import Derived.Test.YtlhbpflcffjhmaaGreatPk10
namespace Go.Proofs.YtlhbpflcffjhmaaGreat
open Go.RowKit Go.Sort Go.MapKept

theorem setL_none {S : TbS} {n : Int} (h : lkF S n = none) (f : LkS → LkS) : setL S n f = S := by
  unfold setL
  have : S.ls.map (fun x => if x.n = n then f x else x) = S.ls := by
    conv => rhs; rw [← List.map_id S.ls]
    refine List.map_congr_left fun x hx => ?_
    rw [if_neg (lkF_none h x hx)]; rfl
  rw [this]
theorem set_ls {b bt bm : Nat} {w : World} {gs : List LkG} {vo : Value} {o : List PP} (h : SubR b w bt bm gs vo o) {g g' : LkG} (hg : g ∈ gs) (f : LkS → LkS) (hf : g'.ls = f g.ls) :
    (gs.map fun x => if x.n = g.n then g' else x).map LkG.ls = (gs.map LkG.ls).map fun x => if x.n = g.n then f x else x := by
  rw [List.map_map, List.map_map]
  refine List.map_congr_left fun x hx => ?_
  simp only [Function.comp]
  by_cases e : x.n = g.n
  · have : x = g := nodup_inj h.names hx hg e
    rw [if_pos e, if_pos (show (LkG.ls x).n = g.n from e), hf, this]
  · rw [if_neg e, if_neg (show ¬ (LkG.ls x).n = g.n from e)]
theorem set_foot {b bt bm : Nat} {w : World} {gs : List LkG} {vo : Value} {o : List PP} (h : SubR b w bt bm gs vo o) {g g' : LkG} (hg : g ∈ gs) (hp : g'.p = g.p) : footS bt gs = footS bt (gs.map fun x => if x.n = g.n then g' else x) := by
  unfold footS
  congr 1
  rw [List.map_map]
  refine List.map_congr_left fun x hx => ?_
  simp only [Function.comp]
  by_cases e : x.n = g.n
  · have : x = g := nodup_inj h.names hx hg e
    rw [if_pos e, hp, this]
  · rw [if_neg e]
theorem foot_mem {bt : Nat} {gs : List LkG} {g : LkG} (hg : g ∈ gs) : ∀ k ∈ [g.p], k ∈ footS bt gs := fun k hk => by rw [List.mem_singleton.1 hk]; simp only [footS, List.mem_cons, List.mem_map]; exact .inr ⟨g, hg, rfl⟩
/-- What a store into a link's field leaves. -/
theorem Sb.link {b bt bm : Nat} {w w3 w4 : World} {gs : List LkG} {vo : Value} {o : List PP} (h : SubR b w bt bm gs vo o) (hx : Ext w w3) {g g' : LkG} (hg : g ∈ gs) (hn : g'.n = g.n) (hp : g'.p = g.p)
    (hbox : w4.heap[g.p]? = some (.cells #[g'.vc, g'.va, g'.vs] 85 (0, 0))) (hc : RowQ b w3 g'.vc g'.c) (ha : RowQ b w3 g'.va g'.a) (hs : RowQ b w3 g'.vs g'.s) (ht : Turns [g.p] w3 w4) (f : LkS → LkS) (hf : g'.ls = f g.ls) :
    Sb b w4 bt (footS bt gs) (setL ⟨gs.map LkG.ls, psP o⟩ g.n f) ∧ Turns (footS bt gs) w w4 :=
  ⟨⟨bm, _, vo, o, (h.ext hx).set hg hn hp hbox hc ha hs ht, by unfold setL; rw [set_ls h hg f hf], set_foot h hg hp⟩, (Turns.of_ext hx).trans ht fun k hk => .inl (foot_mem hg k hk)⟩
set_option maxRecDepth 100000 in
set_option maxHeartbeats 8000000 in
theorem learnT_any (w : World) (b bt : Nat) (F : List Nat) (S : TbS) (h : Sb b w bt F S) (ok : OkT S) (hl : ∀ x ∈ S.ls, x.came.length ≤ 50000) (hb : b ≤ w.heap.size) (n : Int) (v : Value) (p : List C) (hp : PredR w v p) (kp : ∀ c ∈ p, okC c) :
    Calls Tryz.prog 16 #[.pointer (some ⟨bt, 0, none⟩), .int .i64 n, v] w fun e w' => e = .returned (.int .i64 (atTE S n p)) ∧ Sb b w' bt F (learnTS S n p) ∧ Turns F w w' := by
  obtain ⟨bm, gs, vo, o, hS, rfl, rfl⟩ := h
  have HS := Lib.hid hS
  have hlk := lkF_G gs (psP o) n
  cases hg : lkG gs n with
  | none =>
    rw [hg] at hlk
    have hat := fun a k c => atT_none w b bt bm gs vo o hS n hg a k c
    have he : atTE ⟨gs.map LkG.ls, psP o⟩ n p = 6 := by unfold atTE; rw [hlk]; rfl
    have hs : learnTS ⟨gs.map LkG.ls, psP o⟩ n p = ⟨gs.map LkG.ls, psP o⟩ := by
      unfold learnTS
      split
      · exact setL_none hlk _
      · rfl
    obtain ⟨a, c, rfl, _, _⟩ := hp.shape
    rw [he, hs]
    have HAT := Lib.hid hat
    clear hat he hs hlk hg hS hp kp ok hl
    go_enter Tryz.func16, Tryz.ntmps16
    go_wp2_with (go_at_call 48; (with_reducible refine (HAT.out _ _ _).mono ?_); rintro e w1 ⟨rfl, hx⟩; have HX := Lib.hid hx; clear hx)
    exact bodyPost_ret (v := .int .i64 6) (by simp [results, Tryz.results16, go_sem]) rfl ⟨rfl, ⟨bm, gs, vo, o, HS.out.ext HX.out, rfl, rfl⟩, Turns.of_ext HX.out⟩
  | some g =>
    rw [hg] at hlk
    obtain ⟨hgm, rfl⟩ := lkG_some hg
    have hlr := hS.links g hgm
    obtain ⟨m, hm⟩ : ∃ m, m = mayP p := ⟨_, rfl⟩
    cases m
    · have hat := atT_bad w b bt bm gs vo o hS g.n g hg v p hp hm.symm
      have he : atTE ⟨gs.map LkG.ls, psP o⟩ g.n p = 30 := by unfold atTE; rw [hlk, ← hm]; rfl
      have hs : learnTS ⟨gs.map LkG.ls, psP o⟩ g.n p = ⟨gs.map LkG.ls, psP o⟩ := by unfold learnTS; rw [← hm]; rfl
      obtain ⟨a, c, rfl, _, _⟩ := hp.shape
      rw [he, hs]
      obtain ⟨gp, hgp⟩ : ∃ gp, gp = g.p := ⟨_, rfl⟩
      rw [← hgp] at hat
      have HAT := Lib.hid hat
      generalize g.n = gn at *
      clear hat he hs hlk hg hS hp kp ok hl hm hlr hgp hgm
      go_enter Tryz.func16, Tryz.ntmps16
      go_wp2_with (go_at_call 48; (with_reducible refine HAT.out.mono ?_); rintro e w1 ⟨rfl, hx⟩; have HX := Lib.hid hx; clear hx)
      exact bodyPost_ret (v := .int .i64 30) (by simp [results, Tryz.results16, go_sem]) rfl ⟨rfl, ⟨bm, gs, vo, o, HS.out.ext HX.out, rfl, rfl⟩, Turns.of_ext HX.out⟩
    · have hat := atT_ok w b bt bm gs vo o hS g.n g hg v p hp hm.symm
      have he : atTE ⟨gs.map LkG.ls, psP o⟩ g.n p = 0 := by unfold atTE; rw [hlk, ← hm]; rfl
      have hs : learnTS ⟨gs.map LkG.ls, psP o⟩ g.n p = setL ⟨gs.map LkG.ls, psP o⟩ g.n (learnG (normP p)) := by unfold learnTS; rw [← hm]; rfl
      have hcl : g.c.length ≤ 50000 := by have := hl g.ls (List.mem_map.2 ⟨g, hgm, rfl⟩); rwa [show g.ls.came.length = g.c.length from psP_len _] at this
      have hasc : Asc (psP g.c) := (ok.ls g.ls (List.mem_map.2 ⟨g, hgm, rfl⟩)).came.2.asc
      have hhas : ∀ W a k c, Ext w W → PredT b W (.slice a k c) (normP p) → Calls Tryz.prog 45 #[g.vc, .slice a k c] W fun e w' => e = .returned (.tuple #[.int .i64 (kF (psP g.c) (normP p) : Nat), .bool (hasF (psP g.c) (normP p))]) ∧ Ext W w' := fun W a k c hW hT =>
        hasT_any W b g.vc _ g.c (normP p) (hlr.c.ext hW) hT (by omega) hasc
      have hlaid : ∀ W a k c, Ext w W → PredT b W (.slice a k c) (normP p) → Calls Tryz.prog 44 #[g.vc, .slice a k c] W fun e w' => ∃ ra rn rc us', e = .returned (.slice ra rn rc) ∧ psP us' = laidF (psP g.c) (normP p) ∧ RowQ b w' (.slice ra rn rc) us' ∧ Ext w w' := fun W a k c hW hT => by
        refine (laidT_any W b g.vc _ g.c (normP p) (hlr.c.ext hW) hT (okC_norm kp) (by omega) hasc (Nat.le_trans hb hW.size)).mono ?_
        rintro e w' ⟨v', us', rfl, h1, h2, h3⟩
        obtain ⟨ra, rc, rfl, _, _⟩ := own_shape h2.own
        exact ⟨_, _, _, us', rfl, h1, h2, hW.trans h3⟩
      have hbox := fun W (hW : Ext w W) => block_later hlr.box hW
      obtain ⟨ca, cc, hcv, _, _⟩ := own_shape hlr.c.own
      obtain ⟨a, c, rfl, _, _⟩ := hp.shape
      rw [he, hs]
      rw [hcv] at hhas hlaid hbox
      have HR := Lib.hid hlr
      have HGM := Lib.hid hgm
      have HHS := Lib.hid (show (learnG (normP p) g.ls) = if hasF (psP g.c) (normP p) then g.ls else { g.ls with came := laidF (psP g.c) (normP p) } from rfl)
      obtain ⟨is, his⟩ : ∃ is, is = hasF (psP g.c) (normP p) := ⟨_, rfl⟩
      rw [← his] at hhas HHS
      have HCV := Lib.hid hcv
      obtain ⟨gp, hgp⟩ : ∃ gp, gp = g.p := ⟨_, rfl⟩
      obtain ⟨gn, hgn⟩ : ∃ gn, gn = g.n := ⟨_, rfl⟩
      rw [← hgp] at hat hbox
      rw [← hgn] at hat ⊢
      generalize kF (psP g.c) (normP p) = kk at *
      have HAT := Lib.hid hat
      have HH := Lib.hid hhas
      have HL := Lib.hid hlaid
      have HB := Lib.hid hbox
      have HGP := Lib.hid hgp
      have HGN := Lib.hid hgn
      have HBB := Lib.hid hb
      clear hat he hs hlk hg hS hp kp ok hl hm hlr hgp hgm hcv hhas hlaid hbox hasc hcl his hb hgn
      cases is
      · go_enter Tryz.func16, Tryz.ntmps16
        go_upto_region 4 with (go_at_call 48; (with_reducible refine HAT.out.mono ?_); rintro e w1 ⟨na, nn, nc, rfl, hT, hx⟩; have HX1 := Lib.hid hx; have HT := Lib.hid (hT.low HBB.out); have hb1 := HB.out _ hx; clear hx hT)
        have c1 := cell_of_row _ _ 0 _ _ _ hb1
        go_upto_region 6 with (go_at_call 45; (with_reducible refine (HH.out _ _ _ _ HX1.out HT.out).mono ?_); rintro e w2 ⟨rfl, hx⟩; have HX2 := Lib.hid (HX1.out.trans hx); have HT2 := Lib.hid (HT.out.ext hx); have hb2 := HB.out _ HX2.out; clear hx)
        clear c1 hb1
        have c2 := cell_of_row _ _ 0 _ _ _ hb2
        go_wp2_with (go_at_call 44; (with_reducible refine (HL.out _ _ _ _ HX2.out HT2.out).mono ?_); rintro e w3 ⟨ra, rn, rc, us3, rfl, h1, h2, hx⟩; have HM3 := Lib.hid h1; have HR3 := Lib.hid h2; have HX3 := Lib.hid hx; have hb3 := HB.out _ hx; have f3 := frozen_of_row _ _ 0 _ _ hb3; have d3 := cell_of_row _ _ 0 _ _ _ hb3; clear h1 h2 hx c2 hb2)
        have ht := turns_set w3 gp 0 (.slice ra rn rc)
        have hfin := Sb.link HS.out HX3.out HGM.out (g' := { g with vc := .slice ra rn rc, c := us3 }) rfl rfl (w4 := w3.setCell ⟨gp, 0, none⟩ (.slice ra rn rc)) (by
          rw [← HGP.out]
          exact setCell_rowS hb3 _) HR3.out (HR.out.a.ext HX3.out) (HR.out.s.ext HX3.out) (by rw [← HGP.out]; exact ht) (learnG (normP p)) (by
            rw [HHS.out]
            show LkS.mk _ _ _ _ = LkS.mk _ _ _ _
            rw [HM3.out]
            rfl)
        rw [← HGN.out] at hfin
        exact bodyPost_ret (v := .int .i64 0) (by simp [results, Tryz.results16, go_sem]) rfl ⟨rfl, hfin⟩
      · go_enter Tryz.func16, Tryz.ntmps16
        go_upto_region 4 with (go_at_call 48; (with_reducible refine HAT.out.mono ?_); rintro e w1 ⟨na, nn, nc, rfl, hT, hx⟩; have HX1 := Lib.hid hx; have HT := Lib.hid (hT.low HBB.out); have hb1 := HB.out _ hx; clear hx hT)
        have c1 := cell_of_row _ _ 0 _ _ _ hb1
        go_wp2_with (go_at_call 45; (with_reducible refine (HH.out _ _ _ _ HX1.out HT.out).mono ?_); rintro e w2 ⟨rfl, hx⟩; have HX2 := Lib.hid (HX1.out.trans hx); clear hx)
        have hst : setL ⟨gs.map LkG.ls, psP o⟩ gn (learnG (normP p)) = ⟨gs.map LkG.ls, psP o⟩ := by
          rw [HGN.out]
          unfold setL
          have : (gs.map LkG.ls).map (fun x => if x.n = g.n then learnG (normP p) x else x) = gs.map LkG.ls := by
            rw [List.map_map]
            refine List.map_congr_left fun x hx => ?_
            simp only [Function.comp]
            split
            · rename_i e
              have : x = g := nodup_inj HS.out.names hx HGM.out e
              rw [this, HHS.out]; rfl
            · rfl
          rw [this]
        rw [hst]
        exact bodyPost_ret (v := .int .i64 0) (by simp [results, Tryz.results16, go_sem]) rfl ⟨rfl, ⟨bm, gs, vo, o, HS.out.ext HX2.out, rfl, rfl⟩, Turns.of_ext HX2.out⟩
end Go.Proofs.YtlhbpflcffjhmaaGreat

namespace Go.Proofs.YtlhbpflcffjhmaaGreat
open Go.RowKit Go.Sort Go.MapKept

theorem copied_norm (w : World) (v : Value) (us : List PP) (b : Nat) (h : RowQ b w v us) (hn : NormL (psP us)) (hl : us.length ≤ 100000) :
    Calls Tryz.prog 51 #[v] w fun e w' => ∃ ra rn rc us', e = .returned (.slice ra rn rc) ∧ psP us' = psP us ∧ RowQ w.heap.size w' (.slice ra rn rc) us' ∧ Ext w w' := by
  have hmem : ∀ x ∈ us, mayP x.p = true ∧ normP x.p = x.p := fun x hx => hn x.p (List.mem_map.2 ⟨x, hx, rfl⟩)
  refine (copiedT_any w v us h.preds (fun x hx => (hmem x hx).1) h.ok hl).mono ?_
  rintro e w' ⟨v', us', rfl, p1, p2, p3⟩
  obtain ⟨ra, rc, rfl, _, _⟩ := own_shape p2.own
  exact ⟨_, _, _, us', rfl, by unfold psP; rw [p1]; exact List.map_congr_left fun x hx => (hmem x hx).2, p2, p3⟩
set_option maxRecDepth 100000 in
set_option maxHeartbeats 8000000 in
theorem cameT_any (w : World) (b bt : Nat) (F : List Nat) (S : TbS) (h : Sb b w bt F S) (ok : OkT S) (hl : ∀ x ∈ S.ls, x.came.length ≤ 100000) (n : Int) :
    Calls Tryz.prog 21 #[.pointer (some ⟨bt, 0, none⟩), .int .i64 n] w fun e w' => ∃ ra rn rc us', e = .returned (.slice ra rn rc) ∧ psP us' = cameF S n ∧ RowQ w.heap.size w' (.slice ra rn rc) us' ∧ Ext w w' := by
  obtain ⟨bm, gs, vo, o, hS, rfl, rfl⟩ := h
  have hlk := lkF_G gs (psP o) n
  cases hg : lkG gs n with
  | none =>
    rw [hg] at hlk
    have hat := atT_none w b bt bm gs vo o hS n hg none 0 0
    have he : cameF ⟨gs.map LkG.ls, psP o⟩ n = [] := by unfold cameF; rw [hlk]; rfl
    rw [he]
    have HAT := Lib.hid hat
    clear hat he hlk hg hS ok hl
    go_enter Tryz.func21, Tryz.ntmps21
    go_wp2_with (go_at_call 48; (with_reducible refine HAT.out.mono ?_); rintro e w1 ⟨rfl, hx⟩; have HX := Lib.hid hx; clear hx)
    exact bodyPost_ret (v := .slice none 0 0) (by simp [results, Tryz.results21, go_sem]) rfl ⟨none, 0, 0, [], rfl, rfl, RowQ.nil _ _, HX.out⟩
  | some g =>
    rw [hg] at hlk
    obtain ⟨hgm, rfl⟩ := lkG_some hg
    have hlr := hS.links g hgm
    have hat := atT_ok w b bt bm gs vo o hS g.n g hg (.slice none 0 0) [] (PredR.nil w) may_nil
    have he : cameF ⟨gs.map LkG.ls, psP o⟩ g.n = psP g.c := by unfold cameF; rw [hlk]; rfl
    have hls : g.ls ∈ gs.map LkG.ls := List.mem_map.2 ⟨g, hgm, rfl⟩
    have hcl : g.c.length ≤ 100000 := by have := hl g.ls hls; rwa [show g.ls.came.length = g.c.length from psP_len _] at this
    have hcp : ∀ W, Ext w W → Calls Tryz.prog 51 #[g.vc] W fun e w' => ∃ ra rn rc us', e = .returned (.slice ra rn rc) ∧ psP us' = psP g.c ∧ RowQ w.heap.size w' (.slice ra rn rc) us' ∧ Ext w w' := fun W hW => by
      refine (copied_norm W g.vc g.c b (hlr.c.ext hW) (ok.ls g.ls hls).came.1 hcl).mono ?_
      rintro e w' ⟨ra, rn, rc, us', rfl, p1, p2, p3⟩
      exact ⟨ra, rn, rc, us', rfl, p1, p2.low hW.size, hW.trans p3⟩
    have hbox := fun W (hW : Ext w W) => block_later hlr.box hW
    obtain ⟨ca, cc, hcv, _, _⟩ := own_shape hlr.c.own
    rw [he]
    rw [hcv] at hcp hbox
    obtain ⟨gp, hgp⟩ : ∃ gp, gp = g.p := ⟨_, rfl⟩
    rw [← hgp] at hat hbox
    have HAT := Lib.hid hat
    have HB := Lib.hid hbox
    have HCP := Lib.hid hcp
    generalize g.n = gn at *
    clear hat he hlk hg hS ok hl hlr hgp hgm hcv hbox hcp hcl hls
    go_enter Tryz.func21, Tryz.ntmps21
    go_upto_region 4 with (go_at_call 48; (with_reducible refine HAT.out.mono ?_); rintro e w1 ⟨na, nn, nc, rfl, _, hx⟩; have HX1 := Lib.hid hx; have hb1 := HB.out _ hx; clear hx)
    have c1 := cell_of_row _ _ 0 _ _ _ hb1
    go_wp2_with (go_at_call 51; (with_reducible refine (HCP.out _ HX1.out).mono ?_); rintro e w2 ⟨ra, rn, rc, us2, rfl, hR⟩; have HR := Lib.hid hR; clear hR)
    exact bodyPost_ret (v := .slice ra rn rc) (by simp [results, Tryz.results21, go_sem]) rfl ⟨ra, rn, rc, us2, rfl, HR.out⟩
set_option maxRecDepth 100000 in
set_option maxHeartbeats 8000000 in
theorem sentT_any (w : World) (b bt : Nat) (F : List Nat) (S : TbS) (h : Sb b w bt F S) (ok : OkT S) (hl : ∀ x ∈ S.ls, x.sent.length ≤ 100000) (n : Int) :
    Calls Tryz.prog 22 #[.pointer (some ⟨bt, 0, none⟩), .int .i64 n] w fun e w' => ∃ ra rn rc us', e = .returned (.slice ra rn rc) ∧ psP us' = sentF S n ∧ RowQ w.heap.size w' (.slice ra rn rc) us' ∧ Ext w w' := by
  obtain ⟨bm, gs, vo, o, hS, rfl, rfl⟩ := h
  have hlk := lkF_G gs (psP o) n
  cases hg : lkG gs n with
  | none =>
    rw [hg] at hlk
    have hat := atT_none w b bt bm gs vo o hS n hg none 0 0
    have he : sentF ⟨gs.map LkG.ls, psP o⟩ n = [] := by unfold sentF; rw [hlk]; rfl
    rw [he]
    have HAT := Lib.hid hat
    clear hat he hlk hg hS ok hl
    go_enter Tryz.func22, Tryz.ntmps22
    go_wp2_with (go_at_call 48; (with_reducible refine HAT.out.mono ?_); rintro e w1 ⟨rfl, hx⟩; have HX := Lib.hid hx; clear hx)
    exact bodyPost_ret (v := .slice none 0 0) (by simp [results, Tryz.results22, go_sem]) rfl ⟨none, 0, 0, [], rfl, rfl, RowQ.nil _ _, HX.out⟩
  | some g =>
    rw [hg] at hlk
    obtain ⟨hgm, rfl⟩ := lkG_some hg
    have hlr := hS.links g hgm
    have hat := atT_ok w b bt bm gs vo o hS g.n g hg (.slice none 0 0) [] (PredR.nil w) may_nil
    have he : sentF ⟨gs.map LkG.ls, psP o⟩ g.n = psP g.s := by unfold sentF; rw [hlk]; rfl
    have hls : g.ls ∈ gs.map LkG.ls := List.mem_map.2 ⟨g, hgm, rfl⟩
    have hcl : g.s.length ≤ 100000 := by have := hl g.ls hls; rwa [show g.ls.sent.length = g.s.length from psP_len _] at this
    have hcp : ∀ W, Ext w W → Calls Tryz.prog 51 #[g.vs] W fun e w' => ∃ ra rn rc us', e = .returned (.slice ra rn rc) ∧ psP us' = psP g.s ∧ RowQ w.heap.size w' (.slice ra rn rc) us' ∧ Ext w w' := fun W hW => by
      refine (copied_norm W g.vs g.s b (hlr.s.ext hW) (ok.ls g.ls hls).sent.1 hcl).mono ?_
      rintro e w' ⟨ra, rn, rc, us', rfl, p1, p2, p3⟩
      exact ⟨ra, rn, rc, us', rfl, p1, p2.low hW.size, hW.trans p3⟩
    have hbox := fun W (hW : Ext w W) => block_later hlr.box hW
    obtain ⟨ca, cc, hcv, _, _⟩ := own_shape hlr.s.own
    rw [he]
    rw [hcv] at hcp hbox
    obtain ⟨gp, hgp⟩ : ∃ gp, gp = g.p := ⟨_, rfl⟩
    rw [← hgp] at hat hbox
    have HAT := Lib.hid hat
    have HB := Lib.hid hbox
    have HCP := Lib.hid hcp
    generalize g.n = gn at *
    clear hat he hlk hg hS ok hl hlr hgp hgm hcv hbox hcp hcl hls
    go_enter Tryz.func22, Tryz.ntmps22
    go_upto_region 4 with (go_at_call 48; (with_reducible refine HAT.out.mono ?_); rintro e w1 ⟨na, nn, nc, rfl, _, hx⟩; have HX1 := Lib.hid hx; have hb1 := HB.out _ hx; clear hx)
    have c1 := cell_of_row _ _ 2 _ _ _ hb1
    go_wp2_with (go_at_call 51; (with_reducible refine (HCP.out _ HX1.out).mono ?_); rintro e w2 ⟨ra, rn, rc, us2, rfl, hR⟩; have HR := Lib.hid hR; clear hR)
    exact bodyPost_ret (v := .slice ra rn rc) (by simp [results, Tryz.results22, go_sem]) rfl ⟨ra, rn, rc, us2, rfl, HR.out⟩
set_option maxRecDepth 100000 in
set_option maxHeartbeats 8000000 in
theorem forgetT_any (w : World) (b bt : Nat) (F : List Nat) (S : TbS) (h : Sb b w bt F S) (ok : OkT S) (hl : ∀ x ∈ S.ls, x.came.length ≤ 50000) (hb : b ≤ w.heap.size) (n : Int) (v : Value) (p : List C) (hp : PredR w v p) :
    Calls Tryz.prog 17 #[.pointer (some ⟨bt, 0, none⟩), .int .i64 n, v] w fun e w' => e = .returned (.int .i64 (forgetTE S n p)) ∧ Sb b w' bt F (forgetTS S n p) ∧ Turns F w w' := by
  obtain ⟨bm, gs, vo, o, hS, rfl, rfl⟩ := h
  have HS := Lib.hid hS
  have hlk := lkF_G gs (psP o) n
  cases hg : lkG gs n with
  | none =>
    rw [hg] at hlk
    have hat := fun a k c => atT_none w b bt bm gs vo o hS n hg a k c
    have he : forgetTE ⟨gs.map LkG.ls, psP o⟩ n p = 6 := by unfold forgetTE; rw [hlk]; rfl
    have hs : forgetTS ⟨gs.map LkG.ls, psP o⟩ n p = ⟨gs.map LkG.ls, psP o⟩ := by
      unfold forgetTS
      split
      · exact setL_none hlk _
      · rfl
    obtain ⟨a, c, rfl, _, _⟩ := hp.shape
    rw [he, hs]
    have HAT := Lib.hid hat
    clear hat he hs hlk hg hS hp ok hl
    go_enter Tryz.func17, Tryz.ntmps17
    go_wp2_with (go_at_call 48; (with_reducible refine (HAT.out _ _ _).mono ?_); rintro e w1 ⟨rfl, hx⟩; have HX := Lib.hid hx; clear hx)
    exact bodyPost_ret (v := .int .i64 6) (by simp [results, Tryz.results17, go_sem]) rfl ⟨rfl, ⟨bm, gs, vo, o, HS.out.ext HX.out, rfl, rfl⟩, Turns.of_ext HX.out⟩
  | some g =>
    rw [hg] at hlk
    obtain ⟨hgm, rfl⟩ := lkG_some hg
    have hlr := hS.links g hgm
    obtain ⟨m, hm⟩ : ∃ m, m = mayP p := ⟨_, rfl⟩
    cases m
    · have hat := atT_bad w b bt bm gs vo o hS g.n g hg v p hp hm.symm
      have he : forgetTE ⟨gs.map LkG.ls, psP o⟩ g.n p = 30 := by unfold forgetTE; rw [hlk, ← hm]; rfl
      have hs : forgetTS ⟨gs.map LkG.ls, psP o⟩ g.n p = ⟨gs.map LkG.ls, psP o⟩ := by unfold forgetTS; rw [← hm]; rfl
      obtain ⟨a, c, rfl, _, _⟩ := hp.shape
      rw [he, hs]
      obtain ⟨gp, hgp⟩ : ∃ gp, gp = g.p := ⟨_, rfl⟩
      rw [← hgp] at hat
      have HAT := Lib.hid hat
      generalize g.n = gn at *
      clear hat he hs hlk hg hS hp ok hl hm hlr hgp hgm
      go_enter Tryz.func17, Tryz.ntmps17
      go_wp2_with (go_at_call 48; (with_reducible refine HAT.out.mono ?_); rintro e w1 ⟨rfl, hx⟩; have HX := Lib.hid hx; clear hx)
      exact bodyPost_ret (v := .int .i64 30) (by simp [results, Tryz.results17, go_sem]) rfl ⟨rfl, ⟨bm, gs, vo, o, HS.out.ext HX.out, rfl, rfl⟩, Turns.of_ext HX.out⟩
    · have hat := atT_ok w b bt bm gs vo o hS g.n g hg v p hp hm.symm
      have he : forgetTE ⟨gs.map LkG.ls, psP o⟩ g.n p = if hasF (psP g.c) (normP p) then 0 else 6 := by unfold forgetTE cameF; rw [hlk, ← hm]; rfl
      have hs : forgetTS ⟨gs.map LkG.ls, psP o⟩ g.n p = setL ⟨gs.map LkG.ls, psP o⟩ g.n (forgetG (normP p)) := by unfold forgetTS; rw [← hm]; rfl
      have hcl : g.c.length ≤ 50000 := by have := hl g.ls (List.mem_map.2 ⟨g, hgm, rfl⟩); rwa [show g.ls.came.length = g.c.length from psP_len _] at this
      have hasc : Asc (psP g.c) := (ok.ls g.ls (List.mem_map.2 ⟨g, hgm, rfl⟩)).came.2.asc
      have hhas : ∀ W a k c, Ext w W → PredT b W (.slice a k c) (normP p) → Calls Tryz.prog 45 #[g.vc, .slice a k c] W fun e w' => e = .returned (.tuple #[.int .i64 (kF (psP g.c) (normP p) : Nat), .bool (hasF (psP g.c) (normP p))]) ∧ Ext W w' := fun W a k c hW hT =>
        hasT_any W b g.vc _ g.c (normP p) (hlr.c.ext hW) hT (by omega) hasc
      have hcl2 := fun W (hW : Ext w W) => cloneQ_any W g.vc g.c (hlr.c.ext hW).preds (by omega)
      have hbox := fun W (hW : Ext w W) => block_later hlr.box hW
      obtain ⟨ca, cc, hcv, _, _⟩ := own_shape hlr.c.own
      obtain ⟨a, c, rfl, _, _⟩ := hp.shape
      rw [he, hs]
      rw [hcv] at hhas hcl2 hbox
      have HR := Lib.hid hlr
      have HGM := Lib.hid hgm
      have HHS := Lib.hid (show (forgetG (normP p) g.ls) = if hasF (psP g.c) (normP p) then { g.ls with came := cutF (psP g.c) (normP p) } else g.ls from rfl)
      obtain ⟨is, his⟩ : ∃ is, is = hasF (psP g.c) (normP p) := ⟨_, rfl⟩
      rw [← his] at hhas HHS ⊢
      have HIS := Lib.hid his
      have HCV := Lib.hid hcv
      obtain ⟨gp, hgp⟩ : ∃ gp, gp = g.p := ⟨_, rfl⟩
      obtain ⟨gn, hgn⟩ : ∃ gn, gn = g.n := ⟨_, rfl⟩
      rw [← hgp] at hat hbox
      rw [← hgn] at hat ⊢
      obtain ⟨kk, hkk⟩ : ∃ kk, kk = kF (psP g.c) (normP p) := ⟨_, rfl⟩
      rw [← hkk] at hhas
      have HKK := Lib.hid hkk
      have HCC := Lib.hid hcl
      have HAT := Lib.hid hat
      have HH := Lib.hid hhas
      have HCL := Lib.hid hcl2
      have HB := Lib.hid hbox
      have HGP := Lib.hid hgp
      have HGN := Lib.hid hgn
      have HBB := Lib.hid hb
      clear hkk hat he hs hlk hg hS hp ok hl hm hlr hgp hgm hcv hhas hcl2 hbox hasc hcl his hb hgn
      cases is
      · go_enter Tryz.func17, Tryz.ntmps17
        go_upto_region 4 with (go_at_call 48; (with_reducible refine HAT.out.mono ?_); rintro e w1 ⟨na, nn, nc, rfl, hT, hx⟩; have HX1 := Lib.hid hx; have HT := Lib.hid (hT.low HBB.out); have hb1 := HB.out _ hx; clear hx hT)
        have c1 := cell_of_row _ _ 0 _ _ _ hb1
        go_wp2_with (go_at_call 45; (with_reducible refine (HH.out _ _ _ _ HX1.out HT.out).mono ?_); rintro e w2 ⟨rfl, hx⟩; have HX2 := Lib.hid (HX1.out.trans hx); clear hx)
        have hst : setL ⟨gs.map LkG.ls, psP o⟩ gn (forgetG (normP p)) = ⟨gs.map LkG.ls, psP o⟩ := by
          rw [HGN.out]
          unfold setL
          have : (gs.map LkG.ls).map (fun x => if x.n = g.n then forgetG (normP p) x else x) = gs.map LkG.ls := by
            rw [List.map_map]
            refine List.map_congr_left fun x hx => ?_
            simp only [Function.comp]
            split
            · rename_i e
              have : x = g := nodup_inj HS.out.names hx HGM.out e
              rw [this, HHS.out]; rfl
            · rfl
          rw [this]
        rw [hst]
        exact bodyPost_ret (v := .int .i64 6) (by simp [results, Tryz.results17, go_sem]) rfl ⟨rfl, ⟨bm, gs, vo, o, HS.out.ext HX2.out, rfl, rfl⟩, Turns.of_ext HX2.out⟩
      · obtain ⟨hkl, _⟩ := has_at HIS.out.symm
        rw [← HKK.out, psP_len] at hkl
        have hkn : kk ≤ 50000 := by have := HCC.out; omega
        have hdl : ∀ W vc, OwnQ W w.heap.size vc g.c → Ext w W → Calls Tryz.prog 46 #[vc, .int .i64 kk, .int .i64 ((kk : Int) + 1)] W fun e w' => ∃ ra rn rc, e = .returned (.slice ra rn rc) ∧ OwnQ w' b (.slice ra rn rc) (g.c.take kk ++ g.c.drop (kk + 1)) ∧ Ext w w' := fun W vc ho hW => by
          refine (cutQ_any W b vc g.c (ho.low HBB.out) (fun x hx => pred_one ((HR.out.c.ps x hx).ext hW).pred) kk hkl).mono ?_
          rintro e w' ⟨v', rfl, p1, p2⟩
          obtain ⟨ra, rc, rfl, _, _⟩ := own_shape p1
          exact ⟨_, _, _, rfl, p1, hW.grown_none p2 (own_base ho)⟩
        have HDL := Lib.hid hdl
        clear hdl hkl
        go_enter Tryz.func17, Tryz.ntmps17
        go_upto_region 4 with (go_at_call 48; (with_reducible refine HAT.out.mono ?_); rintro e w1 ⟨na, nn, nc, rfl, hT, hx⟩; have HX1 := Lib.hid hx; have HT := Lib.hid (hT.low HBB.out); have hb1 := HB.out _ hx; clear hx hT)
        have c1 := cell_of_row _ _ 0 _ _ _ hb1
        go_upto_region 7 with (go_at_call 45; (with_reducible refine (HH.out _ _ _ _ HX1.out HT.out).mono ?_); rintro e w2 ⟨rfl, hx⟩; have HX2 := Lib.hid (HX1.out.trans hx); have hb2 := HB.out _ HX2.out; clear hx)
        clear c1 hb1
        have c2 := cell_of_row _ _ 0 _ _ _ hb2
        go_wp2_with (first
          | (go_at_call 47; (with_reducible refine (HCL.out _ HX2.out).mono ?_); rintro e w4 ⟨v4, rfl, ho, hx, _⟩; have HO4 := Lib.hid (ho.low HX2.out.size); have HX4 := Lib.hid (HX2.out.trans hx); clear ho hx)
          | (go_at_call 46; (with_reducible refine (HDL.out _ _ HO4.out HX4.out).mono ?_); rintro e w5 ⟨ra, rn, rc, rfl, ho, hx⟩; have HO5 := Lib.hid ho; have HX5 := Lib.hid hx; have hb5 := HB.out _ hx; have f5 := frozen_of_row _ _ 0 _ _ hb5; have d5 := cell_of_row _ _ 0 _ _ _ hb5; clear ho hx))
        have ht := turns_set w5 gp 0 (.slice ra rn rc)
        have hsub : ∀ x ∈ g.c.take kk ++ g.c.drop (kk + 1), x ∈ g.c := fun x hx => (List.mem_append.1 hx).elim List.mem_of_mem_take List.mem_of_mem_drop
        have hc5 := HR.out.c.ext HX5.out
        have hfin := Sb.link HS.out HX5.out HGM.out (g' := { g with vc := .slice ra rn rc, c := g.c.take kk ++ g.c.drop (kk + 1) }) rfl rfl (w4 := w5.setCell ⟨gp, 0, none⟩ (.slice ra rn rc)) (by
          rw [← HGP.out]
          exact setCell_rowS hb5 _) ⟨HO5.out, fun x hx => hc5.ps x (hsub x hx), fun x hx => hc5.ok x (hsub x hx)⟩ (HR.out.a.ext HX5.out) (HR.out.s.ext HX5.out) (by rw [← HGP.out]; exact ht) (forgetG (normP p)) (by
            rw [HHS.out]
            show LkS.mk _ _ _ _ = LkS.mk _ _ _ _
            congr 1
            show psP (g.c.take kk ++ g.c.drop (kk + 1)) = cutF (psP g.c) (normP p)
            unfold cutF psP
            have hk' : kF (g.c.map PP.p) (normP p) = kk := HKK.out.symm
            rw [hk', List.map_append, List.map_take, List.map_drop])
        rw [← HGN.out] at hfin
        exact bodyPost_ret (v := .int .i64 0) (by simp [results, Tryz.results17, go_sem]) rfl ⟨rfl, hfin⟩
end Go.Proofs.YtlhbpflcffjhmaaGreat

namespace Go.Proofs.YtlhbpflcffjhmaaGreat
open Go.RowKit Go.Sort Go.MapKept

theorem ent_ads1 : ∀ args w, (callFunc 50 args).run Tryz.prog w = .ok (.enter 50 args) w := enters_of Tryz.func50 (by kernel_rfl) rfl
theorem ent_wants1 : ∀ args w, (callFunc 57 args).run Tryz.prog w = .ok (.enter 57 args) w := enters_of Tryz.func57 (by kernel_rfl) rfl
set_option maxRecDepth 100000 in
theorem ads1_any (W : World) (v : Value) (p : List C) (hp : PredR W v p) : Calls Tryz.prog 50 #[v] W fun e w' => e = .returned (.bool (!mayP p)) ∧ Ext W w' := by
  have hc := pmay_any W v p hp
  obtain ⟨a, c, rfl, _, _⟩ := hp.shape
  have HC := Lib.hid hc
  clear hc hp
  generalize mayP p = m at *
  go_enter Tryz.func50, Tryz.ntmps50
  go_wp2_with (go_at_call 10; (with_reducible refine HC.out.mono ?_); rintro e w1 ⟨rfl, hx⟩; have HX := Lib.hid hx; clear hx)
  exact bodyPost_ret (v := .bool (!m)) (by simp [results, Tryz.results50, go_sem]) rfl ⟨rfl, HX.out⟩
theorem any_notMay (us : List PP) : (us.any fun x => !mayP x.p) = !((us.map PP.p).all mayP) := by
  rw [List.all_map]
  induction us with
  | nil => rfl
  | cons x l ih => simp only [List.any_cons, List.all_cons, ih, Function.comp, Bool.not_and]
set_option maxRecDepth 100000 in
set_option maxHeartbeats 8000000 in
theorem adsT_any (w : World) (b bt : Nat) (F : List Nat) (S : TbS) (h : Sb b w bt F S) (hb : b ≤ w.heap.size) (n : Int) (v : Value) (us : List PP) (hv : PredsR w v us) (hk : ∀ x ∈ us, ∀ c ∈ x.p, okC c) (hul : us.length ≤ 100000) :
    Calls Tryz.prog 18 #[.pointer (some ⟨bt, 0, none⟩), .int .i64 n, v] w fun e w' => e = .returned (.int .i64 (adsTE S n (us.map PP.p))) ∧ Sb b w' bt F (adsTS S n (us.map PP.p)) ∧ Turns F w w' := by
  obtain ⟨bm, gs, vo, o, hS, rfl, rfl⟩ := h
  have HS := Lib.hid hS
  have hlk := lkF_G gs (psP o) n
  cases hg : lkG gs n with
  | none =>
    rw [hg] at hlk
    have hat := atT_none w b bt bm gs vo o hS n hg none 0 0
    have he : adsTE ⟨gs.map LkG.ls, psP o⟩ n (us.map PP.p) = 6 := by unfold adsTE; rw [hlk]; rfl
    have hs : adsTS ⟨gs.map LkG.ls, psP o⟩ n (us.map PP.p) = ⟨gs.map LkG.ls, psP o⟩ := by
      unfold adsTS
      split
      · exact setL_none hlk _
      · rfl
    obtain ⟨a, c, rfl, _, _⟩ := Row.shape hv.row
    rw [he, hs]
    have HAT := Lib.hid hat
    clear hat he hs hlk hg hS hv hk
    go_enter Tryz.func18, Tryz.ntmps18
    go_wp2_with (go_at_call 48; (with_reducible refine HAT.out.mono ?_); rintro e w1 ⟨rfl, hx⟩; have HX := Lib.hid hx; clear hx)
    exact bodyPost_ret (v := .int .i64 6) (by simp [results, Tryz.results18, go_sem]) rfl ⟨rfl, ⟨bm, gs, vo, o, HS.out.ext HX.out, rfl, rfl⟩, Turns.of_ext HX.out⟩
  | some g =>
    rw [hg] at hlk
    obtain ⟨hgm, rfl⟩ := lkG_some hg
    have hlr := hS.links g hgm
    have hat := atT_ok w b bt bm gs vo o hS g.n g hg (.slice none 0 0) [] (PredR.nil w) may_nil
    have hco : ∀ W, Ext w W → Calls Tryz.prog 49 #[v, .func (.func 50) #[] #[]] W fun e w' => e = .returned (.bool (!((us.map PP.p).all mayP))) ∧ Ext W w' := fun W hW => by
      rw [← any_notMay]
      exact hasQ_any W v us (hv.ext hW) 50 #[] (fun x => !mayP x.p) ent_ads1 fun W' x hW' hx => ads1_any W' x.h x.p ((hv.hs x hx).ext (hW.trans hW'))
    obtain ⟨m, hm⟩ : ∃ m, m = (us.map PP.p).all mayP := ⟨_, rfl⟩
    rw [← hm] at hco
    have hbox := fun W (hW : Ext w W) => block_later hlr.box hW
    cases m
    · have he : adsTE ⟨gs.map LkG.ls, psP o⟩ g.n (us.map PP.p) = 30 := by unfold adsTE; rw [hlk, ← hm]; rfl
      have hs : adsTS ⟨gs.map LkG.ls, psP o⟩ g.n (us.map PP.p) = ⟨gs.map LkG.ls, psP o⟩ := by unfold adsTS; rw [← hm]; rfl
      obtain ⟨a, c, rfl, _, _⟩ := Row.shape hv.row
      rw [he, hs]
      obtain ⟨gp, hgp⟩ : ∃ gp, gp = g.p := ⟨_, rfl⟩
      rw [← hgp] at hat
      have HAT := Lib.hid hat
      have HCO := Lib.hid hco
      generalize g.n = gn at *
      clear hat he hs hlk hg hS hv hk hm hlr hgp hgm hco hbox
      go_enter Tryz.func18, Tryz.ntmps18
      go_wp2_with (first
        | (go_at_call 48; (with_reducible refine HAT.out.mono ?_); rintro e w1 ⟨na, nn, nc, rfl, _, hx⟩; have HX := Lib.hid hx; clear hx)
        | (go_at_call 49; (with_reducible refine (HCO.out _ HX.out).mono ?_); rintro e w2 ⟨rfl, hx⟩; have HX2 := Lib.hid (HX.out.trans hx); clear hx))
      exact bodyPost_ret (v := .int .i64 30) (by simp [results, Tryz.results18, go_sem]) rfl ⟨rfl, ⟨bm, gs, vo, o, HS.out.ext HX2.out, rfl, rfl⟩, Turns.of_ext HX2.out⟩
    · have hall : ∀ x ∈ us, mayP x.p = true := fun x hx => List.all_eq_true.1 hm.symm x.p (List.mem_map.2 ⟨x, hx, rfl⟩)
      have he : adsTE ⟨gs.map LkG.ls, psP o⟩ g.n (us.map PP.p) = 0 := by unfold adsTE; rw [hlk, ← hm]; rfl
      have hs : adsTS ⟨gs.map LkG.ls, psP o⟩ g.n (us.map PP.p) = setL ⟨gs.map LkG.ls, psP o⟩ g.n (fun x => { x with ads := onceF ((us.map PP.p).map normP) }) := by unfold adsTS; rw [← hm]; rfl
      have hcp : ∀ W, Ext w W → Calls Tryz.prog 51 #[v] W fun e w' => ∃ v1 us1, e = .returned v1 ∧ us1.map PP.p = (us.map PP.p).map normP ∧ RowQ b w' v1 us1 ∧ Ext w w' := fun W hW => by
        refine (copiedT_any W v us (hv.ext hW) hall hk hul).mono ?_
        rintro e w' ⟨v1, us1, rfl, p1, p2, p3⟩
        exact ⟨v1, us1, rfl, by rw [p1, List.map_map]; rfl, p2.low (Nat.le_trans hb hW.size), hW.trans p3⟩
      have hon : ∀ W v1 us1, us1.map PP.p = (us.map PP.p).map normP → RowQ b W v1 us1 → Ext w W → Calls Tryz.prog 29 #[v1] W fun e w' => ∃ ra rn rc us2, e = .returned (.slice ra rn rc) ∧ psP us2 = onceF ((us.map PP.p).map normP) ∧ RowQ b w' (.slice ra rn rc) us2 ∧ Ext w w' := fun W v1 us1 h1 h2 hW => by
        have hlen : us1.length = us.length := by have := congrArg List.length h1; simpa using this
        refine (onceQ_any W b v1 us1 h2 (Nat.le_trans hb hW.size) (by omega)).mono ?_
        rintro e w' ⟨v2, us2, rfl, p1, _, _, p4, p5⟩
        obtain ⟨ra, rc, rfl, _, _⟩ := own_shape p4.own
        exact ⟨_, _, _, us2, rfl, by unfold psP; rw [p1, h1], p4, hW.trans p5⟩
      obtain ⟨a, c, rfl, _, _⟩ := Row.shape hv.row
      obtain ⟨aa, ac, hav, _, _⟩ := own_shape hlr.a.own
      rw [he, hs]
      have HR := Lib.hid hlr
      have HGM := Lib.hid hgm
      rw [hav] at hbox
      obtain ⟨gp, hgp⟩ : ∃ gp, gp = g.p := ⟨_, rfl⟩
      obtain ⟨gn, hgn⟩ : ∃ gn, gn = g.n := ⟨_, rfl⟩
      rw [← hgp] at hat hbox
      rw [← hgn] at hat ⊢
      have HAT := Lib.hid hat
      have HCO := Lib.hid hco
      have HCP := Lib.hid hcp
      have HON := Lib.hid hon
      have HB := Lib.hid hbox
      have HGP := Lib.hid hgp
      have HGN := Lib.hid hgn
      clear hat he hs hlk hg hS hv hk hm hlr hgp hgm hco hbox hcp hon hav hgn hall
      generalize onceF ((us.map PP.p).map normP) = ol at *
      go_enter Tryz.func18, Tryz.ntmps18
      go_upto_region 6 with (first
        | (go_at_call 48; (with_reducible refine HAT.out.mono ?_); rintro e w1 ⟨na, nn, nc, rfl, _, hx⟩; have HX := Lib.hid hx; clear hx)
        | (go_at_call 49; (with_reducible refine (HCO.out _ HX.out).mono ?_); rintro e w2 ⟨rfl, hx⟩; have HX2 := Lib.hid (HX.out.trans hx); clear hx))
      go_wp2_with (first
        | (go_at_call 51; (with_reducible refine (HCP.out _ HX2.out).mono ?_); rintro e w3 ⟨v3, us3, rfl, h1, h2, hx⟩; have H1 := Lib.hid h1; have H2 := Lib.hid h2; have HX3 := Lib.hid hx; clear h1 h2 hx)
        | (go_at_call 29; (with_reducible refine (HON.out _ _ _ H1.out H2.out HX3.out).mono ?_); rintro e w4 ⟨ra, rn, rc, us4, rfl, h1, h2, hx⟩; have H14 := Lib.hid h1; have H24 := Lib.hid h2; have HX4 := Lib.hid hx; have hb4 := HB.out _ hx; have f4 := frozen_of_row _ _ 1 _ _ hb4; have d4 := cell_of_row _ _ 1 _ _ _ hb4; clear h1 h2 hx))
      have ht := turns_set w4 gp 1 (.slice ra rn rc)
      have hfin := Sb.link HS.out HX4.out HGM.out (g' := { g with va := .slice ra rn rc, a := us4 }) rfl rfl (w4 := w4.setCell ⟨gp, 1, none⟩ (.slice ra rn rc)) (by
        rw [← HGP.out]
        exact setCell_rowS hb4 _) (HR.out.c.ext HX4.out) H24.out (HR.out.s.ext HX4.out) (by rw [← HGP.out]; exact ht) (fun x => { x with ads := ol }) (by
          show LkS.mk _ _ _ _ = LkS.mk _ _ _ _
          rw [← H14.out]
          rfl)
      rw [← HGN.out] at hfin
      exact bodyPost_ret (v := .int .i64 0) (by simp [results, Tryz.results18, go_sem]) rfl ⟨rfl, hfin⟩
set_option maxRecDepth 100000 in
set_option maxHeartbeats 4000000 in
theorem wants1T_any (W : World) (B : Nat) (key : List UInt8) (va : Value) (l : List (List UInt8 × V)) (hB : W.heap[B]? = some (.cells #[.string (strOf key), va] 52 (0, 0))) (v : Value) (p : List C) (hp : PredR W v p) (hv : AttrR W va l) :
    Calls Tryz.prog 57 #[v, .pointer (some ⟨B, 0, none⟩)] W fun e w' => e = .returned (.bool (matchP p l)) ∧ Ext W w' := by
  have hc := matches_any W v p key va l hp hv
  obtain ⟨a, c, rfl, _, _⟩ := hp.shape
  obtain ⟨ea, ec, rfl, _, _⟩ := Row.shape hv
  have c0 := cell_of_row _ _ 0 _ _ _ hB
  have c1 := cell_of_row _ _ 1 _ _ _ hB
  have HC := Lib.hid hc
  clear hc hp hv hB
  generalize matchP p l = m at *
  generalize l.length = ln at *
  go_enter Tryz.func57, Tryz.ntmps57
  go_wp2_with (go_at_call 56; (with_reducible refine HC.out.mono ?_); rintro e w1 ⟨rfl, hx⟩; have HX := Lib.hid hx; clear hx)
  exact bodyPost_ret (v := .bool m) (by simp [results, Tryz.results57, go_sem]) rfl ⟨rfl, HX.out⟩
set_option maxRecDepth 100000 in
set_option maxHeartbeats 8000000 in
theorem wantsT_any (w : World) (b bt : Nat) (F : List Nat) (S : TbS) (h : Sb b w bt F S) (ok : OkT S) (hl : ∀ x ∈ S.ls, x.came.length ≤ 100000) (n : Int) (key : List UInt8) (va : Value) (l : List (List UInt8 × V)) (hv : AttrR w va l) :
    Calls Tryz.prog 25 #[.pointer (some ⟨bt, 0, none⟩), .int .i64 n, .agg #[.string (strOf key), va]] w fun e w' => e = .returned (.bool ((cameF S n).any fun p => matchP p l)) ∧ Ext w w' := by
  obtain ⟨hx0, hb0⟩ := boxes1 w (.cells #[.string (strOf key), va] 52)
  have hcm := cameT_any (w.alloc (.cells #[.string (strOf key), va] 52)) b bt F S (h.ext hx0) ok hl n
  have hco : ∀ W ra rn rc us, Ext (w.alloc (.cells #[.string (strOf key), va] 52)) W → psP us = cameF S n → PredsR W (.slice ra rn rc) us → Calls Tryz.prog 49 #[.slice ra rn rc, .func (.func 57) #[] #[.pointer (some ⟨w.heap.size, 0, none⟩)]] W fun e w' => e = .returned (.bool ((cameF S n).any fun p => matchP p l)) ∧ Ext w w' := fun W ra rn rc us hW hus hps => by
    refine (hasQ_any W _ us hps 57 #[.pointer (some ⟨w.heap.size, 0, none⟩)] (fun x => matchP x.p l) ent_wants1 fun W' x hW' hx => wants1T_any W' w.heap.size key va l (block_later hb0 (hW.trans hW')) x.h x.p ((hps.hs x hx).ext hW') (Row.ext hv (hx0.trans (hW.trans hW')))).mono ?_
    rintro e w' ⟨rfl, hx⟩
    refine ⟨?_, hx0.trans (hW.trans hx)⟩
    rw [← hus]
    unfold psP
    rw [List.any_map]
    rfl
  obtain ⟨ea, ec, rfl, _, _⟩ := Row.shape hv
  have HCM := Lib.hid hcm
  have HCO := Lib.hid hco
  clear hx0 hb0 hcm hco h ok hl hv
  generalize ((cameF S n).any fun p => matchP p l) = m at *
  generalize l.length = ln at *
  go_enter Tryz.func25, Tryz.ntmps25
  go_wp2_with (first
    | (go_at_call 21; (with_reducible refine HCM.out.mono ?_); rintro e w1 ⟨ra, rn, rc, us, rfl, h1, h2, hx⟩; have HK := Lib.hid (HCO.out _ _ _ _ _ hx h1 h2.preds); clear h1 h2 hx)
    | (go_at_call 49; (with_reducible refine HK.out.mono ?_); rintro e w2 ⟨rfl, hx⟩; have HX := Lib.hid hx; clear hx))
  exact bodyPost_ret (v := .bool m) (by simp [results, Tryz.results25, go_sem]) rfl ⟨rfl, HX.out⟩
end Go.Proofs.YtlhbpflcffjhmaaGreat

namespace Go.Proofs.YtlhbpflcffjhmaaGreat
open Go.RowKit

theorem asked_sh {w : World} {vp : Value} {p : List C} (name : List UInt8) (hp : PredR w vp p) (hok : ∀ c ∈ p, okC c) {r : Rg} (hr : askedF p name = r) {n : Int} (hn : (if mayP p then (0 : Int) else 30) = n) :
    Calls Tryz.prog 36 #[vp, .string (strOf name)] w fun e w' => ∃ a1 a2 a3 a4 a5 a6, e = .returned (.tuple #[.agg #[.slice a1 r.i.length a2, .slice a3 r.s.length a4, .slice a5 r.b.length a6, .bool r.odd], .int .i64 n]) ∧ RgR w' (.agg #[.slice a1 r.i.length a2, .slice a3 r.s.length a4, .slice a5 r.b.length a6, .bool r.odd]) r ∧ Ext w w' := by
  refine (asked_any w vp p name hp hok).mono ?_
  rw [hr, hn]
  rintro e w' ⟨v, rfl, hv, hx⟩
  obtain ⟨a1, c1, a2, c2, a3, c3, rfl, _, _, _⟩ := hv.ex
  exact ⟨a1, c1, a2, c2, a3, c3, rfl, hv, hx⟩

set_option maxRecDepth 100000 in
set_option maxHeartbeats 8000000 in
theorem both_any (w : World) (bp bq : Nat) (vp vq : Value) (p q : List C) (name : List UInt8) (hbp : w.heap[bp]? = some (.cells #[vp] 25 (0, 0))) (hbq : w.heap[bq]? = some (.cells #[vq] 25 (0, 0)))
    (hp : PredR w vp p) (hq : PredR w vq q) (kp : ∀ c ∈ p, okC c) (kq : ∀ c ∈ q, okC c) :
    Calls Tryz.prog 133 #[.string (strOf name), .pointer (some ⟨bp, 0, none⟩), .pointer (some ⟨bq, 0, none⟩)] w fun e w' => ∃ v, e = .returned v ∧ RgR w' v ((askedF p name).and (askedF q name)) ∧ Ext w w' := by
  obtain ⟨ap, cp, rfl, _, _⟩ := hp.shape
  obtain ⟨aq, cq, rfl, _, _⟩ := hq.shape
  have f1 := few_asked p name
  have f2 := few_asked q name
  generalize hr : askedF p name = r at *
  generalize hs : askedF q name = s at *
  generalize hn : (if mayP p then (0 : Int) else 30) = n
  generalize hm : (if mayP q then (0 : Int) else 30) = m
  have HAnd := Lib.hid (fun W v1 v2 (h1 : RgR W v1 r) (h2 : RgR W v2 s) => andR_any W v1 v2 r s h1 h2 f1.1 f2.1.full (f1.2.mono (by omega)) (f2.2.mono (by omega)))
  have HR := Lib.hid hr
  have HS := Lib.hid hs
  have HN := Lib.hid hn
  have HM := Lib.hid hm
  have HP := Lib.hid hp
  have HQ := Lib.hid hq
  have Hp := Lib.hid hbp
  have Hq := Lib.hid hbq
  clear hr hs hn hm hp hq hbp hbq f1 f2
  generalize r.and s = rs at *
  generalize p.length = pl at *
  generalize q.length = ql at *
  have hw := Ext.refl w
  go_enter Tryz.func133, Tryz.ntmps133
  obtain ⟨hx1, ht⟩ := boxes1 w (.cells #[.slice none 0 0, .slice none 0 0, .slice none 0 0, .bool false] 72)
  have hw := hw.trans hx1
  have Hp := Lib.hid (block_later Hp.out hx1)
  have Hq := Lib.hid (block_later Hq.out hx1)
  have HP := Lib.hid (HP.out.ext hx1)
  have HQ := Lib.hid (HQ.out.ext hx1)
  clear hx1
  have Ht := Lib.hid ht
  clear ht
  have mp_0 := cell_of_row _ _ 0 _ _ _ Hp.out
  go_wp2_with fail
  generalize w.alloc (.cells #[.slice none 0 0, .slice none 0 0, .slice none 0 0, .bool false] 72) = w1 at *
  have HT0 : RowKit.Hid (w.heap.size ≤ w.heap.size) := Lib.hid (Nat.le_refl _)
  generalize hbt : w.heap.size = bt at *
  have HBT := Lib.hid hbt
  clear hbt HT0
  have HT0 : RowKit.Hid (w.heap.size ≤ bt) := Lib.hid (by rw [HBT.out]; exact Nat.le_refl _)
  have hof := Lib.hid (asked_sh name HP.out kp HR.out HN.out)
  refine (hof.out).mono ?_
  rintro e w2 ⟨a1, a2, a3, a4, a5, a6, rfl, hrr, hx2⟩
  have hw := hw.trans hx2
  have Hp := Lib.hid (block_later Hp.out hx2)
  have Hq := Lib.hid (block_later Hq.out hx2)
  have Ht := Lib.hid (block_later Ht.out hx2)
  have HP := Lib.hid (HP.out.ext hx2)
  have HQ := Lib.hid (HQ.out.ext hx2)
  clear hx2
  have HRR := Lib.hid hrr
  clear hrr
  clear hof mp_0
  obtain ⟨hx3, hr⟩ := boxes1 w2 (.cells #[.slice a1 r.i.length a2, .slice a3 r.s.length a4, .slice a5 r.b.length a6, .bool r.odd] 72)
  have hw := hw.trans hx3
  have Hp := Lib.hid (block_later Hp.out hx3)
  have Hq := Lib.hid (block_later Hq.out hx3)
  have Ht := Lib.hid (block_later Ht.out hx3)
  have HP := Lib.hid (HP.out.ext hx3)
  have HQ := Lib.hid (HQ.out.ext hx3)
  have HRR := Lib.hid (HRR.out.ext hx3)
  clear hx3
  have Hr := Lib.hid hr
  clear hr
  have mq_0 := cell_of_row _ _ 0 _ _ _ Hq.out
  go_wp2_with fail
  generalize w2.alloc (.cells #[.slice a1 r.i.length a2, .slice a3 r.s.length a4, .slice a5 r.b.length a6, .bool r.odd] 72) = w3 at *
  generalize w2.heap.size = br at *
  have hof := Lib.hid (asked_sh name HQ.out kq HS.out HM.out)
  refine (hof.out).mono ?_
  rintro e w4 ⟨b1, b2, b3, b4, b5, b6, rfl, hrs, hx4⟩
  have hw := hw.trans hx4
  have Hp := Lib.hid (block_later Hp.out hx4)
  have Hq := Lib.hid (block_later Hq.out hx4)
  have Ht := Lib.hid (block_later Ht.out hx4)
  have Hr := Lib.hid (block_later Hr.out hx4)
  have HP := Lib.hid (HP.out.ext hx4)
  have HQ := Lib.hid (HQ.out.ext hx4)
  have HRR := Lib.hid (HRR.out.ext hx4)
  clear hx4
  have HRS := Lib.hid hrs
  clear hrs
  clear hof mq_0
  obtain ⟨hx5, hs⟩ := boxes1 w4 (.cells #[.slice b1 s.i.length b2, .slice b3 s.s.length b4, .slice b5 s.b.length b6, .bool s.odd] 72)
  have hw := hw.trans hx5
  have Hp := Lib.hid (block_later Hp.out hx5)
  have Hq := Lib.hid (block_later Hq.out hx5)
  have Ht := Lib.hid (block_later Ht.out hx5)
  have Hr := Lib.hid (block_later Hr.out hx5)
  have HP := Lib.hid (HP.out.ext hx5)
  have HQ := Lib.hid (HQ.out.ext hx5)
  have HRR := Lib.hid (HRR.out.ext hx5)
  have HRS := Lib.hid (HRS.out.ext hx5)
  clear hx5
  have Hs := Lib.hid hs
  clear hs
  have mr_0 := cell_of_row _ _ 0 _ _ _ Hr.out
  have mr_1 := cell_of_row _ _ 1 _ _ _ Hr.out
  have mr_2 := cell_of_row _ _ 2 _ _ _ Hr.out
  have mr_3 := cell_of_row _ _ 3 _ _ _ Hr.out
  have ms_0 := cell_of_row _ _ 0 _ _ _ Hs.out
  have ms_1 := cell_of_row _ _ 1 _ _ _ Hs.out
  have ms_2 := cell_of_row _ _ 2 _ _ _ Hs.out
  have ms_3 := cell_of_row _ _ 3 _ _ _ Hs.out
  go_wp2_with fail
  generalize w4.alloc (.cells #[.slice b1 s.i.length b2, .slice b3 s.s.length b4, .slice b5 s.b.length b6, .bool s.odd] 72) = w5 at *
  generalize w4.heap.size = bs at *
  have hof := Lib.hid (HAnd.out _ _ _ HRR.out HRS.out)
  refine (hof.out).mono ?_
  rintro e w6 ⟨va, rfl, hva, hx6⟩
  have hw := hw.trans hx6
  have Hp := Lib.hid (block_later Hp.out hx6)
  have Hq := Lib.hid (block_later Hq.out hx6)
  have Ht := Lib.hid (block_later Ht.out hx6)
  have Hr := Lib.hid (block_later Hr.out hx6)
  have Hs := Lib.hid (block_later Hs.out hx6)
  have HP := Lib.hid (HP.out.ext hx6)
  have HQ := Lib.hid (HQ.out.ext hx6)
  have HRR := Lib.hid (HRR.out.ext hx6)
  have HRS := Lib.hid (HRS.out.ext hx6)
  clear hx6
  clear hof mr_0 mr_1 mr_2 mr_3 ms_0 ms_1 ms_2 ms_3
  obtain ⟨x1, y1, x2, y2, x3, y3, rfl, p1, p2, p3⟩ := hva.ex
  go_wp2_with (refine wpList_store_whole 72 (.tmp 4) (.tmp 23) rfl rfl bt rfl #[.slice x1 rs.i.length y1, .slice x2 rs.s.length y2, .slice x3 rs.b.length y3, .bool rs.odd] rfl _ 72 Ht.out rfl info72s (by simp [Value.oneCell']) ?_)
  have hq := setRow_heap _ _ _ #[.slice x1 rs.i.length y1, .slice x2 rs.s.length y2, .slice x3 rs.b.length y3, .bool rs.odd] _ _ Ht.out
  have g0 := cell_of_row _ _ 0 _ _ _ hq
  have g1 := cell_of_row _ _ 1 _ _ _ hq
  have g2 := cell_of_row _ _ 2 _ _ _ hq
  have g3 := cell_of_row _ _ 3 _ _ _ hq
  refine bodyPost_ret (v := .agg #[.slice x1 rs.i.length y1, .slice x2 rs.s.length y2, .slice x3 rs.b.length y3, .bool rs.odd]) (by simp [results, Tryz.results133, go_sem, g0, g1, g2, g3]) rfl ⟨_, rfl, ?_, hw.setRow (by have := HT0.out; omega) _⟩
  exact RgR.of (spr_setRow p1 Ht.out (by simp)) (spr_setRow p2 Ht.out (by simp)) (spr_setRow p3 Ht.out (by simp))

set_option maxRecDepth 100000 in
set_option maxHeartbeats 4000000 in
theorem may95_any (w : World) (vp vq : Value) (p q : List C) (hp : PredR w vp p) (hq : PredR w vq q) :
    Calls Tryz.prog 55 #[vp, vq] w fun e w' => e = .returned (.bool (mayP p && mayP q)) ∧ Ext w w' := by
  obtain ⟨ap, cp, rfl, _, _⟩ := hp.shape
  obtain ⟨aq, cq, rfl, _, _⟩ := hq.shape
  have h1 := pmay_any w _ p hp
  have HP := Lib.hid h1
  have HQ := Lib.hid (fun W (hx : Ext w W) => pmay_any W _ q (hq.ext hx))
  clear h1 hp hq
  generalize hm : mayP p = m at *
  generalize hm2 : mayP q = m2 at *
  clear hm hm2
  generalize p.length = pl at *
  generalize q.length = ql at *
  cases m with
  | false =>
    go_enter Tryz.func55, Tryz.ntmps55
    go_wp2_with fail
    refine HP.out.mono ?_
    rintro e w1 ⟨rfl, hx1⟩
    go_wp2_with fail
    go_ret
    exact ⟨rfl, hx1⟩
  | true =>
    go_enter Tryz.func55, Tryz.ntmps55
    go_wp2_with fail
    refine HP.out.mono ?_
    rintro e w1 ⟨rfl, hx1⟩
    have H2 := Lib.hid (HQ.out w1 hx1)
    go_wp2_with fail
    refine H2.out.mono ?_
    rintro e w2 ⟨rfl, hx2⟩
    go_wp2_with fail
    go_ret
    exact ⟨rfl, hx1.trans hx2⟩
end Go.Proofs.YtlhbpflcffjhmaaGreat

namespace Go.Proofs.YtlhbpflcffjhmaaGreat
open Go.RowKit

section
variable {P : Program}

/-- What stands in the slot of operation i. -/
def valOf (ops : Array Oper) (a : Act) (i : Nat) : Value := match dstOf ops i with | some d => a.tmps.getD d undef | none => undef
def Apart (ops : Array Oper) (A : List Nat) (listed : Array Bool) (a : Act) : Prop := ∀ i, i ∈ A → ∀ j, j ∈ A → i ≠ j → listed.getD i false = true → listed.getD j false = true → valOf ops a i ≠ valOf ops a j

theorem region_chain2 {ops : Array Oper} {m : Nat} {F : Nat → Value → World → Prop} {a0 : Act} {w0 : World} {D : List (List (Nat × Tmp))} {E : List (Nat × Tmp)} {Q : Exit → Act → World → Prop} {A : List Nat}
    (hok : opsOk ops a0.tmps.size 0 (ops.toList.take m) D = true) (hms : m ≤ ops.size)
    (hE : ((E.all fun p => decide (p.1 < m) && dstOf ops p.1 == some p.2) && (List.range m).all fun j => match dstOf ops j with | some _ => E.any fun p => p.1 == j | none => true) = true)
    (hc : chainOk ops m = true) (hord : ∀ i o, ops[i]? = some o → ∀ e ∈ o.after, Region.binds .any e = true → e.on < i)
    (hst : ∀ i v w w', Ext w w' → F i v w → F i v w')
    (hob : Obs P ops F a0 w0 0 (ops.toList.take m) D)
    (hAl : ∀ i o, i ∈ A → ops[i]? = some o → (∃ d, o.dst = some d) ∧ o.guard = none ∧ ∀ ev w n w', (execOp ev o).run P w = .ok n w' → n = .value (.pointer (some ⟨w.heap.size, 0, none⟩)))
    (hin : ∀ i, i ∈ A → ∀ v w, F i v w → ∃ b, v = .pointer (some ⟨b, 0, none⟩) ∧ b < w.heap.size)
    (hA : ∀ i, i ∈ A → i < m)
    (hend : ∀ w, Ext w0 w → depsThen F w E a0 (fun a => (∀ i, i ∈ A → ∀ j, j ∈ A → i ≠ j → valOf ops a i ≠ valOf ops a j) → wpList P ops Q (ops.toList.drop m) a w)) :
    ∀ (fuel : Nat) (listed : Array Bool) (a : Act) (w : World), listed.count false = fuel → (∀ j, m ≤ j → listed.getD j false = false) → Inv ops F a0 w0 listed a w → Apart ops A listed a → wpAny P .any ops Q fuel listed a w := by
  have hget : ∀ {i o}, i < m → ops[i]? = some o → (ops.toList.take m)[i]? = some o := fun {i o} hi h => by
    rw [List.getElem?_take, if_pos hi]; simpa using h
  have hall : ∀ {i o}, i < m → ops[i]? = some o → opOk ops a0.tmps.size i o (D.getD i []) = true := fun {i o} hi h => by
    have := opsOk_get hok i o (hget hi h); simpa using this
  have hobs : ∀ {i o}, i < m → ops[i]? = some o → Ob P ops F a0 w0 i o (D.getD i []) := fun {i o} hi h => by
    have := Obs_get hob i o (hget hi h); simpa using this
  -- all ahead of the chain are listed: the chain
  have fin : ∀ (fuel : Nat) (listed : Array Bool) (a : Act) (w : World), m + fuel = ops.size → (∀ j, j < m → listed.getD j false = true) → (∀ j, m ≤ j → listed.getD j false = false) → Inv ops F a0 w0 listed a w → Apart ops A listed a → wpAny P .any ops Q fuel listed a w := by
    intro fuel listed a w hf hl hno hI hP
    simp only [Bool.and_eq_true] at hE
    obtain ⟨c, hk, hc1, hc2, hc3⟩ := depsThen_at a _ E a0 hI.ts.symm (fun p hp => by
      have hd := List.all_eq_true.1 hE.1 p hp
      simp only [Bool.and_eq_true, decide_eq_true_eq, beq_iff_eq] at hd
      have := hI.fact p.1 (by omega) (hl p.1 hd.1)
      simp only [hd.2] at this
      exact this) (hend w hI.ext)
    have : c = a := by
      obtain ⟨ct, cd⟩ := c
      obtain ⟨at', ad⟩ := a
      have e2 : cd = ad := hc2.trans hI.df.symm
      have e1 : ct = at' := by
        apply Array.ext_getElem?
        intro s
        refine tmps_ext (a := ⟨ct, cd⟩) (b := ⟨at', ad⟩) hc1 ?_
        rw [hc3]
        split
        · rfl
        · rename_i hn
          refine (hI.old s fun j hj => ?_).symm
          rcases Nat.lt_or_ge j m with hjm | hjm
          · exfalso
            have h2 := List.all_eq_true.1 hE.2 j (List.mem_range.2 hjm)
            simp only [hj, List.any_eq_true, beq_iff_eq] at h2
            obtain ⟨p, hp, hpj⟩ := h2
            have hd := List.all_eq_true.1 hE.1 p hp
            simp only [Bool.and_eq_true, decide_eq_true_eq, beq_iff_eq] at hd
            have hd2 := hd.2
            rw [hpj, hj] at hd2
            exact hn ⟨p, hp, (Option.some.inj hd2).symm⟩
          · exact hno j hjm
      rw [e1, e2]
    rw [← this]
    exact chain_any hc hord fuel m listed c w (Nat.le_refl _) hf hI.size hl hno hI.down (hk (by rw [this]; exact fun i hi j hj hne => hP i hi j hj hne (hl i (hA i hi)) (hl j (hA j hj))))
  have hready_lt : ∀ (listed : Array Bool) (a : Act) (w : World), (∀ j, m ≤ j → listed.getD j false = false) → Inv ops F a0 w0 listed a w → (¬ ∀ j, j < m → listed.getD j false = true) → ∀ i ∈ Region.ready .any ops listed, i < m := by
    intro listed a w hno hI hnot i hi
    obtain ⟨_, o, ho, _⟩ := mem_ready.1 hi
    have his : i < ops.size := (Array.getElem?_eq_some_iff.1 ho).1
    rcases Nat.lt_or_ge i m with h' | h'
    · exact h'
    · exfalso
      have hr := chain_reach hc hI.down his h' (waits_of_ready hi)
      exact hnot fun j hj => hr j (by omega)
  have hcount : ∀ (listed : Array Bool), listed.size = ops.size → (∀ j, j < m → listed.getD j false = true) → (∀ j, m ≤ j → listed.getD j false = false) → m + listed.count false = ops.size := by
    intro listed hs hl hno
    have e : listed = (List.replicate m true ++ List.replicate (ops.size - m) false).toArray := by
      apply Array.ext
      · simp; omega
      · intro j h1 h2
        have hj : j < listed.size := h1
        rcases Nat.lt_or_ge j m with hjm | hjm
        · have := hl j hjm
          simp [hj] at this
          rw [this]
          simp [hjm]
        · have := hno j hjm
          simp [hj] at this
          rw [this]
          have : ¬ j < m := by omega
          simp [List.getElem_append, this]
    rw [e]
    simp [List.count_append, List.count_replicate]
    omega
  intro fuel
  induction fuel with
  | zero =>
    intro listed a w hc0 hno hI hP
    by_cases hl : ∀ j, j < m → listed.getD j false = true
    · exact fin 0 listed a w (by have := hcount listed hI.size hl hno; omega) hl hno hI hP
    · exfalso
      apply hl
      intro j hj
      have hj' : j < listed.size := by rw [hI.size]; omega
      have := Array.count_eq_zero.1 hc0
      have h2 : listed[j] ≠ false := fun e => this (e ▸ Array.getElem_mem hj')
      simp [hj']; simpa using h2
  | succ fuel ih =>
    intro listed a w hcn hno hI hP
    by_cases hl : ∀ j, j < m → listed.getD j false = true
    · exact fin (fuel + 1) listed a w (by have := hcount listed hI.size hl hno; omega) hl hno hI hP
    refine ⟨fun hr => ?_, fun i hi => ?_⟩
    · exfalso
      apply hl
      intro j
      induction j using Nat.strongRecOn with
      | _ j ihj =>
        intro hjm
        have hj : j < ops.size := by omega
        cases hlj : listed.getD j false with
        | true => rfl
        | false =>
          exfalso
          have ho : ops[j]? = some ops[j] := by simp [hj]
          have hmem : j ∈ Region.ready .any ops listed := by
            refine mem_ready.2 ⟨?_, ops[j], ho, fun e he hb => ?_⟩
            · have : j < listed.size := by rw [hI.size]; exact hj
              simp [this] at hlj ⊢; exact hlj
            · have := hord j _ ho e he hb
              exact ihj e.on this (by omega)
          rw [hr] at hmem
          cases hmem
    have him := hready_lt listed a w hno hI hl i hi
    obtain ⟨h0, o, ho, hafter⟩ := mem_ready.1 hi
    have hil : i < ops.size := (Array.getElem?_eq_some_iff.1 ho).1
    have hil' : i < listed.size := hI.size ▸ hil
    have h0' : listed.getD i false = false := by simp [hil'] at h0 ⊢; exact h0
    have hopk := hall him ho
    simp only [opOk, Bool.and_eq_true] at hopk
    obtain ⟨⟨⟨⟨hk1, hk2⟩, hk3⟩, hk4⟩, hk5⟩ := hopk
    have hdep2 : ∀ p ∈ D.getD i [], waits ops i p.1 = true ∧ dstOf ops p.1 = some p.2 := fun p hp => by
      have := List.all_eq_true.1 hk3 p hp
      simpa using this
    have hdeps : ∀ p ∈ D.getD i [], listed.getD p.1 false = true := fun p hp => waits_of_ready hi p.1 (hdep2 p hp).1
    have hsel : ∀ cs b, o.op ≠ .select cs b := by intro cs b e; rw [e] at hk2; cases hk2
    have hjlt : ∀ j, listed.getD j false = true → j < ops.size := fun j hj => by
      rcases Nat.lt_or_ge j listed.size with h' | h'
      · exact hI.size ▸ h'
      · simp [Array.getElem?_eq_none h'] at hj
    obtain ⟨c, hk, hc1, hc2, hc3⟩ := depsThen_at a _ (D.getD i []) a0 hI.ts.symm (fun p hp => by
      have := hI.fact p.1 (hjlt p.1 (hdeps p hp)) (hdeps p hp)
      simp only [(hdep2 p hp).2] at this
      exact this) (hobs him ho w hI.ext)
    have same : ∀ s ∈ o.looksAt ops, c.tmps[s]? = a.tmps[s]? := by
      intro s hs
      refine tmps_ext hc1 ?_
      rw [hc3]
      split
      · rfl
      · rename_i hn
        refine (hI.old s fun j hj => ?_).symm
        have hjl : j < ops.size := by
          unfold dstOf at hj
          rcases Nat.lt_or_ge j ops.size with h' | h'
          · exact h'
          · rw [Array.getElem?_eq_none h'] at hj; cases hj
        have h1 := List.all_eq_true.1 (List.all_eq_true.1 hk5 s hs) j (List.mem_range.2 hjl)
        simp only [Bool.or_eq_true, bne_iff_ne, ne_eq, beq_iff_eq] at h1
        rcases h1 with ((h1 | h1) | h1) | h1
        · exact absurd hj h1
        · exfalso
          rw [List.any_eq_true] at h1
          obtain ⟨p, hp, hpj⟩ := h1
          have hd := (hdep2 p hp).2
          rw [eq_of_beq hpj, hj] at hd
          exact hn ⟨p, hp, (Option.some.inj hd).symm⟩
        · rw [h1]; exact h0'
        · cases hlj : listed.getD j false with
          | false => rfl
          | true => have := hI.down j hlj i h1; rw [h0'] at this; cases this
    have heval : execOp c.eval o = execOp a.eval o := execOp_congr o hsel fun x hx => by
      cases x with
      | tmp t =>
        have := same t (List.mem_append_left _ (List.mem_filterMap.2 ⟨.tmp t, by simpa using hx, rfl⟩))
        simp [Act.eval, this]
      | _ => rfl
    have hwant : Region.wanted o (yielded ops c.tmps) = Region.wanted o (yielded ops a.tmps) := by
      unfold Region.wanted
      cases hg : o.guard with
      | none => rfl
      | some gw =>
        obtain ⟨g, want⟩ := gw
        have hy : yielded ops c.tmps g = yielded ops a.tmps g := by
          unfold yielded
          cases ht : (ops[g]?).bind (·.dst) with
          | none => rfl
          | some t =>
            have := same t (by simp [Oper.looksAt, hg, ht])
            simp [this]
        simp only [hy]
    have next : ∀ v w', Ext w w' → (i ∈ A → v = .pointer (some ⟨w.heap.size, 0, none⟩)) → F i (match o.dst with | some d => (c.put o.dst v).tmps.getD d undef | none => undef) w' →
        wpAny P .any ops Q fuel (listed.setIfInBounds i true) (a.put o.dst v) w' := by
      intro v w' hx hal hF
      have hdst : dstOf ops i = o.dst := by simp [dstOf, ho]
      have hkeep : ∀ k, i ≠ k → listed.getD k false = true → valOf ops (a.put o.dst v) k = valOf ops a k := by
        intro k hne hlk
        unfold valOf
        cases hdk : dstOf ops k with
        | none => rfl
        | some d =>
          have hne2 : o.dst ≠ some d := fun e => by
            rw [e] at hk1
            simp only [Bool.and_eq_true] at hk1
            have := List.all_eq_true.1 hk1.2 k (List.mem_range.2 (hjlt k hlk))
            simp [hdk, Ne.symm hne] at this
          exact put_getD_ne _ hne2
      have hnew : i ∈ A → valOf ops (a.put o.dst v) i = .pointer (some ⟨w.heap.size, 0, none⟩) := by
        intro hiA
        obtain ⟨⟨d, hd⟩, _, _⟩ := hAl i o hiA ho
        have hds : d < a0.tmps.size := by
          rw [hd] at hk1
          simp only [Bool.and_eq_true, decide_eq_true_eq] at hk1
          exact hk1.1
        unfold valOf
        rw [hdst, hd]
        show (a.put (some d) v).tmps.getD d undef = _
        rw [put_getD_eq _ (by rw [hI.ts]; exact hds)]
        exact hal hiA
      have hold : ∀ k, k ∈ A → listed.getD k false = true → valOf ops a k ≠ .pointer (some ⟨w.heap.size, 0, none⟩) := by
        intro k hkA hlk e
        obtain ⟨b, hb, hlt⟩ := hin k hkA _ _ (hI.fact k (hjlt k hlk) hlk)
        have : valOf ops a k = .pointer (some ⟨b, 0, none⟩) := hb
        rw [this] at e
        simp only [Value.pointer.injEq, Option.some.injEq, Addr.mk.injEq] at e
        omega
      have hP2 : Apart ops A (listed.setIfInBounds i true) (a.put o.dst v) := by
        intro x hx y hy hxy hlx hly
        by_cases e1 : i = x
        · subst e1
          have hly' : listed.getD y false = true := by rwa [getD_set_ne false hxy] at hly
          rw [hnew hx, hkeep y hxy hly']
          exact Ne.symm (hold y hy hly')
        · have hlx' : listed.getD x false = true := by rwa [getD_set_ne false e1] at hlx
          rw [hkeep x e1 hlx']
          by_cases e2 : i = y
          · subst e2
            rw [hnew hy]
            exact hold x hx hlx'
          · have hly' : listed.getD y false = true := by rwa [getD_set_ne false e2] at hly
            rw [hkeep y e2 hly']
            exact hP x hx y hy hxy hlx' hly'
      refine ih _ _ _ ?_ ?_ ⟨by simpa using hI.size, by rw [put_size]; exact hI.ts, by rw [put_defers]; exact hI.df, ?_, ?_, ?_, hI.ext.trans hx⟩ hP2
      · have hset : listed.setIfInBounds i true = listed.set i true hil' := by simp [Array.setIfInBounds, hil']
        rw [hset, Array.count_set]
        have : listed[i] = false := by simpa [hil'] using h0'
        simp [this]; omega
      · intro j hj
        rw [getD_set_ne false (by omega)]; exact hno j hj
      · intro s hs
        have hne : o.dst ≠ some s := fun e => by
          have := hs i (hdst.trans e)
          simp [hil'] at this
        rw [put_getD_ne _ hne]
        refine hI.old s fun j hj => ?_
        by_cases hji : i = j
        · rw [← hji]; exact h0'
        · have := hs j hj
          rwa [getD_set_ne false hji] at this
      · intro j hj hlj
        by_cases hji : i = j
        · subst hji
          rw [hdst]
          cases hd : o.dst with
          | none => simp only [hd] at hF; exact hF
          | some d =>
            simp only [hd] at hF hk1
            simp only [Bool.and_eq_true, decide_eq_true_eq] at hk1
            rw [put_getD_eq _ (by rw [hc1, hI.ts]; exact hk1.1)] at hF
            show F i ((a.put (some d) v).tmps.getD d undef) w'
            rw [put_getD_eq _ (by rw [hI.ts]; exact hk1.1)]
            exact hF
        · rw [getD_set_ne false hji] at hlj
          have hfj := hst _ _ _ _ hx (hI.fact j hj hlj)
          cases hdj : dstOf ops j with
          | none => simp only [hdj] at hfj; exact hfj
          | some d =>
            simp only [hdj] at hfj
            have hne : o.dst ≠ some d := fun e => by
              rw [e] at hk1
              simp only [Bool.and_eq_true] at hk1
              have := List.all_eq_true.1 hk1.2 j (List.mem_range.2 hj)
              simp [hdj, Ne.symm hji] at this
            show F j ((a.put o.dst v).tmps.getD d undef) w'
            rw [put_getD_ne _ hne]
            exact hfj
      · intro j hlj k hw
        by_cases hji : i = j
        · subst hji; exact getD_set_true (waits_of_ready hi k hw)
        · rw [getD_set_ne false hji] at hlj
          exact getD_set_true (hI.down j hlj k hw)
    unfold wpOp
    rw [ho]
    simp only []
    rw [← hwant]
    simp only [wpList] at hk
    split
    · rename_i hw
      rw [if_pos hw] at hk
      rcases hk with hk | ⟨_, x, y, hxy⟩
      · refine .inl ?_
        unfold Oper.wp at hk ⊢
        rw [heval] at hk
        have hGo : i ∈ A → ∀ n w', (execOp a.eval o).run P w = .ok n w' → n = .value (.pointer (some ⟨w.heap.size, 0, none⟩)) := fun hiA => (hAl i o hiA ho).2.2 a.eval w
        generalize (execOp a.eval o).run P w = r at *
        cases r with
        | ok n w' =>
          cases n <;> simp only [Oper.upon] at hk ⊢
          case value u => exact next u w' hk.2.1 (fun hiA => by have := hGo hiA _ _ rfl; simpa using this) hk.2.2.2
          case skip => exact next undef w' hk.2.1 (fun hiA => by have := hGo hiA _ _ rfl; cases this) hk.2.2.2
          case defer d =>
            have := hk.2.2.1
            rw [put_defers] at this
            exact absurd this (by simp)
          case enter f args =>
            refine Calls.mono hk fun e w'' he => ?_
            cases e with
            | returned u => exact next u w'' he.2.1 (fun hiA => by have := hGo hiA _ _ rfl; cases this) he.2.2.2
            | panicked c => exact absurd he.1 (by simp)
            | outgrown => obtain ⟨_, _, h⟩ := he; exact absurd h.1 (by simp)
          case row row args => exact Rows.mono hk fun u w'' he => next u w'' he.2.1 (fun hiA => by have := hGo hiA _ _ rfl; cases this) he.2.2.2
        | halt x w' =>
          cases x <;> simp only [Oper.upon] at hk ⊢
          case panic u => exact absurd hk.1 (by simp)
      · exact absurd hxy.1 (by simp)
    · rename_i hw
      rw [if_neg hw] at hk
      exact next undef w hk.2.1 (fun hiA => by obtain ⟨_, hg, _⟩ := hAl i o hiA ho; exact absurd (by simp [Region.wanted, hg]) hw) hk.2.2.2
/-- THE BOXES OF A (operations that make one each) LIE APART. A REGION THAT DRAWS ITS ORDER AND ENDS IN A CHAIN: the first m operations by facts, the others as they stand. -/
theorem wp_region_boxes {id : Nat} {l : List Oper} (m : Nat) (A : List Nat) (Fs : List Fact) (D : List (List (Nat × Tmp))) (E : List (Nat × Tmp)) {a0 : Act} {w0 : World} {Q : Exit → Act → World → Prop}
    (hm : P.follows .mixedOrders = true)
    (hok : (opsOk l.toArray a0.tmps.size 0 (l.take m) D && decide (m ≤ l.length) && ((E.all fun p => decide (p.1 < m) && dstOf l.toArray p.1 == some p.2) && (List.range m).all fun j => match dstOf l.toArray j with | some _ => E.any fun p => p.1 == j | none => true) && chainOk l.toArray m && ordOk l.toArray) = true)
    (hob : Obs P l.toArray (factAt Fs) a0 w0 0 (l.take m) D)
    (hAl : ∀ i, i ∈ A → ∃ o t z, l[i]? = some o ∧ o.op = .alloc t ∧ (∃ d, o.dst = some d) ∧ o.guard = none ∧ (∀ w, Sem.run P (zeroValue t) w = .ok z w) ∧ i < m)
    (hin : ∀ i, i ∈ A → ∀ v w, (Fs.getD i Fact.any).p v w → ∃ b, v = .pointer (some ⟨b, 0, none⟩) ∧ b < w.heap.size)
    (hend : ∀ w, Ext w0 w → depsThen (factAt Fs) w E a0 (fun a => (∀ i, i ∈ A → ∀ j, j ∈ A → i ≠ j → valOf l.toArray a i ≠ valOf l.toArray a j) → wpList P l.toArray Q (l.drop m) a w)) :
    (Code.region id l.toArray true).wp P Q a0 w0 := by
  simp only [Bool.and_eq_true] at hok
  obtain ⟨⟨⟨⟨k1, k2⟩, k3⟩, k4⟩, k5⟩ := hok
  have hno : ∀ j, (Array.replicate l.toArray.size false).getD j false = false := fun j => by
    simp only [Array.getD_eq_getD_getElem?, Array.getElem?_replicate]; split <;> rfl
  refine wp_region_any hm (region_chain2 (m := m) (A := A) (F := factAt Fs) (D := D) (E := E) (w0 := w0) k1 (by simpa using k2) (by simp only [Bool.and_eq_true]; exact k3) k4 ?_ (fun i v w w' hx h => (Fs.getD i Fact.any).st v w w' hx h) hob ?_ hin (fun i hi => by obtain ⟨_, _, _, _, _, _, _, _, h⟩ := hAl i hi; exact h) hend _ _ _ _ ?_ (fun j _ => hno j) ?_ (fun i _ j _ _ h => by rw [hno] at h; cases h))
  · intro i o ho e he hb
    have hi : i < l.toArray.size := (Array.getElem?_eq_some_iff.1 ho).1
    have h1 := List.all_eq_true.1 k5 i (List.mem_range.2 hi)
    simp only [ho] at h1
    have h2 := (Array.all_eq_true_iff_forall_mem.1 h1) e he
    simpa [hb] using h2
  · intro i o hi ho
    obtain ⟨o', t, z, h1, h2, h3, h4, h5, _⟩ := hAl i hi
    have e : o' = o := by simpa [h1] using ho
    subst e
    refine ⟨h3, h4, fun ev w n w' hr => ?_⟩
    simp only [execOp, h2] at hr
    have := hr
    simp [go_sem, h5] at this
    exact this.1.symm
  · simp
  · exact ⟨by simp, rfl, rfl, fun _ _ => rfl, fun j _ h => (by rw [hno] at h; cases h), fun j h => (by rw [hno] at h; cases h), (Ext.refl w0).drew⟩

/-- As depsThen; the values are gathered. -/
def depsThenV (F : Nat → Value → World → Prop) (w : World) : List (Nat × Tmp) → Act → List (Nat × Value) → (Act → List (Nat × Value) → Prop) → Prop
  | [], a, vs, k => k a vs
  | p :: js, a, vs, k => ∀ v, F p.1 v w → depsThenV F w js (a.put (some p.2) v) ((p.1, v) :: vs) k
theorem depsThenV_nil {F : Nat → Value → World → Prop} {w : World} {a : Act} {vs : List (Nat × Value)} {k : Act → List (Nat × Value) → Prop} (h : k a vs) : depsThenV F w [] a vs k := h

theorem deps_of_V {F : Nat → Value → World → Prop} {w : World} {sl : Nat → Option Tmp} {k : Act → List (Nat × Value) → Prop} : ∀ (E : List (Nat × Tmp)) (b : Act) (vs : List (Nat × Value)), (E.map (·.2)).Nodup → (∀ p ∈ E, p.2 < b.tmps.size) → (∀ p ∈ E, sl p.1 = some p.2) →
    (∀ x ∈ vs, ∃ s, sl x.1 = some s ∧ s ∉ E.map (·.2) ∧ b.tmps.getD s undef = x.2) → depsThenV F w E b vs k →
    depsThen F w E b fun a => ∃ vs', (∀ x ∈ vs', ∃ s, sl x.1 = some s ∧ a.tmps.getD s undef = x.2) ∧ k a vs'
  | [], b, vs, _, _, _, hv, h => ⟨vs, fun x hx => by obtain ⟨s, h1, _, h3⟩ := hv x hx; exact ⟨s, h1, h3⟩, h⟩
  | p :: js, b, vs, hn, hb, hs, hv, h => by
    intro v hF
    rw [List.map_cons, List.nodup_cons] at hn
    refine deps_of_V js _ _ hn.2 (fun q hq => by rw [put_size]; exact hb q (List.mem_cons_of_mem _ hq)) (fun q hq => hs q (List.mem_cons_of_mem _ hq)) (fun x hx => ?_) (h v hF)
    rcases List.mem_cons.1 hx with e | hx
    · subst e
      exact ⟨p.2, hs p List.mem_cons_self, hn.1, put_getD_eq _ (hb p List.mem_cons_self)⟩
    · obtain ⟨s, h1, h2, h3⟩ := hv x hx
      rw [List.map_cons, List.mem_cons, not_or] at h2
      refine ⟨s, h1, h2.2, ?_⟩
      rw [put_getD_ne _ (fun e => h2.1 (Option.some.inj e).symm)]
      exact h3
theorem deps_mono {F : Nat → Value → World → Prop} {w : World} {k k' : Act → Prop} (hk : ∀ a, k a → k' a) : ∀ (E : List (Nat × Tmp)) (b : Act), depsThen F w E b k → depsThen F w E b k'
  | [], _, h => hk _ h
  | _ :: js, _, h => fun v hF => deps_mono hk js _ (h v hF)

def slotsOk (ops : Array Oper) (n : Nat) (E : List (Nat × Tmp)) : Bool := decide ((E.map (·.2)).Nodup) && E.all fun p => decide (p.2 < n) && dstOf ops p.1 == some p.2

/-- The same, the values gathered: so that what is said of the boxes is said of those values. -/
theorem wp_region_boxesV {id : Nat} {l : List Oper} (m : Nat) (A : List Nat) (Fs : List Fact) (D : List (List (Nat × Tmp))) (E : List (Nat × Tmp)) {a0 : Act} {w0 : World} {Q : Exit → Act → World → Prop}
    (hm : P.follows .mixedOrders = true)
    (hok : (opsOk l.toArray a0.tmps.size 0 (l.take m) D && decide (m ≤ l.length) && ((E.all fun p => decide (p.1 < m) && dstOf l.toArray p.1 == some p.2) && (List.range m).all fun j => match dstOf l.toArray j with | some _ => E.any fun p => p.1 == j | none => true) && chainOk l.toArray m && ordOk l.toArray) = true)
    (hsl : slotsOk l.toArray a0.tmps.size E = true)
    (hob : Obs P l.toArray (factAt Fs) a0 w0 0 (l.take m) D)
    (hAl : ∀ i, i ∈ A → ∃ o t z, l[i]? = some o ∧ o.op = .alloc t ∧ (∃ d, o.dst = some d) ∧ o.guard = none ∧ (∀ w, Sem.run P (zeroValue t) w = .ok z w) ∧ i < m)
    (hin : ∀ i, i ∈ A → ∀ v w, (Fs.getD i Fact.any).p v w → ∃ b, v = .pointer (some ⟨b, 0, none⟩) ∧ b < w.heap.size)
    (hend : ∀ w, Ext w0 w → depsThenV (factAt Fs) w E a0 [] (fun a vs => (∀ x, x ∈ vs → ∀ y, y ∈ vs → x.1 ∈ A → y.1 ∈ A → x.1 ≠ y.1 → x.2 ≠ y.2) → wpList P l.toArray Q (l.drop m) a w)) :
    (Code.region id l.toArray true).wp P Q a0 w0 := by
  simp only [slotsOk, Bool.and_eq_true, decide_eq_true_eq, List.all_eq_true, beq_iff_eq] at hsl
  refine wp_region_boxes m A Fs D E hm hok hob hAl hin fun w hx => ?_
  refine deps_mono (fun a h hap => ?_) E a0 (deps_of_V (sl := dstOf l.toArray) E a0 [] hsl.1 (fun p hp => (hsl.2 p hp).1) (fun p hp => (hsl.2 p hp).2) (fun x hx => by cases hx) (hend w hx))
  obtain ⟨vs', hvs, hk⟩ := h
  have val : ∀ x ∈ vs', valOf l.toArray a x.1 = x.2 := fun x hx => by
    obtain ⟨s, h1, h2⟩ := hvs x hx
    unfold valOf
    rw [h1]; exact h2
  exact hk fun x hx y hy hxA hyA hne => by rw [← val x hx, ← val y hy]; exact hap x.1 hxA y.1 hyA hne

end
end Go.Proofs.YtlhbpflcffjhmaaGreat
