import Derived.Test.YtaklnpjpndkccaaGreatYk16
namespace Go.Proofs.YtaklnpjpndkccaaGreat
open Go.RowKit Go.Sort
def RtellO (wB w w' : World) (bs : Nat) (pv : Value) (v : Value) (out : List PD) (next : Nat) (st count : Int) : Prop :=
 ∃ O : List DM, O.map DM.pd = out ∧ w'.ownsRow w.heap.size 104 6 v O.length (O.flatMap dmC) ∧ (∀ x ∈ O, AttrR wB x.h x.av) ∧ RsB w' bs pv next st count ∧ w.grownBy w' (some bs)
set_option maxRecDepth 100000 in
set_option maxHeartbeats 4000000 in
theorem rpage_no (w : World) (bs : Nat) (pv : Value) (next st count : Int) (hS : RsB w bs pv next st count) (cnt : Int) (h : ¬ (st = 2 ∧ count = cnt)) (fr en : Int) (hi hg : Value) (last : Bool) (room : Int) :
 Calls Tryz.prog 31 #[.pointer (some ⟨bs, 0, none⟩), .int .u64 cnt, .agg #[.int .u64 fr, .int .u64 en, hi, hg, .bool last], .int .i64 room] w fun e w' => e = .returned (.slice none 0 0) ∧ Ext w w' := by
 obtain ⟨hx, _⟩ := boxes1 w (.cells #[.int .u64 fr, .int .u64 en, hi, hg, .bool last] 34)
 have hS2 : RsB _ bs pv next st count := block_later hS hx
 have m2 := cell_of_row _ _ 2 _ _ _ hS2
 have m3 := cell_of_row _ _ 3 _ _ _ hS2
 have HX := Lib.hid hx
 clear hS hS2 hx
 by_cases h2 : st = 2
 · subst h2
   have hc : ((count : Int) != cnt) = true := bne_iff_ne.2 (fun e => h ⟨rfl, e⟩)
   clear h
   go_enter Tryz.func31, Tryz.ntmps31
   go_wp2_with fail
   go_ret
   exact ⟨rfl, HX.out⟩
 · have d1 : (st != 2) = true := bne_iff_ne.2 h2
   clear h h2
   go_enter Tryz.func31, Tryz.ntmps31
   go_wp2_with fail
   go_ret
   exact ⟨rfl, HX.out⟩
def PgR (w0 w wr : World) (bs : Nat) (pv : Value) (p : List C) (cnt room : Int) (R : List PD × Nat × Bool) (base : Nat) (vL : Value) (L : List DM) (ov : Value) (i : Nat) : Prop :=
 ∃ (O : List DM) (nk : Nat), pageL p room ((L.drop i).map DM.pd) nk (O.map DM.pd) = R ∧ RsR w0 wr bs pv p nk 2 cnt ∧ wr.ownsRow w.heap.size 104 6 vL L.length (L.flatMap dmC)
  ∧ wr.ownsRow base 104 6 ov O.length (O.flatMap dmC) ∧ (∀ x ∈ O, x ∈ L) ∧ w.grownBy wr (some bs) ∧ base ≤ wr.heap.size ∧ O.length ≤ i
theorem rtell_end {wB w w4 w' : World} {bs base : Nat} {pv v : Value} {O : List DM} {nk n' : Int} {s c st' : Int} {nx : Nat} (hb : w.heap.size ≤ base) (hout : w4.ownsRow base 104 6 v O.length (O.flatMap dmC)) (hat : ∀ x ∈ O, AttrR wB x.h x.av)
 (hS : RsB w4 bs pv nk s c) (hgr : w.grownBy w4 (some bs)) (hg : w4.grownBy w' (some bs)) (hS' : RsB w' bs pv n' st' c) (hn : n' = (nx : Nat)) : RtellO wB w w' bs pv v (O.map DM.pd) nx st' c := by
 subst hn
 exact ⟨O, rfl, own_low (own_keep hout hg fun k hk e => own_ne hout hS (by decide) (hk.trans e.symm)) hb, hat, hS', grown_at hgr hg⟩
set_option maxRecDepth 100000 in
set_option maxHeartbeats 0 in
theorem rpage_yes (wB w0 w : World) (hBw : Ext wB w) (bs : Nat) (hBs : wB.heap.size ≤ bs) (pv : Value) (p : List C) (next : Nat) (cnt : Int) (hSp : RsR w0 w bs pv p next 2 cnt) (fr en : Nat) (hi hg : Value) (last : Bool) (room : Int) (items : List IM) (gaps : List (Nat × Nat)) (h1 : ImR wB hi items) (h2 : GpR wB hg gaps) (hl1 : items.length ≤ 40) (hl2 : gaps.length ≤ 40) :
 Calls Tryz.prog 31 #[.pointer (some ⟨bs, 0, none⟩), .int .u64 cnt, .agg #[.int .u64 fr, .int .u64 en, hi, hg, .bool last], .int .i64 room] w
  fun e w' => ∃ v, e = .returned v ∧ Hid (RtellO wB w w' bs pv v (pageP p room en last (rowR gaps (items.map IM.pi)) next).1 (pageP p room en last (rowR gaps (items.map IM.pi)) next).2.1 (pageP p room en last (rowR gaps (items.map IM.pi)) next).2.2 cnt) := by
 obtain ⟨hx, hb⟩ := boxes1 w (.cells #[.int .u64 fr, .int .u64 en, hi, hg, .bool last] 34)
 obtain ⟨a1, c1, rfl, _, _⟩ := Row.shape h1.row
 obtain ⟨a2, c2, rfl, _, _⟩ := Row.shape h2
 have hS2 : RsB _ bs pv next 2 cnt := block_later hSp.sp hx
 have HROW := Lib.hid (rrow_any _ fr en _ _ last items gaps ((h1.ext hBw).ext hx) (Row.ext (Row.ext h2 hBw) hx) hl1 hl2)
 have m2s := cell_of_row _ _ 2 _ _ _ hS2
 have m3s := cell_of_row _ _ 3 _ _ _ hS2
 have hcc : ((cnt : Int) != cnt) = false := by simp
 have m0 := cell_of_row _ _ 0 _ _ _ hb
 have m1 := cell_of_row _ _ 1 _ _ _ hb
 have m2 := cell_of_row _ _ 2 _ _ _ hb
 have m4 := cell_of_row _ _ 4 _ _ _ hb
 have m3b := cell_of_row _ _ 3 _ _ _ hb
 have HB := Lib.hid hb
 have HX := Lib.hid hx
 have HS := Lib.hid hS2
 have HSP := Lib.hid hSp
 have HI := Lib.hid h1
 have HBW := Lib.hid hBw
 have HLL := Lib.hid (And.intro hl1 hl2)
 obtain ⟨pa, pc, rfl, _, _⟩ := hSp.pr.shape
 clear hx hb hS2 hSp h1 h2 hl1 hl2 hBw
 go_enter Tryz.func31, Tryz.ntmps31
 go_upto_region 3 with fail
 generalize w.alloc (.cells #[.int .u64 fr, .int .u64 en, .slice a1 items.length c1, .slice a2 gaps.length c2, .bool last] 34) = wb at *
 go_wp2_with (go_at_call 30; refine HROW.out.mono ?_; rintro e w6 ⟨v24, L, rfl, h6⟩; have hown := h6.out.own; obtain ⟨aL, cL, rfl, _, _⟩ := own_shape hown)
 have hx6 := h6.out.x
 have h80 : L.length ≤ 80 := by rw [h6.out.len]; have := HLL.out; omega
 have HAT : Hid (∀ x ∈ L, AttrR wB x.h x.av) := fun x hx => h6.out.hat HI.out hx
 have HL : Hid (L.map DM.pd = rowR gaps (items.map IM.pi)) := h6.out.pd
 clear HROW h6 m0 m1 m2 m4 m3b m2s m3s
 have hsp6 : RsR w0 w6 bs _ p next 2 cnt := ⟨block_later HS.out hx6, HSP.out.old, HSP.out.pr, (HSP.out.hx.trans HX.out).trans hx6⟩
 have hxw : Ext w w6 := HX.out.trans hx6
 have hlw : w.heap.size ≤ wb.heap.size := HX.out.size
 have hbk : ∀ k, (Value.slice aL L.length cL).ownBlock = some k → w.heap.size ≤ k ∧ k < w6.heap.size := fun k hk => ⟨Nat.le_trans hlw (hown.lt k hk).1, (hown.lt k hk).2⟩
 have HBP := Lib.hid (block_later HB.out hx6)
 have HBK := Lib.hid hbk
 obtain ⟨R, hR⟩ : ∃ R, R = pageL p room (L.map DM.pd) next [] := ⟨_, rfl⟩
 have HR := Lib.hid hR
 have H80 := Lib.hid h80
 have H0 : Hid (PgR w0 w w6 bs (.slice pa p.length pc) p cnt room R w6.heap.size (.slice aL L.length cL) L (.slice none 0 0) 0) :=
  ⟨[], next, by rw [List.drop_zero]; exact hR.symm, hsp6, own_low hown hlw, own_none _ _ _ _, (fun _ h => by cases h), grown_extJ hxw, Nat.le_refl _, Nat.le_refl _⟩
 have HBS : Hid (bs < wb.heap.size ∧ w.heap.size < w6.heap.size) := ⟨(Array.getElem?_eq_some_iff.1 HS.out).1, Nat.lt_of_lt_of_le (Array.getElem?_eq_some_iff.1 HB.out).1 hx6.size⟩
 clear hsp6 hxw hlw hbk hR h80 hown hx6 HB HX HS
 go_loopw [9, 11] (fun ov iv wr => ∃ i : Nat, iv = .int .i64 i ∧ i ≤ L.length ∧ Hid (PgR w0 w wr bs (.slice pa p.length pc) p cnt room R w6.heap.size (.slice aL L.length cL) L ov i ∧ wr.heap[w.heap.size]? = some (.cells #[.int .u64 fr, .int .u64 en, .slice a1 items.length c1, .slice a2 gaps.length c2, .bool last] 34 (0, 0)))) (fun _ iv _ => L.length - (intOf iv).toNat)
 case atStart => exact ⟨0, rfl, Nat.zero_le _, H0.out, HBP.out⟩
 case round =>
  clear H0 HBP
  obtain ⟨i, rfl, hi, hst⟩ := hrel
  obtain ⟨⟨O, nk, hpl, hsp, hown, hout, hmem, hgr, hbs, hOi⟩, hpg⟩ := hst.out
  obtain ⟨ov, oc, rfl, _, _⟩ := own_shape hout
  clear hst
  have h80 : L.length ≤ 80 := H80.out
  by_cases h : i < L.length
  · have hI : decide ((i : Int) < (L.length : Int)) = true := decide_eq_true (by omega)
    obtain ⟨B, o, rfl, c0, c1, c2, c3, c4, c5⟩ := Row.atD (Row.of_own hown) h
    obtain ⟨d, hd⟩ : ∃ d, d = L[i] := ⟨_, rfl⟩
    rw [← hd] at c0 c1 c2 c3 c4 c5
    have hdm : d ∈ L := by rw [hd]; exact List.getElem_mem h
    have hdr : L.drop i = d :: L.drop (i + 1) := by rw [hd]; exact List.drop_eq_getElem_cons h
    rw [hdr, List.map_cons, pageL] at hpl
    obtain ⟨hx2, hb2⟩ := boxes1 wr (.cells #[.int .u64 d.n, .int .u64 d.t, .string (strOf d.key), .slice d.ha d.av.length d.hc, .int .u64 d.f, .int .u64 d.g] 104)
    have CMAY := Lib.hid (fun W => rmay_any W d)
    have CBG := Lib.hid (fun W => rbegins_any W d)
    have CNM := Lib.hid (fun W => rnumber_any W d)
    have hxB : Ext wB (wr.alloc (.cells #[.int .u64 d.n, .int .u64 d.t, .string (strOf d.key), .slice d.ha d.av.length d.hc, .int .u64 d.f, .int .u64 d.g] 104)) := (ext_but HBW.out hgr hBs).trans hx2
    have CMT : Hid (∀ W, Ext (wr.alloc (.cells #[.int .u64 d.n, .int .u64 d.t, .string (strOf d.key), .slice d.ha d.av.length d.hc, .int .u64 d.f, .int .u64 d.g] 104)) W → Calls Tryz.prog 57 #[.slice pa p.length pc, .agg #[.string (strOf d.key), .slice d.ha d.av.length d.hc]] W fun e w' => e = .returned (.bool (matchP p d.av)) ∧ Ext W w') := fun W hW =>
     rmatches_any W _ p d.key _ d.av (hsp.pr.ext ((hsp.hx.trans hx2).trans hW)) ((HAT.out d hdm).ext (hxB.trans hW))
    have HB2 := Lib.hid hb2
    have HPL := Lib.hid hpl
    have HSP2 := Lib.hid hsp
    have HSA : Hid (RsB _ bs _ nk 2 cnt) := block_later hsp.sp hx2
    have HO := Lib.hid (And.intro hown (And.intro hout (And.intro hmem (And.intro hgr (And.intro hbs (And.intro hOi hpg))))))
    have HX2 := Lib.hid hx2
    have HDM := Lib.hid hdm
    clear hd hdr hpl hsp hown hout hmem hgr hbs hpg hx2 hb2 hdm hxB
    obtain ⟨E, hE⟩ : ∃ E, E = wantsB p nk d.pd := ⟨_, rfl⟩
    have HE0 := Lib.hid hE
    obtain ⟨b, hb⟩ : ∃ b, b = d.pd.beg := ⟨_, rfl⟩
    obtain ⟨F, hF⟩ : ∃ F, F = mayD d.pd := ⟨_, rfl⟩
    obtain ⟨mm, hmm⟩ : ∃ mm, mm = matchP p d.av := ⟨_, rfl⟩
    have HE : Hid (E = (F && (decide (nk ≤ b) && (decide (d.n = 0) || mm)))) := by show _ = _; rw [hE, hb, hF, hmm]; rfl
    have HBB := Lib.hid hb
    rw [← hF] at CMAY
    rw [← hb] at CBG
    rw [← hmm] at CMT
    clear hE hb hF hmm
    have hbx : Hid (w.heap.size < wr.heap.size) := by have := HO.out.2.2.2.2.1; have := HBS.out; show _ < _; omega
    go_upto_region 9 with fail
    generalize hbxn : wr.heap.size = bx at *
    generalize hwan : wr.alloc (.cells #[.int .u64 d.n, .int .u64 d.t, .string (strOf d.key), .slice d.ha d.av.length d.hc, .int .u64 d.f, .int .u64 d.g] 104) = wa at *
    go_cut [67] from 39 to 67 (fun v wx => v = .bool (!E) ∧ Ext wa wx)
    case first =>
     clear hwan c0 c1 c2 c3 c4 c5
     cases F with
     | false =>
       have HEE : Hid (E = false) := by show _ = _; rw [HE.out]; rfl
       refine wp_region_facts [Fact.eq (.agg #[.int .u64 d.n, .int .u64 d.t, .string (strOf d.key), .slice d.ha d.av.length d.hc, .int .u64 d.f, .int .u64 d.g]),
        Fact.eq (.bool false),
        Fact.eq (.bool true),
        Fact.eq (.bool true),
        Fact.eq undef,
        Fact.eq undef,
        Fact.eq undef,
        Fact.eq undef,
        Fact.eq undef,
        Fact.eq undef,
        Fact.eq undef,
        Fact.eq (.bool true),
        Fact.eq (.bool true),
        Fact.eq undef,
        Fact.eq undef,
        Fact.eq undef,
        Fact.eq undef,
        Fact.eq undef,
        Fact.eq undef,
        Fact.eq undef,
        Fact.eq undef,
        Fact.eq undef,
        Fact.eq undef,
        Fact.eq undef,
        Fact.eq undef,
        Fact.eq undef,
        Fact.eq undef,
        Fact.eq undef,
        Fact.eq (.bool true)]
        [[], [(0, 39)], [(1, 40)], [(2, 41)], [(3, 42)], [(4, 43), (3, 42)], [(3, 42)], [(6, 45), (3, 42)], [(7, 46), (3, 42)], [(8, 47), (3, 42)], [(5, 44), (9, 48), (3, 42)], [(3, 42), (10, 49)], [(11, 50)], [(12, 51)], [(13, 52), (12, 51)], [(14, 53), (12, 51)], [(15, 54), (12, 51)], [(16, 55), (12, 51)], [(17, 56)], [(18, 57), (17, 56)], [(19, 58), (17, 56)], [(20, 59), (17, 56)], [(17, 56)], [(22, 61), (17, 56)], [(23, 62), (17, 56)], [(21, 60), (24, 63), (17, 56)], [(25, 64), (17, 56)], [(17, 56), (26, 65), (12, 51)], [(12, 51), (27, 66)]]
        [(0, 39), (1, 40), (2, 41), (3, 42), (4, 43), (5, 44), (6, 45), (7, 46), (8, 47), (9, 48), (10, 49), (11, 50), (12, 51), (13, 52), (14, 53), (15, 54), (16, 55), (17, 56), (18, 57), (19, 58), (20, 59), (21, 60), (22, 61), (23, 62), (24, 63), (25, 64), (26, 65), (27, 66), (28, 67)] (by kernel_rfl) (by kernel_rfl) ?_ ?_
       · refine ⟨?_, ?_, ?_, ?_, ?_, ?_, ?_, ?_, ?_, ?_, ?_, ?_, ?_, ?_, ?_, ?_, ?_, ?_, ?_, ?_, ?_, ?_, ?_, ?_, ?_, ?_, ?_, ?_, ?_, trivial⟩
         · intro w1 hx1; change wpList _ _ _ _ _ _; have m0 := cell_of_row _ _ 0 _ _ _ (block_later HB2.out hx1); have m1 := cell_of_row _ _ 1 _ _ _ (block_later HB2.out hx1); have m2 := cell_of_row _ _ 2 _ _ _ (block_later HB2.out hx1); have m3 := cell_of_row _ _ 3 _ _ _ (block_later HB2.out hx1); have m4 := cell_of_row _ _ 4 _ _ _ (block_later HB2.out hx1); have m5 := cell_of_row _ _ 5 _ _ _ (block_later HB2.out hx1); go_wp2_with fail; exact ⟨rfl, Ext.refl _, rfl, rfl⟩
         · rintro w1 hx1 _ rfl; change wpList _ _ _ _ _ _; go_wp2_with fail; refine (CMAY.out _).mono ?_; rintro e w2 ⟨rfl, hx2⟩; go_wp2_with fail; exact ⟨rfl, hx2, rfl, rfl⟩
         · rintro w1 hx1 _ rfl; change wpList _ _ _ _ _ _; go_wp2_with fail; exact ⟨rfl, Ext.refl _, rfl, rfl⟩
         · rintro w1 hx1 _ rfl; change wpList _ _ _ _ _ _; exact ob_move rfl rfl rfl rfl rfl
         · rintro w1 hx1 _ rfl; change wpList _ _ _ _ _ _; exact ob_skip rfl rfl rfl rfl
         · rintro w1 hx1 _ rfl _ rfl; change wpList _ _ _ _ _ _; exact ob_skip rfl rfl rfl rfl
         · rintro w1 hx1 _ rfl; change wpList _ _ _ _ _ _; exact ob_skip rfl rfl rfl rfl
         · rintro w1 hx1 _ rfl _ rfl; change wpList _ _ _ _ _ _; exact ob_skip rfl rfl rfl rfl
         · rintro w1 hx1 _ rfl _ rfl; change wpList _ _ _ _ _ _; exact ob_skip rfl rfl rfl rfl
         · rintro w1 hx1 _ rfl _ rfl; change wpList _ _ _ _ _ _; exact ob_skip rfl rfl rfl rfl
         · rintro w1 hx1 _ rfl _ rfl _ rfl; change wpList _ _ _ _ _ _; exact ob_skip rfl rfl rfl rfl
         · rintro w1 hx1 _ rfl _ rfl; change wpList _ _ _ _ _ _; exact ob_pick rfl rfl rfl rfl rfl rfl
         · rintro w1 hx1 _ rfl; change wpList _ _ _ _ _ _; exact ob_move rfl rfl rfl rfl rfl
         · rintro w1 hx1 _ rfl; change wpList _ _ _ _ _ _; exact ob_skip rfl rfl rfl rfl
         · rintro w1 hx1 _ rfl _ rfl; change wpList _ _ _ _ _ _; exact ob_skip rfl rfl rfl rfl
         · rintro w1 hx1 _ rfl _ rfl; change wpList _ _ _ _ _ _; exact ob_skip rfl rfl rfl rfl
         · rintro w1 hx1 _ rfl _ rfl; change wpList _ _ _ _ _ _; exact ob_skip rfl rfl rfl rfl
         · rintro w1 hx1 _ rfl _ rfl; change wpList _ _ _ _ _ _; exact ob_skip rfl rfl rfl rfl
         · rintro w1 hx1 _ rfl; change wpList _ _ _ _ _ _; exact ob_skip rfl rfl rfl rfl
         · rintro w1 hx1 _ rfl _ rfl; change wpList _ _ _ _ _ _; exact ob_skip rfl rfl rfl rfl
         · rintro w1 hx1 _ rfl _ rfl; change wpList _ _ _ _ _ _; exact ob_skip rfl rfl rfl rfl
         · rintro w1 hx1 _ rfl _ rfl; change wpList _ _ _ _ _ _; exact ob_skip rfl rfl rfl rfl
         · rintro w1 hx1 _ rfl; change wpList _ _ _ _ _ _; exact ob_skip rfl rfl rfl rfl
         · rintro w1 hx1 _ rfl _ rfl; change wpList _ _ _ _ _ _; exact ob_skip rfl rfl rfl rfl
         · rintro w1 hx1 _ rfl _ rfl; change wpList _ _ _ _ _ _; exact ob_skip rfl rfl rfl rfl
         · rintro w1 hx1 _ rfl _ rfl _ rfl; change wpList _ _ _ _ _ _; exact ob_skip rfl rfl rfl rfl
         · rintro w1 hx1 _ rfl _ rfl; change wpList _ _ _ _ _ _; exact ob_skip rfl rfl rfl rfl
         · rintro w1 hx1 _ rfl _ rfl _ rfl; change wpList _ _ _ _ _ _; exact ob_skip rfl rfl rfl rfl
         · rintro w1 hx1 _ rfl _ rfl; change wpList _ _ _ _ _ _; exact ob_pick rfl rfl rfl rfl rfl rfl
       · rintro w1 hx1 _ rfl _ rfl _ rfl _ rfl _ rfl _ rfl _ rfl _ rfl _ rfl _ rfl _ rfl _ rfl _ rfl _ rfl _ rfl _ rfl _ rfl _ rfl _ rfl _ rfl _ rfl _ rfl _ rfl _ rfl _ rfl _ rfl _ rfl _ rfl _ rfl; refine depsThen_nil ?_; dsimp only; simp only [Act.put, List.setIfInBounds_toArray, List.set_cons_zero, List.set_cons_succ]
         go_wp2_with fail
         go_meet
         exact ⟨by rw [HEE.out]; rfl, hx1⟩
     | true =>
       by_cases hle : nk ≤ b
       · have g1 : decide ((b : Int) < (nk : Int)) = false := decide_eq_false (by omega)
         have g1' : decide (b < nk) = false := decide_eq_false (by omega)
         have g1e : Hid (decide (nk ≤ b) = true) := decide_eq_true hle
         by_cases hn : d.n = 0
         · have g2 : ((d.n : Int) != 0) = false := by rw [hn]; rfl
           have g2' : (d.n != 0) = false := by rw [hn]; rfl
           have HEE : Hid (E = true) := by show _ = _; rw [HE.out]; rw [g1e.out, decide_eq_true hn]; rfl
           clear hn hle
           refine wp_region_facts [Fact.eq (.agg #[.int .u64 d.n, .int .u64 d.t, .string (strOf d.key), .slice d.ha d.av.length d.hc, .int .u64 d.f, .int .u64 d.g]),
            Fact.eq (.bool true),
            Fact.eq (.bool false),
            Fact.eq (.bool false),
            Fact.eq (.agg #[.int .u64 d.n, .int .u64 d.t, .string (strOf d.key), .slice d.ha d.av.length d.hc, .int .u64 d.f, .int .u64 d.g]),
            Fact.eq (.int .u64 (b : Nat)),
            Fact.eq (.pointer (some ⟨bs, 0, none⟩)),
            Fact.eq (.pointer (some ⟨bs, 0, none⟩)),
            Fact.eq (.pointer (some ⟨bs, 1, none⟩)),
            Fact.eq (.int .u64 (nk : Nat)),
            Fact.eq (.bool false),
            Fact.eq (.bool false),
            Fact.eq (.bool false),
            Fact.eq (.pointer (some ⟨bx, 0, none⟩)),
            Fact.eq (.pointer (some ⟨bx, 0, none⟩)),
            Fact.eq (.int .u64 d.n),
            Fact.eq (.bool false),
            Fact.eq (.bool false),
            Fact.eq undef,
            Fact.eq undef,
            Fact.eq undef,
            Fact.eq undef,
            Fact.eq undef,
            Fact.eq undef,
            Fact.eq undef,
            Fact.eq undef,
            Fact.eq undef,
            Fact.eq (.bool false),
            Fact.eq (.bool false)]
            [[], [(0, 39)], [(1, 40)], [(2, 41)], [(3, 42)], [(4, 43), (3, 42)], [(3, 42)], [(6, 45), (3, 42)], [(7, 46), (3, 42)], [(8, 47), (3, 42)], [(5, 44), (9, 48), (3, 42)], [(3, 42), (10, 49)], [(11, 50)], [(12, 51)], [(13, 52), (12, 51)], [(14, 53), (12, 51)], [(15, 54), (12, 51)], [(16, 55), (12, 51)], [(17, 56)], [(18, 57), (17, 56)], [(19, 58), (17, 56)], [(20, 59), (17, 56)], [(17, 56)], [(22, 61), (17, 56)], [(23, 62), (17, 56)], [(21, 60), (24, 63), (17, 56)], [(25, 64), (17, 56)], [(17, 56), (26, 65), (12, 51)], [(12, 51), (27, 66)]]
            [(0, 39), (1, 40), (2, 41), (3, 42), (4, 43), (5, 44), (6, 45), (7, 46), (8, 47), (9, 48), (10, 49), (11, 50), (12, 51), (13, 52), (14, 53), (15, 54), (16, 55), (17, 56), (18, 57), (19, 58), (20, 59), (21, 60), (22, 61), (23, 62), (24, 63), (25, 64), (26, 65), (27, 66), (28, 67)] (by kernel_rfl) (by kernel_rfl) ?_ ?_
           · refine ⟨?_, ?_, ?_, ?_, ?_, ?_, ?_, ?_, ?_, ?_, ?_, ?_, ?_, ?_, ?_, ?_, ?_, ?_, ?_, ?_, ?_, ?_, ?_, ?_, ?_, ?_, ?_, ?_, ?_, trivial⟩
             · intro w1 hx1; change wpList _ _ _ _ _ _; have m0 := cell_of_row _ _ 0 _ _ _ (block_later HB2.out hx1); have m1 := cell_of_row _ _ 1 _ _ _ (block_later HB2.out hx1); have m2 := cell_of_row _ _ 2 _ _ _ (block_later HB2.out hx1); have m3 := cell_of_row _ _ 3 _ _ _ (block_later HB2.out hx1); have m4 := cell_of_row _ _ 4 _ _ _ (block_later HB2.out hx1); have m5 := cell_of_row _ _ 5 _ _ _ (block_later HB2.out hx1); go_wp2_with fail; exact ⟨rfl, Ext.refl _, rfl, rfl⟩
             · rintro w1 hx1 _ rfl; change wpList _ _ _ _ _ _; go_wp2_with fail; refine (CMAY.out _).mono ?_; rintro e w2 ⟨rfl, hx2⟩; go_wp2_with fail; exact ⟨rfl, hx2, rfl, rfl⟩
             · rintro w1 hx1 _ rfl; change wpList _ _ _ _ _ _; go_wp2_with fail; exact ⟨rfl, Ext.refl _, rfl, rfl⟩
             · rintro w1 hx1 _ rfl; change wpList _ _ _ _ _ _; exact ob_move rfl rfl rfl rfl rfl
             · rintro w1 hx1 _ rfl; change wpList _ _ _ _ _ _; have m0 := cell_of_row _ _ 0 _ _ _ (block_later HB2.out hx1); have m1 := cell_of_row _ _ 1 _ _ _ (block_later HB2.out hx1); have m2 := cell_of_row _ _ 2 _ _ _ (block_later HB2.out hx1); have m3 := cell_of_row _ _ 3 _ _ _ (block_later HB2.out hx1); have m4 := cell_of_row _ _ 4 _ _ _ (block_later HB2.out hx1); have m5 := cell_of_row _ _ 5 _ _ _ (block_later HB2.out hx1); go_wp2_with fail; exact ⟨rfl, Ext.refl _, rfl, rfl⟩
             · rintro w1 hx1 _ rfl _ rfl; change wpList _ _ _ _ _ _; go_wp2_with fail; refine (CBG.out _).mono ?_; rintro e w2 ⟨rfl, hx2⟩; go_wp2_with fail; exact ⟨rfl, hx2, rfl, rfl⟩
             · rintro w1 hx1 _ rfl; change wpList _ _ _ _ _ _; exact ob_move rfl rfl rfl rfl rfl
             · rintro w1 hx1 _ rfl _ rfl; change wpList _ _ _ _ _ _; go_wp2_with fail; exact ⟨rfl, Ext.refl _, rfl, rfl⟩
             · rintro w1 hx1 _ rfl _ rfl; change wpList _ _ _ _ _ _; go_wp2_with fail; exact ⟨rfl, Ext.refl _, rfl, rfl⟩
             · rintro w1 hx1 _ rfl _ rfl; change wpList _ _ _ _ _ _; have m1 := cell_of_row _ _ 1 _ _ _ (block_later HSA.out hx1); go_wp2_with fail; exact ⟨rfl, Ext.refl _, rfl, rfl⟩
             · rintro w1 hx1 _ rfl _ rfl _ rfl; change wpList _ _ _ _ _ _; go_wp2_with fail; exact ⟨rfl, Ext.refl _, rfl, rfl⟩
             · rintro w1 hx1 _ rfl _ rfl; change wpList _ _ _ _ _ _; exact ob_pick rfl rfl rfl rfl rfl rfl
             · rintro w1 hx1 _ rfl; change wpList _ _ _ _ _ _; exact ob_move rfl rfl rfl rfl rfl
             · rintro w1 hx1 _ rfl; change wpList _ _ _ _ _ _; go_wp2_with fail; exact ⟨rfl, Ext.refl _, rfl, rfl⟩
             · rintro w1 hx1 _ rfl _ rfl; change wpList _ _ _ _ _ _; go_wp2_with fail; exact ⟨rfl, Ext.refl _, rfl, rfl⟩
             · rintro w1 hx1 _ rfl _ rfl; change wpList _ _ _ _ _ _; have m0 := cell_of_row _ _ 0 _ _ _ (block_later HB2.out hx1); go_wp2_with fail; exact ⟨rfl, Ext.refl _, rfl, rfl⟩
             · rintro w1 hx1 _ rfl _ rfl; change wpList _ _ _ _ _ _; go_wp2_with fail; exact ⟨rfl, Ext.refl _, rfl, rfl⟩
             · rintro w1 hx1 _ rfl _ rfl; change wpList _ _ _ _ _ _; exact ob_move rfl rfl rfl rfl rfl
             · rintro w1 hx1 _ rfl; change wpList _ _ _ _ _ _; exact ob_skip rfl rfl rfl rfl
             · rintro w1 hx1 _ rfl _ rfl; change wpList _ _ _ _ _ _; exact ob_skip rfl rfl rfl rfl
             · rintro w1 hx1 _ rfl _ rfl; change wpList _ _ _ _ _ _; exact ob_skip rfl rfl rfl rfl
             · rintro w1 hx1 _ rfl _ rfl; change wpList _ _ _ _ _ _; exact ob_skip rfl rfl rfl rfl
             · rintro w1 hx1 _ rfl; change wpList _ _ _ _ _ _; exact ob_skip rfl rfl rfl rfl
             · rintro w1 hx1 _ rfl _ rfl; change wpList _ _ _ _ _ _; exact ob_skip rfl rfl rfl rfl
             · rintro w1 hx1 _ rfl _ rfl; change wpList _ _ _ _ _ _; exact ob_skip rfl rfl rfl rfl
             · rintro w1 hx1 _ rfl _ rfl _ rfl; change wpList _ _ _ _ _ _; exact ob_skip rfl rfl rfl rfl
             · rintro w1 hx1 _ rfl _ rfl; change wpList _ _ _ _ _ _; exact ob_skip rfl rfl rfl rfl
             · rintro w1 hx1 _ rfl _ rfl _ rfl; change wpList _ _ _ _ _ _; exact ob_pick rfl rfl rfl rfl rfl rfl
             · rintro w1 hx1 _ rfl _ rfl; change wpList _ _ _ _ _ _; exact ob_pick rfl rfl rfl rfl rfl rfl
           · rintro w1 hx1 _ rfl _ rfl _ rfl _ rfl _ rfl _ rfl _ rfl _ rfl _ rfl _ rfl _ rfl _ rfl _ rfl _ rfl _ rfl _ rfl _ rfl _ rfl _ rfl _ rfl _ rfl _ rfl _ rfl _ rfl _ rfl _ rfl _ rfl _ rfl _ rfl; refine depsThen_nil ?_; dsimp only; simp only [Act.put, List.setIfInBounds_toArray, List.set_cons_zero, List.set_cons_succ]
             go_wp2_with fail
             go_meet
             exact ⟨by rw [HEE.out]; rfl, hx1⟩
         · have g2 : ((d.n : Int) != 0) = true := by simp; omega
           have g2' : (d.n != 0) = true := by simp; omega
           have g2e : Hid (decide (d.n = 0) = false) := decide_eq_false hn
           clear hn hle
           cases mm with
           | false =>
             have HEE : Hid (E = false) := by show _ = _; rw [HE.out]; rw [g1e.out, g2e.out]; rfl
             refine wp_region_facts [Fact.eq (.agg #[.int .u64 d.n, .int .u64 d.t, .string (strOf d.key), .slice d.ha d.av.length d.hc, .int .u64 d.f, .int .u64 d.g]),
              Fact.eq (.bool true),
              Fact.eq (.bool false),
              Fact.eq (.bool false),
              Fact.eq (.agg #[.int .u64 d.n, .int .u64 d.t, .string (strOf d.key), .slice d.ha d.av.length d.hc, .int .u64 d.f, .int .u64 d.g]),
              Fact.eq (.int .u64 (b : Nat)),
              Fact.eq (.pointer (some ⟨bs, 0, none⟩)),
              Fact.eq (.pointer (some ⟨bs, 0, none⟩)),
              Fact.eq (.pointer (some ⟨bs, 1, none⟩)),
              Fact.eq (.int .u64 (nk : Nat)),
              Fact.eq (.bool false),
              Fact.eq (.bool false),
              Fact.eq (.bool false),
              Fact.eq (.pointer (some ⟨bx, 0, none⟩)),
              Fact.eq (.pointer (some ⟨bx, 0, none⟩)),
              Fact.eq (.int .u64 d.n),
              Fact.eq (.bool true),
              Fact.eq (.bool true),
              Fact.eq (.pointer (some ⟨bs, 0, none⟩)),
              Fact.eq (.pointer (some ⟨bs, 0, none⟩)),
              Fact.eq (.pointer (some ⟨bs, 0, none⟩)),
              Fact.eq (.slice pa p.length pc),
              Fact.eq (.pointer (some ⟨bx, 0, none⟩)),
              Fact.eq (.pointer (some ⟨bx, 2, none⟩)),
              Fact.eq (.agg #[.string (strOf d.key), .slice d.ha d.av.length d.hc]),
              Fact.eq (.bool false),
              Fact.eq (.bool true),
              Fact.eq (.bool true),
              Fact.eq (.bool true)]
              [[], [(0, 39)], [(1, 40)], [(2, 41)], [(3, 42)], [(4, 43), (3, 42)], [(3, 42)], [(6, 45), (3, 42)], [(7, 46), (3, 42)], [(8, 47), (3, 42)], [(5, 44), (9, 48), (3, 42)], [(3, 42), (10, 49)], [(11, 50)], [(12, 51)], [(13, 52), (12, 51)], [(14, 53), (12, 51)], [(15, 54), (12, 51)], [(16, 55), (12, 51)], [(17, 56)], [(18, 57), (17, 56)], [(19, 58), (17, 56)], [(20, 59), (17, 56)], [(17, 56)], [(22, 61), (17, 56)], [(23, 62), (17, 56)], [(21, 60), (24, 63), (17, 56)], [(25, 64), (17, 56)], [(17, 56), (26, 65), (12, 51)], [(12, 51), (27, 66)]]
              [(0, 39), (1, 40), (2, 41), (3, 42), (4, 43), (5, 44), (6, 45), (7, 46), (8, 47), (9, 48), (10, 49), (11, 50), (12, 51), (13, 52), (14, 53), (15, 54), (16, 55), (17, 56), (18, 57), (19, 58), (20, 59), (21, 60), (22, 61), (23, 62), (24, 63), (25, 64), (26, 65), (27, 66), (28, 67)] (by kernel_rfl) (by kernel_rfl) ?_ ?_
             · refine ⟨?_, ?_, ?_, ?_, ?_, ?_, ?_, ?_, ?_, ?_, ?_, ?_, ?_, ?_, ?_, ?_, ?_, ?_, ?_, ?_, ?_, ?_, ?_, ?_, ?_, ?_, ?_, ?_, ?_, trivial⟩
               · intro w1 hx1; change wpList _ _ _ _ _ _; have m0 := cell_of_row _ _ 0 _ _ _ (block_later HB2.out hx1); have m1 := cell_of_row _ _ 1 _ _ _ (block_later HB2.out hx1); have m2 := cell_of_row _ _ 2 _ _ _ (block_later HB2.out hx1); have m3 := cell_of_row _ _ 3 _ _ _ (block_later HB2.out hx1); have m4 := cell_of_row _ _ 4 _ _ _ (block_later HB2.out hx1); have m5 := cell_of_row _ _ 5 _ _ _ (block_later HB2.out hx1); go_wp2_with fail; exact ⟨rfl, Ext.refl _, rfl, rfl⟩
               · rintro w1 hx1 _ rfl; change wpList _ _ _ _ _ _; go_wp2_with fail; refine (CMAY.out _).mono ?_; rintro e w2 ⟨rfl, hx2⟩; go_wp2_with fail; exact ⟨rfl, hx2, rfl, rfl⟩
               · rintro w1 hx1 _ rfl; change wpList _ _ _ _ _ _; go_wp2_with fail; exact ⟨rfl, Ext.refl _, rfl, rfl⟩
               · rintro w1 hx1 _ rfl; change wpList _ _ _ _ _ _; exact ob_move rfl rfl rfl rfl rfl
               · rintro w1 hx1 _ rfl; change wpList _ _ _ _ _ _; have m0 := cell_of_row _ _ 0 _ _ _ (block_later HB2.out hx1); have m1 := cell_of_row _ _ 1 _ _ _ (block_later HB2.out hx1); have m2 := cell_of_row _ _ 2 _ _ _ (block_later HB2.out hx1); have m3 := cell_of_row _ _ 3 _ _ _ (block_later HB2.out hx1); have m4 := cell_of_row _ _ 4 _ _ _ (block_later HB2.out hx1); have m5 := cell_of_row _ _ 5 _ _ _ (block_later HB2.out hx1); go_wp2_with fail; exact ⟨rfl, Ext.refl _, rfl, rfl⟩
               · rintro w1 hx1 _ rfl _ rfl; change wpList _ _ _ _ _ _; go_wp2_with fail; refine (CBG.out _).mono ?_; rintro e w2 ⟨rfl, hx2⟩; go_wp2_with fail; exact ⟨rfl, hx2, rfl, rfl⟩
               · rintro w1 hx1 _ rfl; change wpList _ _ _ _ _ _; exact ob_move rfl rfl rfl rfl rfl
               · rintro w1 hx1 _ rfl _ rfl; change wpList _ _ _ _ _ _; go_wp2_with fail; exact ⟨rfl, Ext.refl _, rfl, rfl⟩
               · rintro w1 hx1 _ rfl _ rfl; change wpList _ _ _ _ _ _; go_wp2_with fail; exact ⟨rfl, Ext.refl _, rfl, rfl⟩
               · rintro w1 hx1 _ rfl _ rfl; change wpList _ _ _ _ _ _; have m1 := cell_of_row _ _ 1 _ _ _ (block_later HSA.out hx1); go_wp2_with fail; exact ⟨rfl, Ext.refl _, rfl, rfl⟩
               · rintro w1 hx1 _ rfl _ rfl _ rfl; change wpList _ _ _ _ _ _; go_wp2_with fail; exact ⟨rfl, Ext.refl _, rfl, rfl⟩
               · rintro w1 hx1 _ rfl _ rfl; change wpList _ _ _ _ _ _; exact ob_pick rfl rfl rfl rfl rfl rfl
               · rintro w1 hx1 _ rfl; change wpList _ _ _ _ _ _; exact ob_move rfl rfl rfl rfl rfl
               · rintro w1 hx1 _ rfl; change wpList _ _ _ _ _ _; go_wp2_with fail; exact ⟨rfl, Ext.refl _, rfl, rfl⟩
               · rintro w1 hx1 _ rfl _ rfl; change wpList _ _ _ _ _ _; go_wp2_with fail; exact ⟨rfl, Ext.refl _, rfl, rfl⟩
               · rintro w1 hx1 _ rfl _ rfl; change wpList _ _ _ _ _ _; have m0 := cell_of_row _ _ 0 _ _ _ (block_later HB2.out hx1); go_wp2_with fail; exact ⟨rfl, Ext.refl _, rfl, rfl⟩
               · rintro w1 hx1 _ rfl _ rfl; change wpList _ _ _ _ _ _; go_wp2_with fail; exact ⟨rfl, Ext.refl _, rfl, rfl⟩
               · rintro w1 hx1 _ rfl _ rfl; change wpList _ _ _ _ _ _; exact ob_move rfl rfl rfl rfl rfl
               · rintro w1 hx1 _ rfl; change wpList _ _ _ _ _ _; exact ob_move rfl rfl rfl rfl rfl
               · rintro w1 hx1 _ rfl _ rfl; change wpList _ _ _ _ _ _; go_wp2_with fail; exact ⟨rfl, Ext.refl _, rfl, rfl⟩
               · rintro w1 hx1 _ rfl _ rfl; change wpList _ _ _ _ _ _; go_wp2_with fail; exact ⟨rfl, Ext.refl _, rfl, rfl⟩
               · rintro w1 hx1 _ rfl _ rfl; change wpList _ _ _ _ _ _; have m0 := cell_of_row _ _ 0 _ _ _ (block_later HSA.out hx1); go_wp2_with fail; exact ⟨rfl, Ext.refl _, rfl, rfl⟩
               · rintro w1 hx1 _ rfl; change wpList _ _ _ _ _ _; go_wp2_with fail; exact ⟨rfl, Ext.refl _, rfl, rfl⟩
               · rintro w1 hx1 _ rfl _ rfl; change wpList _ _ _ _ _ _; go_wp2_with fail; exact ⟨rfl, Ext.refl _, rfl, rfl⟩
               · rintro w1 hx1 _ rfl _ rfl; change wpList _ _ _ _ _ _; have m2 := cell_of_row _ _ 2 _ _ _ (block_later HB2.out hx1); have m3 := cell_of_row _ _ 3 _ _ _ (block_later HB2.out hx1); go_wp2_with fail; exact ⟨rfl, Ext.refl _, rfl, rfl⟩
               · rintro w1 hx1 _ rfl _ rfl _ rfl; change wpList _ _ _ _ _ _; go_wp2_with fail; refine (CMT.out _ hx1).mono ?_; rintro e w2 ⟨rfl, hx2⟩; go_wp2_with fail; exact ⟨rfl, hx2, rfl, rfl⟩
               · rintro w1 hx1 _ rfl _ rfl; change wpList _ _ _ _ _ _; go_wp2_with fail; exact ⟨rfl, Ext.refl _, rfl, rfl⟩
               · rintro w1 hx1 _ rfl _ rfl _ rfl; change wpList _ _ _ _ _ _; exact ob_pick rfl rfl rfl rfl rfl rfl
               · rintro w1 hx1 _ rfl _ rfl; change wpList _ _ _ _ _ _; exact ob_pick rfl rfl rfl rfl rfl rfl
             · rintro w1 hx1 _ rfl _ rfl _ rfl _ rfl _ rfl _ rfl _ rfl _ rfl _ rfl _ rfl _ rfl _ rfl _ rfl _ rfl _ rfl _ rfl _ rfl _ rfl _ rfl _ rfl _ rfl _ rfl _ rfl _ rfl _ rfl _ rfl _ rfl _ rfl _ rfl; refine depsThen_nil ?_; dsimp only; simp only [Act.put, List.setIfInBounds_toArray, List.set_cons_zero, List.set_cons_succ]
               go_wp2_with fail
               go_meet
               exact ⟨by rw [HEE.out]; rfl, hx1⟩
           | true =>
             have HEE : Hid (E = true) := by show _ = _; rw [HE.out]; rw [g1e.out, g2e.out]; rfl
             refine wp_region_facts [Fact.eq (.agg #[.int .u64 d.n, .int .u64 d.t, .string (strOf d.key), .slice d.ha d.av.length d.hc, .int .u64 d.f, .int .u64 d.g]),
              Fact.eq (.bool true),
              Fact.eq (.bool false),
              Fact.eq (.bool false),
              Fact.eq (.agg #[.int .u64 d.n, .int .u64 d.t, .string (strOf d.key), .slice d.ha d.av.length d.hc, .int .u64 d.f, .int .u64 d.g]),
              Fact.eq (.int .u64 (b : Nat)),
              Fact.eq (.pointer (some ⟨bs, 0, none⟩)),
              Fact.eq (.pointer (some ⟨bs, 0, none⟩)),
              Fact.eq (.pointer (some ⟨bs, 1, none⟩)),
              Fact.eq (.int .u64 (nk : Nat)),
              Fact.eq (.bool false),
              Fact.eq (.bool false),
              Fact.eq (.bool false),
              Fact.eq (.pointer (some ⟨bx, 0, none⟩)),
              Fact.eq (.pointer (some ⟨bx, 0, none⟩)),
              Fact.eq (.int .u64 d.n),
              Fact.eq (.bool true),
              Fact.eq (.bool true),
              Fact.eq (.pointer (some ⟨bs, 0, none⟩)),
              Fact.eq (.pointer (some ⟨bs, 0, none⟩)),
              Fact.eq (.pointer (some ⟨bs, 0, none⟩)),
              Fact.eq (.slice pa p.length pc),
              Fact.eq (.pointer (some ⟨bx, 0, none⟩)),
              Fact.eq (.pointer (some ⟨bx, 2, none⟩)),
              Fact.eq (.agg #[.string (strOf d.key), .slice d.ha d.av.length d.hc]),
              Fact.eq (.bool true),
              Fact.eq (.bool false),
              Fact.eq (.bool false),
              Fact.eq (.bool false)]
              [[], [(0, 39)], [(1, 40)], [(2, 41)], [(3, 42)], [(4, 43), (3, 42)], [(3, 42)], [(6, 45), (3, 42)], [(7, 46), (3, 42)], [(8, 47), (3, 42)], [(5, 44), (9, 48), (3, 42)], [(3, 42), (10, 49)], [(11, 50)], [(12, 51)], [(13, 52), (12, 51)], [(14, 53), (12, 51)], [(15, 54), (12, 51)], [(16, 55), (12, 51)], [(17, 56)], [(18, 57), (17, 56)], [(19, 58), (17, 56)], [(20, 59), (17, 56)], [(17, 56)], [(22, 61), (17, 56)], [(23, 62), (17, 56)], [(21, 60), (24, 63), (17, 56)], [(25, 64), (17, 56)], [(17, 56), (26, 65), (12, 51)], [(12, 51), (27, 66)]]
              [(0, 39), (1, 40), (2, 41), (3, 42), (4, 43), (5, 44), (6, 45), (7, 46), (8, 47), (9, 48), (10, 49), (11, 50), (12, 51), (13, 52), (14, 53), (15, 54), (16, 55), (17, 56), (18, 57), (19, 58), (20, 59), (21, 60), (22, 61), (23, 62), (24, 63), (25, 64), (26, 65), (27, 66), (28, 67)] (by kernel_rfl) (by kernel_rfl) ?_ ?_
             · refine ⟨?_, ?_, ?_, ?_, ?_, ?_, ?_, ?_, ?_, ?_, ?_, ?_, ?_, ?_, ?_, ?_, ?_, ?_, ?_, ?_, ?_, ?_, ?_, ?_, ?_, ?_, ?_, ?_, ?_, trivial⟩
               · intro w1 hx1; change wpList _ _ _ _ _ _; have m0 := cell_of_row _ _ 0 _ _ _ (block_later HB2.out hx1); have m1 := cell_of_row _ _ 1 _ _ _ (block_later HB2.out hx1); have m2 := cell_of_row _ _ 2 _ _ _ (block_later HB2.out hx1); have m3 := cell_of_row _ _ 3 _ _ _ (block_later HB2.out hx1); have m4 := cell_of_row _ _ 4 _ _ _ (block_later HB2.out hx1); have m5 := cell_of_row _ _ 5 _ _ _ (block_later HB2.out hx1); go_wp2_with fail; exact ⟨rfl, Ext.refl _, rfl, rfl⟩
               · rintro w1 hx1 _ rfl; change wpList _ _ _ _ _ _; go_wp2_with fail; refine (CMAY.out _).mono ?_; rintro e w2 ⟨rfl, hx2⟩; go_wp2_with fail; exact ⟨rfl, hx2, rfl, rfl⟩
               · rintro w1 hx1 _ rfl; change wpList _ _ _ _ _ _; go_wp2_with fail; exact ⟨rfl, Ext.refl _, rfl, rfl⟩
               · rintro w1 hx1 _ rfl; change wpList _ _ _ _ _ _; exact ob_move rfl rfl rfl rfl rfl
               · rintro w1 hx1 _ rfl; change wpList _ _ _ _ _ _; have m0 := cell_of_row _ _ 0 _ _ _ (block_later HB2.out hx1); have m1 := cell_of_row _ _ 1 _ _ _ (block_later HB2.out hx1); have m2 := cell_of_row _ _ 2 _ _ _ (block_later HB2.out hx1); have m3 := cell_of_row _ _ 3 _ _ _ (block_later HB2.out hx1); have m4 := cell_of_row _ _ 4 _ _ _ (block_later HB2.out hx1); have m5 := cell_of_row _ _ 5 _ _ _ (block_later HB2.out hx1); go_wp2_with fail; exact ⟨rfl, Ext.refl _, rfl, rfl⟩
               · rintro w1 hx1 _ rfl _ rfl; change wpList _ _ _ _ _ _; go_wp2_with fail; refine (CBG.out _).mono ?_; rintro e w2 ⟨rfl, hx2⟩; go_wp2_with fail; exact ⟨rfl, hx2, rfl, rfl⟩
               · rintro w1 hx1 _ rfl; change wpList _ _ _ _ _ _; exact ob_move rfl rfl rfl rfl rfl
               · rintro w1 hx1 _ rfl _ rfl; change wpList _ _ _ _ _ _; go_wp2_with fail; exact ⟨rfl, Ext.refl _, rfl, rfl⟩
               · rintro w1 hx1 _ rfl _ rfl; change wpList _ _ _ _ _ _; go_wp2_with fail; exact ⟨rfl, Ext.refl _, rfl, rfl⟩
               · rintro w1 hx1 _ rfl _ rfl; change wpList _ _ _ _ _ _; have m1 := cell_of_row _ _ 1 _ _ _ (block_later HSA.out hx1); go_wp2_with fail; exact ⟨rfl, Ext.refl _, rfl, rfl⟩
               · rintro w1 hx1 _ rfl _ rfl _ rfl; change wpList _ _ _ _ _ _; go_wp2_with fail; exact ⟨rfl, Ext.refl _, rfl, rfl⟩
               · rintro w1 hx1 _ rfl _ rfl; change wpList _ _ _ _ _ _; exact ob_pick rfl rfl rfl rfl rfl rfl
               · rintro w1 hx1 _ rfl; change wpList _ _ _ _ _ _; exact ob_move rfl rfl rfl rfl rfl
               · rintro w1 hx1 _ rfl; change wpList _ _ _ _ _ _; go_wp2_with fail; exact ⟨rfl, Ext.refl _, rfl, rfl⟩
               · rintro w1 hx1 _ rfl _ rfl; change wpList _ _ _ _ _ _; go_wp2_with fail; exact ⟨rfl, Ext.refl _, rfl, rfl⟩
               · rintro w1 hx1 _ rfl _ rfl; change wpList _ _ _ _ _ _; have m0 := cell_of_row _ _ 0 _ _ _ (block_later HB2.out hx1); go_wp2_with fail; exact ⟨rfl, Ext.refl _, rfl, rfl⟩
               · rintro w1 hx1 _ rfl _ rfl; change wpList _ _ _ _ _ _; go_wp2_with fail; exact ⟨rfl, Ext.refl _, rfl, rfl⟩
               · rintro w1 hx1 _ rfl _ rfl; change wpList _ _ _ _ _ _; exact ob_move rfl rfl rfl rfl rfl
               · rintro w1 hx1 _ rfl; change wpList _ _ _ _ _ _; exact ob_move rfl rfl rfl rfl rfl
               · rintro w1 hx1 _ rfl _ rfl; change wpList _ _ _ _ _ _; go_wp2_with fail; exact ⟨rfl, Ext.refl _, rfl, rfl⟩
               · rintro w1 hx1 _ rfl _ rfl; change wpList _ _ _ _ _ _; go_wp2_with fail; exact ⟨rfl, Ext.refl _, rfl, rfl⟩
               · rintro w1 hx1 _ rfl _ rfl; change wpList _ _ _ _ _ _; have m0 := cell_of_row _ _ 0 _ _ _ (block_later HSA.out hx1); go_wp2_with fail; exact ⟨rfl, Ext.refl _, rfl, rfl⟩
               · rintro w1 hx1 _ rfl; change wpList _ _ _ _ _ _; go_wp2_with fail; exact ⟨rfl, Ext.refl _, rfl, rfl⟩
               · rintro w1 hx1 _ rfl _ rfl; change wpList _ _ _ _ _ _; go_wp2_with fail; exact ⟨rfl, Ext.refl _, rfl, rfl⟩
               · rintro w1 hx1 _ rfl _ rfl; change wpList _ _ _ _ _ _; have m2 := cell_of_row _ _ 2 _ _ _ (block_later HB2.out hx1); have m3 := cell_of_row _ _ 3 _ _ _ (block_later HB2.out hx1); go_wp2_with fail; exact ⟨rfl, Ext.refl _, rfl, rfl⟩
               · rintro w1 hx1 _ rfl _ rfl _ rfl; change wpList _ _ _ _ _ _; go_wp2_with fail; refine (CMT.out _ hx1).mono ?_; rintro e w2 ⟨rfl, hx2⟩; go_wp2_with fail; exact ⟨rfl, hx2, rfl, rfl⟩
               · rintro w1 hx1 _ rfl _ rfl; change wpList _ _ _ _ _ _; go_wp2_with fail; exact ⟨rfl, Ext.refl _, rfl, rfl⟩
               · rintro w1 hx1 _ rfl _ rfl _ rfl; change wpList _ _ _ _ _ _; exact ob_pick rfl rfl rfl rfl rfl rfl
               · rintro w1 hx1 _ rfl _ rfl; change wpList _ _ _ _ _ _; exact ob_pick rfl rfl rfl rfl rfl rfl
             · rintro w1 hx1 _ rfl _ rfl _ rfl _ rfl _ rfl _ rfl _ rfl _ rfl _ rfl _ rfl _ rfl _ rfl _ rfl _ rfl _ rfl _ rfl _ rfl _ rfl _ rfl _ rfl _ rfl _ rfl _ rfl _ rfl _ rfl _ rfl _ rfl _ rfl _ rfl; refine depsThen_nil ?_; dsimp only; simp only [Act.put, List.setIfInBounds_toArray, List.set_cons_zero, List.set_cons_succ]
               go_wp2_with fail
               go_meet
               exact ⟨by rw [HEE.out]; rfl, hx1⟩
       · have g1 : decide ((b : Int) < (nk : Int)) = true := decide_eq_true (by omega)
         have g1' : decide (b < nk) = true := decide_eq_true (by omega)
         have HEE : Hid (E = false) := by show _ = _; rw [HE.out]; rw [decide_eq_false hle]; rfl
         clear hle
         refine wp_region_facts [Fact.eq (.agg #[.int .u64 d.n, .int .u64 d.t, .string (strOf d.key), .slice d.ha d.av.length d.hc, .int .u64 d.f, .int .u64 d.g]),
          Fact.eq (.bool true),
          Fact.eq (.bool false),
          Fact.eq (.bool false),
          Fact.eq (.agg #[.int .u64 d.n, .int .u64 d.t, .string (strOf d.key), .slice d.ha d.av.length d.hc, .int .u64 d.f, .int .u64 d.g]),
          Fact.eq (.int .u64 (b : Nat)),
          Fact.eq (.pointer (some ⟨bs, 0, none⟩)),
          Fact.eq (.pointer (some ⟨bs, 0, none⟩)),
          Fact.eq (.pointer (some ⟨bs, 1, none⟩)),
          Fact.eq (.int .u64 (nk : Nat)),
          Fact.eq (.bool true),
          Fact.eq (.bool true),
          Fact.eq (.bool true),
          Fact.eq undef,
          Fact.eq undef,
          Fact.eq undef,
          Fact.eq undef,
          Fact.eq undef,
          Fact.eq undef,
          Fact.eq undef,
          Fact.eq undef,
          Fact.eq undef,
          Fact.eq undef,
          Fact.eq undef,
          Fact.eq undef,
          Fact.eq undef,
          Fact.eq undef,
          Fact.eq undef,
          Fact.eq (.bool true)]
          [[], [(0, 39)], [(1, 40)], [(2, 41)], [(3, 42)], [(4, 43), (3, 42)], [(3, 42)], [(6, 45), (3, 42)], [(7, 46), (3, 42)], [(8, 47), (3, 42)], [(5, 44), (9, 48), (3, 42)], [(3, 42), (10, 49)], [(11, 50)], [(12, 51)], [(13, 52), (12, 51)], [(14, 53), (12, 51)], [(15, 54), (12, 51)], [(16, 55), (12, 51)], [(17, 56)], [(18, 57), (17, 56)], [(19, 58), (17, 56)], [(20, 59), (17, 56)], [(17, 56)], [(22, 61), (17, 56)], [(23, 62), (17, 56)], [(21, 60), (24, 63), (17, 56)], [(25, 64), (17, 56)], [(17, 56), (26, 65), (12, 51)], [(12, 51), (27, 66)]]
          [(0, 39), (1, 40), (2, 41), (3, 42), (4, 43), (5, 44), (6, 45), (7, 46), (8, 47), (9, 48), (10, 49), (11, 50), (12, 51), (13, 52), (14, 53), (15, 54), (16, 55), (17, 56), (18, 57), (19, 58), (20, 59), (21, 60), (22, 61), (23, 62), (24, 63), (25, 64), (26, 65), (27, 66), (28, 67)] (by kernel_rfl) (by kernel_rfl) ?_ ?_
         · refine ⟨?_, ?_, ?_, ?_, ?_, ?_, ?_, ?_, ?_, ?_, ?_, ?_, ?_, ?_, ?_, ?_, ?_, ?_, ?_, ?_, ?_, ?_, ?_, ?_, ?_, ?_, ?_, ?_, ?_, trivial⟩
           · intro w1 hx1; change wpList _ _ _ _ _ _; have m0 := cell_of_row _ _ 0 _ _ _ (block_later HB2.out hx1); have m1 := cell_of_row _ _ 1 _ _ _ (block_later HB2.out hx1); have m2 := cell_of_row _ _ 2 _ _ _ (block_later HB2.out hx1); have m3 := cell_of_row _ _ 3 _ _ _ (block_later HB2.out hx1); have m4 := cell_of_row _ _ 4 _ _ _ (block_later HB2.out hx1); have m5 := cell_of_row _ _ 5 _ _ _ (block_later HB2.out hx1); go_wp2_with fail; exact ⟨rfl, Ext.refl _, rfl, rfl⟩
           · rintro w1 hx1 _ rfl; change wpList _ _ _ _ _ _; go_wp2_with fail; refine (CMAY.out _).mono ?_; rintro e w2 ⟨rfl, hx2⟩; go_wp2_with fail; exact ⟨rfl, hx2, rfl, rfl⟩
           · rintro w1 hx1 _ rfl; change wpList _ _ _ _ _ _; go_wp2_with fail; exact ⟨rfl, Ext.refl _, rfl, rfl⟩
           · rintro w1 hx1 _ rfl; change wpList _ _ _ _ _ _; exact ob_move rfl rfl rfl rfl rfl
           · rintro w1 hx1 _ rfl; change wpList _ _ _ _ _ _; have m0 := cell_of_row _ _ 0 _ _ _ (block_later HB2.out hx1); have m1 := cell_of_row _ _ 1 _ _ _ (block_later HB2.out hx1); have m2 := cell_of_row _ _ 2 _ _ _ (block_later HB2.out hx1); have m3 := cell_of_row _ _ 3 _ _ _ (block_later HB2.out hx1); have m4 := cell_of_row _ _ 4 _ _ _ (block_later HB2.out hx1); have m5 := cell_of_row _ _ 5 _ _ _ (block_later HB2.out hx1); go_wp2_with fail; exact ⟨rfl, Ext.refl _, rfl, rfl⟩
           · rintro w1 hx1 _ rfl _ rfl; change wpList _ _ _ _ _ _; go_wp2_with fail; refine (CBG.out _).mono ?_; rintro e w2 ⟨rfl, hx2⟩; go_wp2_with fail; exact ⟨rfl, hx2, rfl, rfl⟩
           · rintro w1 hx1 _ rfl; change wpList _ _ _ _ _ _; exact ob_move rfl rfl rfl rfl rfl
           · rintro w1 hx1 _ rfl _ rfl; change wpList _ _ _ _ _ _; go_wp2_with fail; exact ⟨rfl, Ext.refl _, rfl, rfl⟩
           · rintro w1 hx1 _ rfl _ rfl; change wpList _ _ _ _ _ _; go_wp2_with fail; exact ⟨rfl, Ext.refl _, rfl, rfl⟩
           · rintro w1 hx1 _ rfl _ rfl; change wpList _ _ _ _ _ _; have m1 := cell_of_row _ _ 1 _ _ _ (block_later HSA.out hx1); go_wp2_with fail; exact ⟨rfl, Ext.refl _, rfl, rfl⟩
           · rintro w1 hx1 _ rfl _ rfl _ rfl; change wpList _ _ _ _ _ _; go_wp2_with fail; exact ⟨rfl, Ext.refl _, rfl, rfl⟩
           · rintro w1 hx1 _ rfl _ rfl; change wpList _ _ _ _ _ _; exact ob_pick rfl rfl rfl rfl rfl rfl
           · rintro w1 hx1 _ rfl; change wpList _ _ _ _ _ _; exact ob_move rfl rfl rfl rfl rfl
           · rintro w1 hx1 _ rfl; change wpList _ _ _ _ _ _; exact ob_skip rfl rfl rfl rfl
           · rintro w1 hx1 _ rfl _ rfl; change wpList _ _ _ _ _ _; exact ob_skip rfl rfl rfl rfl
           · rintro w1 hx1 _ rfl _ rfl; change wpList _ _ _ _ _ _; exact ob_skip rfl rfl rfl rfl
           · rintro w1 hx1 _ rfl _ rfl; change wpList _ _ _ _ _ _; exact ob_skip rfl rfl rfl rfl
           · rintro w1 hx1 _ rfl _ rfl; change wpList _ _ _ _ _ _; exact ob_skip rfl rfl rfl rfl
           · rintro w1 hx1 _ rfl; change wpList _ _ _ _ _ _; exact ob_skip rfl rfl rfl rfl
           · rintro w1 hx1 _ rfl _ rfl; change wpList _ _ _ _ _ _; exact ob_skip rfl rfl rfl rfl
           · rintro w1 hx1 _ rfl _ rfl; change wpList _ _ _ _ _ _; exact ob_skip rfl rfl rfl rfl
           · rintro w1 hx1 _ rfl _ rfl; change wpList _ _ _ _ _ _; exact ob_skip rfl rfl rfl rfl
           · rintro w1 hx1 _ rfl; change wpList _ _ _ _ _ _; exact ob_skip rfl rfl rfl rfl
           · rintro w1 hx1 _ rfl _ rfl; change wpList _ _ _ _ _ _; exact ob_skip rfl rfl rfl rfl
           · rintro w1 hx1 _ rfl _ rfl; change wpList _ _ _ _ _ _; exact ob_skip rfl rfl rfl rfl
           · rintro w1 hx1 _ rfl _ rfl _ rfl; change wpList _ _ _ _ _ _; exact ob_skip rfl rfl rfl rfl
           · rintro w1 hx1 _ rfl _ rfl; change wpList _ _ _ _ _ _; exact ob_skip rfl rfl rfl rfl
           · rintro w1 hx1 _ rfl _ rfl _ rfl; change wpList _ _ _ _ _ _; exact ob_skip rfl rfl rfl rfl
           · rintro w1 hx1 _ rfl _ rfl; change wpList _ _ _ _ _ _; exact ob_pick rfl rfl rfl rfl rfl rfl
         · rintro w1 hx1 _ rfl _ rfl _ rfl _ rfl _ rfl _ rfl _ rfl _ rfl _ rfl _ rfl _ rfl _ rfl _ rfl _ rfl _ rfl _ rfl _ rfl _ rfl _ rfl _ rfl _ rfl _ rfl _ rfl _ rfl _ rfl _ rfl _ rfl _ rfl _ rfl; refine depsThen_nil ?_; dsimp only; simp only [Act.put, List.setIfInBounds_toArray, List.set_cons_zero, List.set_cons_succ]
           go_wp2_with fail
           go_meet
           exact ⟨by rw [HEE.out]; rfl, hx1⟩
    case rest =>
     obtain ⟨rfl, hx3⟩ := hcut
     have HX3 := Lib.hid hx3
     subst hbxn
     clear hx3 hwan CMAY CMT HE c0 c1 c2 c3 c4 c5
     cases E with
     | false =>
       go_wp2_with fail
       go_roundw
       case rel =>
        obtain ⟨hown, hout, hmem, hgr, hbs, hOi, hpg⟩ := HO.out
        have hxx := HX2.out.trans HX3.out
        have hpl := HPL.out
        rw [← HE0.out, if_neg (by decide)] at hpl
        have hsp := HSP2.out
        exact ⟨i + 1, by go_num, h, ⟨O, nk, hpl, ⟨block_later hsp.sp hxx, hsp.old, hsp.pr, hsp.hx.trans hxx⟩, own_ext hown hxx, own_ext hout hxx, hmem, grown_ext hgr hxx, Nat.le_trans hbs hxx.size, by omega⟩, block_later hpg hxx⟩
       case measure => simp [intOf]; omega
     | true =>
       have hplT : Hid ((if room ≤ ((O.map DM.pd).length : Int) then (O.map DM.pd, d.pd.beg, true) else pageL p room ((L.drop (i + 1)).map DM.pd) (d.pd.num + 1) (O.map DM.pd ++ [d.pd])) = R) := by
        have := HPL.out
        rw [← HE0.out, if_pos rfl] at this
        exact this
       have hnum : d.pd.num ≤ 1099511627776 := by
        have := HE0.out
        unfold wantsB mayD at this
        have h2 := this.symm
        simp only [Bool.and_eq_true, decide_eq_true_eq] at h2
        exact h2.1.2.2
       clear HPL HE0
       rw [List.length_map] at hplT
       have hxx := HX2.out.trans HX3.out
       have hsp3 : RsB wc bs _ nk 2 cnt := block_later HSP2.out.sp hxx
       have hb3 := block_later HB2.out HX3.out
       have c0 := cell_of_row _ _ 0 _ _ _ hb3
       have c1 := cell_of_row _ _ 1 _ _ _ hb3
       have c2 := cell_of_row _ _ 2 _ _ _ hb3
       have c3 := cell_of_row _ _ 3 _ _ _ hb3
       have c4 := cell_of_row _ _ 4 _ _ _ hb3
       have c5 := cell_of_row _ _ 5 _ _ _ hb3
       by_cases hrm : room ≤ (O.length : Int)
       · have dI : decide ((O.length : Int) ≥ room) = true := decide_eq_true hrm
         have dI' : decide (room ≤ (O.length : Int)) = true := decide_eq_true hrm
         have HRR : Hid (R = (O.map DM.pd, d.pd.beg, true)) := by
          have := hplT.out
          rw [if_pos hrm] at this
          exact this.symm
         clear hplT CNM
         have e2 := cell_of_row _ _ 2 _ _ _ hsp3
         have y2 := frozen_of_row _ _ 2 _ _ hsp3
         have HS4 := Lib.hid (RsB.set2 hsp3 1)
         have HG4 := Lib.hid (grown_setJ wc bs 2 (.int .i64 1))
         have HB4 := Lib.hid ((setCell_block_far wc ⟨bs, 2, none⟩ (.int .i64 1) wr.heap.size (by have h1 := (Array.getElem?_eq_some_iff.1 HSP.out.sp).1; have := hbx.out; show wr.heap.size ≠ bs; omega)).trans hb3)
         have HXX := Lib.hid hxx
         have HS3 := Lib.hid hsp3
         clear hb3 hsp3 hxx
         go_upto_region 12 with fail
         clear e2 y2 c0 c1 c2 c3 c4 c5
         generalize wc.setCell ⟨bs, 2, none⟩ (.int .i64 1) = w4 at *
         have c0 := cell_of_row _ _ 0 _ _ _ HB4.out
         have c1 := cell_of_row _ _ 1 _ _ _ HB4.out
         have c2 := cell_of_row _ _ 2 _ _ _ HB4.out
         have c3 := cell_of_row _ _ 3 _ _ _ HB4.out
         have c4 := cell_of_row _ _ 4 _ _ _ HB4.out
         have c5 := cell_of_row _ _ 5 _ _ _ HB4.out
         go_wp2_with (go_at_call 46; (with_reducible refine (CBG.out _).mono ?_); rintro e w5 ⟨rfl, hx5⟩; have hs5 := block_later HS4.out hx5; have e1 := cell_of_row _ _ 1 _ _ _ hs5; have y1 := frozen_of_row _ _ 1 _ _ hs5; have HX5 := Lib.hid hx5; have HS5 := Lib.hid hs5; clear hx5 hs5 c0 c1 c2 c3 c4 c5)
         go_ret
         obtain ⟨hown, hout, hmem, hgr, hbs, hOi, hpg⟩ := HO.out
         have hpp := pageP_stop (en := en) (last := last) (HR.out.symm.trans HRR.out)
         rw [HL.out] at hpp
         refine ⟨_, rfl, ?_⟩
         show RtellO _ _ _ _ _ _ _ _ _ _
         rw [hpp]
         exact rtell_end (Nat.le_of_lt HBS.out.2) (own_ext hout HXX.out) (fun x hx => HAT.out x (hmem x hx)) HS3.out (grown_ext hgr HXX.out) (grown_at (grown_ext HG4.out HX5.out) (grown_setJ _ _ _ _)) (RsB.set1 (show RsB w5 bs _ _ _ _ from HS5.out) (b : Nat)) (congrArg Int.ofNat HBB.out)
       · have dI : decide ((O.length : Int) ≥ room) = false := decide_eq_false hrm
         have dI' : decide (room ≤ (O.length : Int)) = false := decide_eq_false hrm
         have HPL : Hid (pageL p room ((L.drop (i + 1)).map DM.pd) (d.pd.num + 1) ((O ++ [d]).map DM.pd) = R) := by
          have := hplT.out
          rw [if_neg hrm] at this
          show _ = _
          rw [List.map_append]
          exact this
         clear hplT CBG
         have hx4 := (boxes1 wc (.cells #[.int .u64 d.n, .int .u64 d.t, .string (strOf d.key), .slice d.ha d.av.length d.hc, .int .u64 d.f, .int .u64 d.g] 104)).1
         have HO4 := Lib.hid (own_ext (own_ext HO.out.2.1 hxx) hx4)
         have HB4 : Hid (w6.heap.size ≤ (wc.alloc (.cells #[.int .u64 d.n, .int .u64 d.t, .string (strOf d.key), .slice d.ha d.av.length d.hc, .int .u64 d.f, .int .u64 d.g] 104)).heap.size) := Nat.le_trans (Nat.le_trans HO.out.2.2.2.2.1 hxx.size) hx4.size
         have HW4 := Lib.hid (Row.of_own (World.ownsRow_lit (base := wc.heap.size) (e := 104) (size := 6) wc (dmC d).toArray 1 (Nat.le_refl _) (by decide) rfl))
         have hOi2 : O.length ≤ 80 := by have := HO.out.2.2.2.2.2.1; omega
         have HXX := Lib.hid (hxx.trans hx4)
         have HSP3 := Lib.hid (block_later hsp3 hx4)
         have HB3 := Lib.hid (block_later hb3 hx4)
         clear hsp3 hxx hb3 hx4
         go_upto_region 15 with (at_builtin; refine wpList_append_row 75 104 (.tmp 81) (.tmp 83) rfl w6.heap.size _ 6 72 Tryz.underlying75 infoRd rfl (by decide) rfl _ O.length (O.flatMap dmC) rfl HO4.out 1 (dmC d) HW4.out (dmC_one d) (by omega) (by unfold maxLen; omega) HB4.out ?_; intro v9 w9 hown9 hg9)
         have hob : ∀ k, (Value.slice ov O.length oc).ownBlock = some k → w6.heap.size ≤ k ∧ k < wr.heap.size := fun k hk => HO.out.2.1.lt k hk
         have HOB := Lib.hid hob
         have hb9 := (hg9.block wr.heap.size (Array.getElem?_eq_some_iff.1 HB3.out).1 (fun e => by have := HOB.out _ e.symm; omega)).trans HB3.out
         have hs9 : RsB w9 bs _ nk 2 cnt := (hg9.block bs (Array.getElem?_eq_some_iff.1 HSP3.out).1 (fun e => own_ne HO4.out HSP3.out (by decide) e.symm)).trans HSP3.out
         have c0 := cell_of_row _ _ 0 _ _ _ hb9
         have c1 := cell_of_row _ _ 1 _ _ _ hb9
         have c2 := cell_of_row _ _ 2 _ _ _ hb9
         have c3 := cell_of_row _ _ 3 _ _ _ hb9
         have c4 := cell_of_row _ _ 4 _ _ _ hb9
         have c5 := cell_of_row _ _ 5 _ _ _ hb9
         have HOWN9 := Lib.hid hown9
         have HG9 := Lib.hid hg9
         have HS9 := Lib.hid hs9
         obtain ⟨nm, hnm⟩ : ∃ nm, nm = d.pd.num := ⟨_, rfl⟩
         have HNM := Lib.hid hnm
         rw [← hnm] at CNM hnum
         obtain ⟨nm1, hnm1⟩ : ∃ x : Nat, (x : Int) = (nm : Int) + 1 := ⟨nm + 1, by omega⟩
         have qn : (nm : Int) + 1 = (nm1 : Int) := hnm1.symm
         have HNM1 : Hid (nm1 = nm + 1) := by show _ = _; omega
         have hnm2 : nm1 ≤ 1099511627777 := by omega
         obtain ⟨a9, c9, rfl, _, _⟩ := own_shape hown9
         clear hob hb9 hs9 hown9 hg9 hnm hnm1
         go_wp2_with (go_at_call 45; (with_reducible refine (CNM.out _).mono ?_); rintro e w10 ⟨rfl, hx10⟩; have hs10 := block_later HS9.out hx10; have e1 := cell_of_row _ _ 1 _ _ _ hs10; have y1 := frozen_of_row _ _ 1 _ _ hs10; have HX10 := Lib.hid hx10; have HS10 := Lib.hid hs10; clear hx10 hs10 c0 c1 c2 c3 c4 c5)
         go_roundw
         case rel =>
          obtain ⟨hown, hout, hmem, hgr, hbs, hOi, hpg⟩ := HO.out
          have hx11 := HXX.out
          have HK : ∀ {v : Value} {xs : List Value} {n size base : Nat} {e : TypeId}, w9.ownsRow base e size v n xs → e ≠ 84 → (w10.setCell ⟨bs, 1, none⟩ (.int .u64 (nm1 : Nat))).ownsRow base e size v n xs := fun ho he => own_setJ (own_ext ho HX10.out) HS10.out he 1 _
          have hgr9 := grown_new (grown_ext hgr hx11) HG9.out (fun j hj => by have := HOB.out j hj; have := HBS.out; omega)
          have hgr10 := grown_at (grown_ext hgr9 HX10.out) (grown_setJ w10 bs 1 (.int .u64 (nm1 : Nat)))
          have hpgx := block_later hpg hx11
          have hpg9 := (HG9.out.block w.heap.size (Array.getElem?_eq_some_iff.1 hpgx).1 (fun e => own_ne HO4.out hpgx (by decide) e.symm)).trans hpgx
          have hpg10 := block_later hpg9 HX10.out
          refine ⟨i + 1, by go_num, h, ⟨O ++ [d], nm1, by rw [HNM1.out, HNM.out]; exact HPL.out, ⟨RsB.set1 (show RsB w10 bs _ _ _ _ from HS10.out) (nm1 : Nat), HSP2.out.old, HSP2.out.pr, ?_⟩, ?_, ?_, fun x hx => ?_, hgr10, ?_, ?_⟩, ?_⟩
          · exact ext_but HSP.out.hx hgr10 HSP.out.old
          · exact HK (own_keep (own_ext hown hx11) HG9.out fun k hk e => by have h1 := HOB.out k e; have h2 := HBK.out k hk; omega) (by decide)
          · have := HK HOWN9.out (by decide)
            rw [List.length_append, List.length_singleton, List.flatMap_append]
            simpa using this
          · rcases List.mem_append.1 hx with hx | hx
            · exact hmem x hx
            · rw [List.mem_singleton.1 hx]; exact HDM.out
          · rw [World.size_setCell]
            exact Nat.le_trans (Nat.le_trans HB4.out HG9.out.size) HX10.out.size
          · rw [List.length_append, List.length_singleton]; omega
          · exact (setCell_block_far w10 ⟨bs, 1, none⟩ _ w.heap.size (by have := HBS.out; have h1 := (Array.getElem?_eq_some_iff.1 HSP.out.sp).1; show w.heap.size ≠ bs; omega)).trans hpg10
         case measure => simp [intOf]; omega
  · have hI : decide ((i : Int) < (L.length : Int)) = false := decide_eq_false (by omega)
    have hiL : i = L.length := by omega
    subst hiL
    have HRR : Hid (R = (O.map DM.pd, nk, false)) := by
     rw [List.drop_length] at hpl
     exact hpl.symm
    have HSP2 := Lib.hid hsp
    have HO := Lib.hid (And.intro hout (And.intro hmem (And.intro hgr (And.intro hbs hpg))))
    have FIN : Hid (∀ (w' : World) (n' st' : Int), wr.grownBy w' (some bs) → RsB w' bs (.slice pa p.length pc) n' st' cnt → n' = ((max nk (min en 1099511627777) : Nat) : Int) → st' = (if last then 3 else 1) → ∃ v, Ending.returned (Value.slice ov O.length oc) = .returned v ∧ Hid (RtellO wB w w' bs (.slice pa p.length pc) v (pageP p room en last (rowR gaps (items.map IM.pi)) next).1 (pageP p room en last (rowR gaps (items.map IM.pi)) next).2.1 (pageP p room en last (rowR gaps (items.map IM.pi)) next).2.2 cnt)) := fun w' n' st' hg hS hn hst => by
     obtain ⟨hout, hmem, hgr, hbs, hpg⟩ := HO.out
     have hpp := pageP_end (en := en) (last := last) (HR.out.symm.trans HRR.out)
     rw [HL.out] at hpp
     refine ⟨_, rfl, ?_⟩
     show RtellO _ _ _ _ _ _ _ _ _ _
     rw [hpp, ← hst]
     exact rtell_end (Nat.le_of_lt HBS.out.2) hout (fun x hx => HAT.out x (hmem x hx)) HSP2.out.sp hgr hg hS hn
    have hne : w.heap.size ≠ bs := by have h1 := (Array.getElem?_eq_some_iff.1 HSP.out.sp).1; omega
    have p1 := cell_of_row _ _ 1 _ _ _ hpg
    have s1 := cell_of_row _ _ 1 _ _ _ hsp.sp
    have z1 := frozen_of_row _ _ 1 _ _ hsp.sp
    have HPG := Lib.hid hpg
    have HS := Lib.hid hsp.sp
    clear hpl hsp hown hout hmem hgr hbs hpg HL HR HRR HO
    by_cases hgt : 1099511627777 < en
    · have g1 : decide ((en : Int) > 1099511627777) = true := decide_eq_true (by omega)
      have g1' : decide (1099511627777 < en) = true := decide_eq_true hgt
      by_cases hup : nk < 1099511627777
      · have g2 : decide ((1099511627777 : Int) > (nk : Int)) = true := decide_eq_true (by omega)
        have g2' : decide (nk < 1099511627777) = true := decide_eq_true hup
        go_upto_region 21 with fail
        have HS2 := Lib.hid (RsB.set1 HS.out 1099511627777)
        have HG2 := Lib.hid (grown_setJ wr bs 1 (.int .u64 1099511627777))
        have HPG2 := Lib.hid ((setCell_block_far wr ⟨bs, 1, none⟩ (.int .u64 1099511627777) w.heap.size hne).trans HPG.out)
        clear p1 s1 z1
        generalize wr.setCell ⟨bs, 1, none⟩ (.int .u64 1099511627777) = w2 at *
        have e2 := cell_of_row _ _ 2 _ _ _ HS2.out
        have y2 := frozen_of_row _ _ 2 _ _ HS2.out
        go_upto_region 22 with fail
        have HS3 := Lib.hid (RsB.set2 HS2.out 1)
        have HG3 := Lib.hid (grown_setJ w2 bs 2 (.int .i64 1))
        have hp3 := (setCell_block_far w2 ⟨bs, 2, none⟩ (.int .i64 1) w.heap.size hne).trans HPG2.out
        clear e2 y2
        generalize w2.setCell ⟨bs, 2, none⟩ (.int .i64 1) = w3 at *
        have e2 := cell_of_row _ _ 2 _ _ _ HS3.out
        have y2 := frozen_of_row _ _ 2 _ _ HS3.out
        have m4 := cell_of_row _ _ 4 _ _ _ hp3
        clear hp3
        cases last with
        | false =>
          go_wp2_with fail
          go_ret
          exact FIN.out w3 _ 1 (grown_at HG2.out HG3.out) HS3.out (by omega) rfl
        | true =>
          go_wp2_with fail
          go_ret
          exact FIN.out _ _ 3 (grown_at (grown_at HG2.out HG3.out) (grown_setJ w3 bs 2 (.int .i64 3))) (RsB.set2 HS3.out 3) (by omega) rfl
      · have g2 : decide ((1099511627777 : Int) > (nk : Int)) = false := decide_eq_false (by omega)
        have g2' : decide (nk < 1099511627777) = false := decide_eq_false hup
        go_upto_region 21 with fail
        clear p1 s1 z1
        have e2 := cell_of_row _ _ 2 _ _ _ HS.out
        have y2 := frozen_of_row _ _ 2 _ _ HS.out
        go_upto_region 22 with fail
        have HS3 := Lib.hid (RsB.set2 HS.out 1)
        have HG3 := Lib.hid (grown_setJ wr bs 2 (.int .i64 1))
        have hp3 := (setCell_block_far wr ⟨bs, 2, none⟩ (.int .i64 1) w.heap.size hne).trans HPG.out
        clear e2 y2
        generalize wr.setCell ⟨bs, 2, none⟩ (.int .i64 1) = w3 at *
        have e2 := cell_of_row _ _ 2 _ _ _ HS3.out
        have y2 := frozen_of_row _ _ 2 _ _ HS3.out
        have m4 := cell_of_row _ _ 4 _ _ _ hp3
        clear hp3
        cases last with
        | false =>
          go_wp2_with fail
          go_ret
          exact FIN.out w3 _ 1 HG3.out HS3.out (by omega) rfl
        | true =>
          go_wp2_with fail
          go_ret
          exact FIN.out _ _ 3 (grown_at HG3.out (grown_setJ w3 bs 2 (.int .i64 3))) (RsB.set2 HS3.out 3) (by omega) rfl
    · have g1 : decide ((en : Int) > 1099511627777) = false := decide_eq_false (by omega)
      have g1' : decide (1099511627777 < en) = false := decide_eq_false hgt
      by_cases hup : nk < en
      · have g2 : decide ((en : Int) > (nk : Int)) = true := decide_eq_true (by omega)
        have g2' : decide (nk < en) = true := decide_eq_true hup
        go_upto_region 21 with fail
        have HS2 := Lib.hid (RsB.set1 HS.out (en : Nat))
        have HG2 := Lib.hid (grown_setJ wr bs 1 (.int .u64 (en : Nat)))
        have HPG2 := Lib.hid ((setCell_block_far wr ⟨bs, 1, none⟩ (.int .u64 (en : Nat)) w.heap.size hne).trans HPG.out)
        clear p1 s1 z1
        generalize wr.setCell ⟨bs, 1, none⟩ (.int .u64 (en : Nat)) = w2 at *
        have e2 := cell_of_row _ _ 2 _ _ _ HS2.out
        have y2 := frozen_of_row _ _ 2 _ _ HS2.out
        go_upto_region 22 with fail
        have HS3 := Lib.hid (RsB.set2 HS2.out 1)
        have HG3 := Lib.hid (grown_setJ w2 bs 2 (.int .i64 1))
        have hp3 := (setCell_block_far w2 ⟨bs, 2, none⟩ (.int .i64 1) w.heap.size hne).trans HPG2.out
        clear e2 y2
        generalize w2.setCell ⟨bs, 2, none⟩ (.int .i64 1) = w3 at *
        have e2 := cell_of_row _ _ 2 _ _ _ HS3.out
        have y2 := frozen_of_row _ _ 2 _ _ HS3.out
        have m4 := cell_of_row _ _ 4 _ _ _ hp3
        clear hp3
        cases last with
        | false =>
          go_wp2_with fail
          go_ret
          exact FIN.out w3 _ 1 (grown_at HG2.out HG3.out) HS3.out (by omega) rfl
        | true =>
          go_wp2_with fail
          go_ret
          exact FIN.out _ _ 3 (grown_at (grown_at HG2.out HG3.out) (grown_setJ w3 bs 2 (.int .i64 3))) (RsB.set2 HS3.out 3) (by omega) rfl
      · have g2 : decide ((en : Int) > (nk : Int)) = false := decide_eq_false (by omega)
        have g2' : decide (nk < en) = false := decide_eq_false hup
        go_upto_region 21 with fail
        clear p1 s1 z1
        have e2 := cell_of_row _ _ 2 _ _ _ HS.out
        have y2 := frozen_of_row _ _ 2 _ _ HS.out
        go_upto_region 22 with fail
        have HS3 := Lib.hid (RsB.set2 HS.out 1)
        have HG3 := Lib.hid (grown_setJ wr bs 2 (.int .i64 1))
        have hp3 := (setCell_block_far wr ⟨bs, 2, none⟩ (.int .i64 1) w.heap.size hne).trans HPG.out
        clear e2 y2
        generalize wr.setCell ⟨bs, 2, none⟩ (.int .i64 1) = w3 at *
        have e2 := cell_of_row _ _ 2 _ _ _ HS3.out
        have y2 := frozen_of_row _ _ 2 _ _ HS3.out
        have m4 := cell_of_row _ _ 4 _ _ _ hp3
        clear hp3
        cases last with
        | false =>
          go_wp2_with fail
          go_ret
          exact FIN.out w3 _ 1 HG3.out HS3.out (by omega) rfl
        | true =>
          go_wp2_with fail
          go_ret
          exact FIN.out _ _ 3 (grown_at HG3.out (grown_setJ w3 bs 2 (.int .i64 3))) (RsB.set2 HS3.out 3) (by omega) rfl
end Go.Proofs.YtaklnpjpndkccaaGreat
namespace Go.Proofs.YtaklnpjpndkccaaGreat
open Go.RowKit Go.Sort
set_option maxRecDepth 100000 in
set_option maxHeartbeats 0 in
theorem rcomes_any (wB w0 w : World) (hBw : Ext wB w) (bs : Nat) (pv : Value) (p : List C) (next : Nat) (st cnt : Int) (hSp : RsR w0 w bs pv p next st cnt) (x : IM) (hs : AttrR wB x.h x.av) (room : Int) :
 Calls Tryz.prog 32 #[.pointer (some ⟨bs, 0, none⟩), .agg #[.int .u64 x.n, .int .u64 x.t, .string (strOf x.key), .slice x.ha x.av.length x.hc], .int .i64 room] w
  fun e w' => ∃ v, e = .returned v ∧ Hid (RtellO wB w w' bs pv v (comesP p room x.pi next st).1 (comesP p room x.pi next st).2.1 (comesP p room x.pi next st).2.2 cnt) := by
 obtain ⟨hx, hb⟩ := boxes1 w (.cells #[.int .u64 x.n, .int .u64 x.t, .string (strOf x.key), .slice x.ha x.av.length x.hc] 49)
 obtain ⟨pa, pc, rfl, _, _⟩ := hSp.pr.shape
 have HB := Lib.hid hb
 have HX := Lib.hid hx
 have HSP := Lib.hid hSp
 have HSA : Hid (RsB _ bs _ next st cnt) := block_later hSp.sp hx
 have HAT := Lib.hid hs
 have NO : Hid (∀ (w' : World) (s2 : Int), Ext (w.alloc (.cells #[.int .u64 x.n, .int .u64 x.t, .string (strOf x.key), .slice x.ha x.av.length x.hc] 49)) w' → RsB w bs (.slice pa p.length pc) next s2 cnt → RtellO wB w w' bs (.slice pa p.length pc) (.slice none 0 0) [] next s2 cnt) := fun w' s2 hw hS =>
  ⟨[], rfl, own_none _ _ _ _, (fun _ h => by cases h), block_later (block_later hS HX.out) hw, grown_extJ (HX.out.trans hw)⟩
 obtain ⟨mm, hmm⟩ : ∃ mm, mm = matchP p x.av := ⟨_, rfl⟩
 have CMT : Hid (∀ W, Ext (w.alloc (.cells #[.int .u64 x.n, .int .u64 x.t, .string (strOf x.key), .slice x.ha x.av.length x.hc] 49)) W → Calls Tryz.prog 57 #[.slice pa p.length pc, .agg #[.string (strOf x.key), .slice x.ha x.av.length x.hc]] W fun e w' => e = .returned (.bool mm) ∧ Ext W w') := fun W hW => by
  rw [hmm]
  exact rmatches_any W _ p x.key _ x.av (hSp.pr.ext ((hSp.hx.trans hx).trans hW)) (AttrR.ext hs ((hBw.trans hx).trans hW))
 have HWB : Hid (wantsB p next (PD.ofI x.pi) = (decide (1 ≤ x.n) && decide (x.n ≤ 1099511627776) && (decide (next ≤ x.n) && mm))) := by
  show _ = _
  unfold wantsB mayD
  have hbg : (PD.ofI x.pi).beg = x.n := beg_I x.pi
  have hnm : (PD.ofI x.pi).num = x.n := Nat.max_zero _
  have hav : (PD.ofI x.pi).av = x.av := rfl
  have hnn : (PD.ofI x.pi).n = x.n := rfl
  rw [hbg, hnm, hav, hnn, ← hmm]
  by_cases h0 : 1 ≤ x.n
  · rw [decide_eq_true h0, decide_eq_true (Nat.le_refl x.n), decide_eq_false (show ¬ x.n = 0 by omega)]
    simp
  · rw [decide_eq_false h0]; simp
 clear hx hb hSp hs hmm hBw
 by_cases h3 : st = 3
 · subst h3
   by_cases hn0 : x.n = 0
   · have HN0 : Hid (((x.n : Int) == 0) = true) := by show _ = _; rw [hn0]; rfl
     have HC : Hid (comesP p room x.pi next 3 = ([], next, 3)) := by
      show comesP _ _ _ _ _ = _
      unfold comesP
      rw [if_neg]
      rw [HWB.out, decide_eq_false (show ¬ 1 ≤ x.n by omega)]; simp
     clear hn0
     go_enter Tryz.func32, Tryz.ntmps32
     go_upto_region 1 with fail
     refine wp_region_facts [Fact.eq (.pointer (some ⟨bs, 0, none⟩)),
      Fact.eq (.pointer (some ⟨bs, 0, none⟩)),
      Fact.eq (.pointer (some ⟨bs, 2, none⟩)),
      Fact.eq (.int .i64 3),
      Fact.eq (.bool false),
      Fact.eq (.bool false),
      Fact.eq (.pointer (some ⟨w.heap.size, 0, none⟩)),
      Fact.eq (.int .u64 x.n),
      Fact.eq (.bool true),
      Fact.eq (.bool true),
      Fact.eq (.bool true),
      Fact.eq undef,
      Fact.eq undef,
      Fact.eq undef,
      Fact.eq (.bool true),
      Fact.eq (.bool true),
      Fact.eq undef,
      Fact.eq undef,
      Fact.eq undef,
      Fact.eq undef,
      Fact.eq undef,
      Fact.eq undef,
      Fact.eq undef,
      Fact.eq (.bool true),
      Fact.eq (.bool true),
      Fact.eq undef,
      Fact.eq undef,
      Fact.eq undef,
      Fact.eq undef,
      Fact.eq undef,
      Fact.eq undef,
      Fact.eq undef,
      Fact.eq undef,
      Fact.eq (.bool true)]
      [[], [(0, 7)], [(1, 8)], [(2, 9)], [(3, 10)], [(4, 11)], [(5, 12)], [(6, 13), (5, 12)], [(7, 14), (5, 12)], [(5, 12), (8, 15)], [(9, 16)], [(10, 17)], [(11, 18), (10, 17)], [(12, 19), (10, 17)], [(10, 17), (13, 20)], [(14, 21)], [(15, 22)], [(16, 23), (15, 22)], [(15, 22)], [(18, 25), (15, 22)], [(19, 26), (15, 22)], [(20, 27), (15, 22)], [(17, 24), (21, 28), (15, 22)], [(15, 22), (22, 29)], [(23, 30)], [(24, 31)], [(25, 32), (24, 31)], [(26, 33), (24, 31)], [(27, 34), (24, 31)], [(24, 31)], [(29, 36), (24, 31)], [(28, 35), (30, 37), (24, 31)], [(31, 38), (24, 31)], [(24, 31), (32, 39)]]
      [(0, 7), (1, 8), (2, 9), (3, 10), (4, 11), (5, 12), (6, 13), (7, 14), (8, 15), (9, 16), (10, 17), (11, 18), (12, 19), (13, 20), (14, 21), (15, 22), (16, 23), (17, 24), (18, 25), (19, 26), (20, 27), (21, 28), (22, 29), (23, 30), (24, 31), (25, 32), (26, 33), (27, 34), (28, 35), (29, 36), (30, 37), (31, 38), (32, 39), (33, 40)] (by kernel_rfl) (by kernel_rfl) ?_ ?_
     · refine ⟨?_, ?_, ?_, ?_, ?_, ?_, ?_, ?_, ?_, ?_, ?_, ?_, ?_, ?_, ?_, ?_, ?_, ?_, ?_, ?_, ?_, ?_, ?_, ?_, ?_, ?_, ?_, ?_, ?_, ?_, ?_, ?_, ?_, ?_, trivial⟩
       · intro w1 hx1; change wpList _ _ _ _ _ _; exact ob_move rfl rfl rfl rfl rfl
       · rintro w1 hx1 _ rfl; change wpList _ _ _ _ _ _; go_wp2_with fail; exact ⟨rfl, Ext.refl _, rfl, rfl⟩
       · rintro w1 hx1 _ rfl; change wpList _ _ _ _ _ _; go_wp2_with fail; exact ⟨rfl, Ext.refl _, rfl, rfl⟩
       · rintro w1 hx1 _ rfl; change wpList _ _ _ _ _ _; have m2 := cell_of_row _ _ 2 _ _ _ (block_later HSA.out hx1); go_wp2_with fail; exact ⟨rfl, Ext.refl _, rfl, rfl⟩
       · rintro w1 hx1 _ rfl; change wpList _ _ _ _ _ _; go_wp2_with fail; exact ⟨rfl, Ext.refl _, rfl, rfl⟩
       · rintro w1 hx1 _ rfl; change wpList _ _ _ _ _ _; exact ob_move rfl rfl rfl rfl rfl
       · rintro w1 hx1 _ rfl; change wpList _ _ _ _ _ _; go_wp2_with fail; exact ⟨rfl, Ext.refl _, rfl, rfl⟩
       · rintro w1 hx1 _ rfl _ rfl; change wpList _ _ _ _ _ _; have m0 := cell_of_row _ _ 0 _ _ _ (block_later HB.out hx1); go_wp2_with fail; exact ⟨rfl, Ext.refl _, rfl, rfl⟩
       · rintro w1 hx1 _ rfl _ rfl; change wpList _ _ _ _ _ _; have g1 := HN0.out; go_wp2_with fail; exact ⟨rfl, Ext.refl _, rfl, rfl⟩
       · rintro w1 hx1 _ rfl _ rfl; change wpList _ _ _ _ _ _; exact ob_pick rfl rfl rfl rfl rfl rfl
       · rintro w1 hx1 _ rfl; change wpList _ _ _ _ _ _; exact ob_move rfl rfl rfl rfl rfl
       · rintro w1 hx1 _ rfl; change wpList _ _ _ _ _ _; exact ob_skip rfl rfl rfl rfl
       · rintro w1 hx1 _ rfl _ rfl; change wpList _ _ _ _ _ _; exact ob_skip rfl rfl rfl rfl
       · rintro w1 hx1 _ rfl _ rfl; change wpList _ _ _ _ _ _; exact ob_skip rfl rfl rfl rfl
       · rintro w1 hx1 _ rfl _ rfl; change wpList _ _ _ _ _ _; exact ob_pick rfl rfl rfl rfl rfl rfl
       · rintro w1 hx1 _ rfl; change wpList _ _ _ _ _ _; exact ob_move rfl rfl rfl rfl rfl
       · rintro w1 hx1 _ rfl; change wpList _ _ _ _ _ _; exact ob_skip rfl rfl rfl rfl
       · rintro w1 hx1 _ rfl _ rfl; change wpList _ _ _ _ _ _; exact ob_skip rfl rfl rfl rfl
       · rintro w1 hx1 _ rfl; change wpList _ _ _ _ _ _; exact ob_skip rfl rfl rfl rfl
       · rintro w1 hx1 _ rfl _ rfl; change wpList _ _ _ _ _ _; exact ob_skip rfl rfl rfl rfl
       · rintro w1 hx1 _ rfl _ rfl; change wpList _ _ _ _ _ _; exact ob_skip rfl rfl rfl rfl
       · rintro w1 hx1 _ rfl _ rfl; change wpList _ _ _ _ _ _; exact ob_skip rfl rfl rfl rfl
       · rintro w1 hx1 _ rfl _ rfl _ rfl; change wpList _ _ _ _ _ _; exact ob_skip rfl rfl rfl rfl
       · rintro w1 hx1 _ rfl _ rfl; change wpList _ _ _ _ _ _; exact ob_pick rfl rfl rfl rfl rfl rfl
       · rintro w1 hx1 _ rfl; change wpList _ _ _ _ _ _; exact ob_move rfl rfl rfl rfl rfl
       · rintro w1 hx1 _ rfl; change wpList _ _ _ _ _ _; exact ob_skip rfl rfl rfl rfl
       · rintro w1 hx1 _ rfl _ rfl; change wpList _ _ _ _ _ _; exact ob_skip rfl rfl rfl rfl
       · rintro w1 hx1 _ rfl _ rfl; change wpList _ _ _ _ _ _; exact ob_skip rfl rfl rfl rfl
       · rintro w1 hx1 _ rfl _ rfl; change wpList _ _ _ _ _ _; exact ob_skip rfl rfl rfl rfl
       · rintro w1 hx1 _ rfl; change wpList _ _ _ _ _ _; exact ob_skip rfl rfl rfl rfl
       · rintro w1 hx1 _ rfl _ rfl; change wpList _ _ _ _ _ _; exact ob_skip rfl rfl rfl rfl
       · rintro w1 hx1 _ rfl _ rfl _ rfl; change wpList _ _ _ _ _ _; exact ob_skip rfl rfl rfl rfl
       · rintro w1 hx1 _ rfl _ rfl; change wpList _ _ _ _ _ _; exact ob_skip rfl rfl rfl rfl
       · rintro w1 hx1 _ rfl _ rfl; change wpList _ _ _ _ _ _; exact ob_pick rfl rfl rfl rfl rfl rfl
     · rintro w1 hx1 _ rfl _ rfl _ rfl _ rfl _ rfl _ rfl _ rfl _ rfl _ rfl _ rfl _ rfl _ rfl _ rfl _ rfl _ rfl _ rfl _ rfl _ rfl _ rfl _ rfl _ rfl _ rfl _ rfl _ rfl _ rfl _ rfl _ rfl _ rfl _ rfl _ rfl _ rfl _ rfl _ rfl _ rfl; refine depsThen_nil ?_; dsimp only; simp only [Act.put, List.setIfInBounds_toArray, List.set_cons_zero, List.set_cons_succ]
       go_wp2_with fail
       go_ret
       refine ⟨_, rfl, ?_⟩
       show RtellO _ _ _ _ _ _ _ _ _ _
       rw [HC.out]
       exact NO.out w1 3 (hx1)
        HSP.out.sp
   · have g1 : ((x.n : Int) == 0) = false := by simp; omega
     have g1' : (x.n == 0) = false := by simp; omega
     by_cases hmx : 1099511627776 < x.n
     · have g2 : decide ((x.n : Int) > 1099511627776) = true := decide_eq_true (by omega)
       have g2' : decide (1099511627776 < x.n) = true := decide_eq_true hmx
       have HC : Hid (comesP p room x.pi next 3 = ([], next, 3)) := by
        show comesP _ _ _ _ _ = _
        unfold comesP
        rw [if_neg]
        rw [HWB.out, decide_eq_false (show ¬ x.n ≤ 1099511627776 by omega)]; simp
       go_enter Tryz.func32, Tryz.ntmps32
       go_upto_region 1 with fail
       refine wp_region_facts [Fact.eq (.pointer (some ⟨bs, 0, none⟩)),
        Fact.eq (.pointer (some ⟨bs, 0, none⟩)),
        Fact.eq (.pointer (some ⟨bs, 2, none⟩)),
        Fact.eq (.int .i64 3),
        Fact.eq (.bool false),
        Fact.eq (.bool false),
        Fact.eq (.pointer (some ⟨w.heap.size, 0, none⟩)),
        Fact.eq (.int .u64 x.n),
        Fact.eq (.bool false),
        Fact.eq (.bool false),
        Fact.eq (.bool false),
        Fact.eq (.pointer (some ⟨w.heap.size, 0, none⟩)),
        Fact.eq (.int .u64 x.n),
        Fact.eq (.bool true),
        Fact.eq (.bool true),
        Fact.eq (.bool true),
        Fact.eq undef,
        Fact.eq undef,
        Fact.eq undef,
        Fact.eq undef,
        Fact.eq undef,
        Fact.eq undef,
        Fact.eq undef,
        Fact.eq (.bool true),
        Fact.eq (.bool true),
        Fact.eq undef,
        Fact.eq undef,
        Fact.eq undef,
        Fact.eq undef,
        Fact.eq undef,
        Fact.eq undef,
        Fact.eq undef,
        Fact.eq undef,
        Fact.eq (.bool true)]
        [[], [(0, 7)], [(1, 8)], [(2, 9)], [(3, 10)], [(4, 11)], [(5, 12)], [(6, 13), (5, 12)], [(7, 14), (5, 12)], [(5, 12), (8, 15)], [(9, 16)], [(10, 17)], [(11, 18), (10, 17)], [(12, 19), (10, 17)], [(10, 17), (13, 20)], [(14, 21)], [(15, 22)], [(16, 23), (15, 22)], [(15, 22)], [(18, 25), (15, 22)], [(19, 26), (15, 22)], [(20, 27), (15, 22)], [(17, 24), (21, 28), (15, 22)], [(15, 22), (22, 29)], [(23, 30)], [(24, 31)], [(25, 32), (24, 31)], [(26, 33), (24, 31)], [(27, 34), (24, 31)], [(24, 31)], [(29, 36), (24, 31)], [(28, 35), (30, 37), (24, 31)], [(31, 38), (24, 31)], [(24, 31), (32, 39)]]
        [(0, 7), (1, 8), (2, 9), (3, 10), (4, 11), (5, 12), (6, 13), (7, 14), (8, 15), (9, 16), (10, 17), (11, 18), (12, 19), (13, 20), (14, 21), (15, 22), (16, 23), (17, 24), (18, 25), (19, 26), (20, 27), (21, 28), (22, 29), (23, 30), (24, 31), (25, 32), (26, 33), (27, 34), (28, 35), (29, 36), (30, 37), (31, 38), (32, 39), (33, 40)] (by kernel_rfl) (by kernel_rfl) ?_ ?_
       · refine ⟨?_, ?_, ?_, ?_, ?_, ?_, ?_, ?_, ?_, ?_, ?_, ?_, ?_, ?_, ?_, ?_, ?_, ?_, ?_, ?_, ?_, ?_, ?_, ?_, ?_, ?_, ?_, ?_, ?_, ?_, ?_, ?_, ?_, ?_, trivial⟩
         · intro w1 hx1; change wpList _ _ _ _ _ _; exact ob_move rfl rfl rfl rfl rfl
         · rintro w1 hx1 _ rfl; change wpList _ _ _ _ _ _; go_wp2_with fail; exact ⟨rfl, Ext.refl _, rfl, rfl⟩
         · rintro w1 hx1 _ rfl; change wpList _ _ _ _ _ _; go_wp2_with fail; exact ⟨rfl, Ext.refl _, rfl, rfl⟩
         · rintro w1 hx1 _ rfl; change wpList _ _ _ _ _ _; have m2 := cell_of_row _ _ 2 _ _ _ (block_later HSA.out hx1); go_wp2_with fail; exact ⟨rfl, Ext.refl _, rfl, rfl⟩
         · rintro w1 hx1 _ rfl; change wpList _ _ _ _ _ _; go_wp2_with fail; exact ⟨rfl, Ext.refl _, rfl, rfl⟩
         · rintro w1 hx1 _ rfl; change wpList _ _ _ _ _ _; exact ob_move rfl rfl rfl rfl rfl
         · rintro w1 hx1 _ rfl; change wpList _ _ _ _ _ _; go_wp2_with fail; exact ⟨rfl, Ext.refl _, rfl, rfl⟩
         · rintro w1 hx1 _ rfl _ rfl; change wpList _ _ _ _ _ _; have m0 := cell_of_row _ _ 0 _ _ _ (block_later HB.out hx1); go_wp2_with fail; exact ⟨rfl, Ext.refl _, rfl, rfl⟩
         · rintro w1 hx1 _ rfl _ rfl; change wpList _ _ _ _ _ _; go_wp2_with fail; exact ⟨rfl, Ext.refl _, rfl, rfl⟩
         · rintro w1 hx1 _ rfl _ rfl; change wpList _ _ _ _ _ _; exact ob_pick rfl rfl rfl rfl rfl rfl
         · rintro w1 hx1 _ rfl; change wpList _ _ _ _ _ _; exact ob_move rfl rfl rfl rfl rfl
         · rintro w1 hx1 _ rfl; change wpList _ _ _ _ _ _; go_wp2_with fail; exact ⟨rfl, Ext.refl _, rfl, rfl⟩
         · rintro w1 hx1 _ rfl _ rfl; change wpList _ _ _ _ _ _; have m0 := cell_of_row _ _ 0 _ _ _ (block_later HB.out hx1); go_wp2_with fail; exact ⟨rfl, Ext.refl _, rfl, rfl⟩
         · rintro w1 hx1 _ rfl _ rfl; change wpList _ _ _ _ _ _; go_wp2_with fail; exact ⟨rfl, Ext.refl _, rfl, rfl⟩
         · rintro w1 hx1 _ rfl _ rfl; change wpList _ _ _ _ _ _; exact ob_pick rfl rfl rfl rfl rfl rfl
         · rintro w1 hx1 _ rfl; change wpList _ _ _ _ _ _; exact ob_move rfl rfl rfl rfl rfl
         · rintro w1 hx1 _ rfl; change wpList _ _ _ _ _ _; exact ob_skip rfl rfl rfl rfl
         · rintro w1 hx1 _ rfl _ rfl; change wpList _ _ _ _ _ _; exact ob_skip rfl rfl rfl rfl
         · rintro w1 hx1 _ rfl; change wpList _ _ _ _ _ _; exact ob_skip rfl rfl rfl rfl
         · rintro w1 hx1 _ rfl _ rfl; change wpList _ _ _ _ _ _; exact ob_skip rfl rfl rfl rfl
         · rintro w1 hx1 _ rfl _ rfl; change wpList _ _ _ _ _ _; exact ob_skip rfl rfl rfl rfl
         · rintro w1 hx1 _ rfl _ rfl; change wpList _ _ _ _ _ _; exact ob_skip rfl rfl rfl rfl
         · rintro w1 hx1 _ rfl _ rfl _ rfl; change wpList _ _ _ _ _ _; exact ob_skip rfl rfl rfl rfl
         · rintro w1 hx1 _ rfl _ rfl; change wpList _ _ _ _ _ _; exact ob_pick rfl rfl rfl rfl rfl rfl
         · rintro w1 hx1 _ rfl; change wpList _ _ _ _ _ _; exact ob_move rfl rfl rfl rfl rfl
         · rintro w1 hx1 _ rfl; change wpList _ _ _ _ _ _; exact ob_skip rfl rfl rfl rfl
         · rintro w1 hx1 _ rfl _ rfl; change wpList _ _ _ _ _ _; exact ob_skip rfl rfl rfl rfl
         · rintro w1 hx1 _ rfl _ rfl; change wpList _ _ _ _ _ _; exact ob_skip rfl rfl rfl rfl
         · rintro w1 hx1 _ rfl _ rfl; change wpList _ _ _ _ _ _; exact ob_skip rfl rfl rfl rfl
         · rintro w1 hx1 _ rfl; change wpList _ _ _ _ _ _; exact ob_skip rfl rfl rfl rfl
         · rintro w1 hx1 _ rfl _ rfl; change wpList _ _ _ _ _ _; exact ob_skip rfl rfl rfl rfl
         · rintro w1 hx1 _ rfl _ rfl _ rfl; change wpList _ _ _ _ _ _; exact ob_skip rfl rfl rfl rfl
         · rintro w1 hx1 _ rfl _ rfl; change wpList _ _ _ _ _ _; exact ob_skip rfl rfl rfl rfl
         · rintro w1 hx1 _ rfl _ rfl; change wpList _ _ _ _ _ _; exact ob_pick rfl rfl rfl rfl rfl rfl
       · rintro w1 hx1 _ rfl _ rfl _ rfl _ rfl _ rfl _ rfl _ rfl _ rfl _ rfl _ rfl _ rfl _ rfl _ rfl _ rfl _ rfl _ rfl _ rfl _ rfl _ rfl _ rfl _ rfl _ rfl _ rfl _ rfl _ rfl _ rfl _ rfl _ rfl _ rfl _ rfl _ rfl _ rfl _ rfl _ rfl; refine depsThen_nil ?_; dsimp only; simp only [Act.put, List.setIfInBounds_toArray, List.set_cons_zero, List.set_cons_succ]
         go_wp2_with fail
         go_ret
         refine ⟨_, rfl, ?_⟩
         show RtellO _ _ _ _ _ _ _ _ _ _
         rw [HC.out]
         exact NO.out w1 3 (hx1)
          HSP.out.sp
     · have g2 : decide ((x.n : Int) > 1099511627776) = false := decide_eq_false (by omega)
       have g2' : decide (1099511627776 < x.n) = false := decide_eq_false hmx
       by_cases hlt : x.n < next
       · have g3 : decide ((x.n : Int) < (next : Int)) = true := decide_eq_true (by omega)
         have g3' : decide (x.n < next) = true := decide_eq_true hlt
         have HC : Hid (comesP p room x.pi next 3 = ([], next, 3)) := by
          show comesP _ _ _ _ _ = _
          unfold comesP
          rw [if_neg]
          rw [HWB.out, decide_eq_false (show ¬ next ≤ x.n by omega)]; simp
         go_enter Tryz.func32, Tryz.ntmps32
         go_upto_region 1 with fail
         refine wp_region_facts [Fact.eq (.pointer (some ⟨bs, 0, none⟩)),
          Fact.eq (.pointer (some ⟨bs, 0, none⟩)),
          Fact.eq (.pointer (some ⟨bs, 2, none⟩)),
          Fact.eq (.int .i64 3),
          Fact.eq (.bool false),
          Fact.eq (.bool false),
          Fact.eq (.pointer (some ⟨w.heap.size, 0, none⟩)),
          Fact.eq (.int .u64 x.n),
          Fact.eq (.bool false),
          Fact.eq (.bool false),
          Fact.eq (.bool false),
          Fact.eq (.pointer (some ⟨w.heap.size, 0, none⟩)),
          Fact.eq (.int .u64 x.n),
          Fact.eq (.bool false),
          Fact.eq (.bool false),
          Fact.eq (.bool false),
          Fact.eq (.pointer (some ⟨w.heap.size, 0, none⟩)),
          Fact.eq (.int .u64 x.n),
          Fact.eq (.pointer (some ⟨bs, 0, none⟩)),
          Fact.eq (.pointer (some ⟨bs, 0, none⟩)),
          Fact.eq (.pointer (some ⟨bs, 1, none⟩)),
          Fact.eq (.int .u64 (next : Nat)),
          Fact.eq (.bool true),
          Fact.eq (.bool true),
          Fact.eq (.bool true),
          Fact.eq undef,
          Fact.eq undef,
          Fact.eq undef,
          Fact.eq undef,
          Fact.eq undef,
          Fact.eq undef,
          Fact.eq undef,
          Fact.eq undef,
          Fact.eq (.bool true)]
          [[], [(0, 7)], [(1, 8)], [(2, 9)], [(3, 10)], [(4, 11)], [(5, 12)], [(6, 13), (5, 12)], [(7, 14), (5, 12)], [(5, 12), (8, 15)], [(9, 16)], [(10, 17)], [(11, 18), (10, 17)], [(12, 19), (10, 17)], [(10, 17), (13, 20)], [(14, 21)], [(15, 22)], [(16, 23), (15, 22)], [(15, 22)], [(18, 25), (15, 22)], [(19, 26), (15, 22)], [(20, 27), (15, 22)], [(17, 24), (21, 28), (15, 22)], [(15, 22), (22, 29)], [(23, 30)], [(24, 31)], [(25, 32), (24, 31)], [(26, 33), (24, 31)], [(27, 34), (24, 31)], [(24, 31)], [(29, 36), (24, 31)], [(28, 35), (30, 37), (24, 31)], [(31, 38), (24, 31)], [(24, 31), (32, 39)]]
          [(0, 7), (1, 8), (2, 9), (3, 10), (4, 11), (5, 12), (6, 13), (7, 14), (8, 15), (9, 16), (10, 17), (11, 18), (12, 19), (13, 20), (14, 21), (15, 22), (16, 23), (17, 24), (18, 25), (19, 26), (20, 27), (21, 28), (22, 29), (23, 30), (24, 31), (25, 32), (26, 33), (27, 34), (28, 35), (29, 36), (30, 37), (31, 38), (32, 39), (33, 40)] (by kernel_rfl) (by kernel_rfl) ?_ ?_
         · refine ⟨?_, ?_, ?_, ?_, ?_, ?_, ?_, ?_, ?_, ?_, ?_, ?_, ?_, ?_, ?_, ?_, ?_, ?_, ?_, ?_, ?_, ?_, ?_, ?_, ?_, ?_, ?_, ?_, ?_, ?_, ?_, ?_, ?_, ?_, trivial⟩
           · intro w1 hx1; change wpList _ _ _ _ _ _; exact ob_move rfl rfl rfl rfl rfl
           · rintro w1 hx1 _ rfl; change wpList _ _ _ _ _ _; go_wp2_with fail; exact ⟨rfl, Ext.refl _, rfl, rfl⟩
           · rintro w1 hx1 _ rfl; change wpList _ _ _ _ _ _; go_wp2_with fail; exact ⟨rfl, Ext.refl _, rfl, rfl⟩
           · rintro w1 hx1 _ rfl; change wpList _ _ _ _ _ _; have m2 := cell_of_row _ _ 2 _ _ _ (block_later HSA.out hx1); go_wp2_with fail; exact ⟨rfl, Ext.refl _, rfl, rfl⟩
           · rintro w1 hx1 _ rfl; change wpList _ _ _ _ _ _; go_wp2_with fail; exact ⟨rfl, Ext.refl _, rfl, rfl⟩
           · rintro w1 hx1 _ rfl; change wpList _ _ _ _ _ _; exact ob_move rfl rfl rfl rfl rfl
           · rintro w1 hx1 _ rfl; change wpList _ _ _ _ _ _; go_wp2_with fail; exact ⟨rfl, Ext.refl _, rfl, rfl⟩
           · rintro w1 hx1 _ rfl _ rfl; change wpList _ _ _ _ _ _; have m0 := cell_of_row _ _ 0 _ _ _ (block_later HB.out hx1); go_wp2_with fail; exact ⟨rfl, Ext.refl _, rfl, rfl⟩
           · rintro w1 hx1 _ rfl _ rfl; change wpList _ _ _ _ _ _; go_wp2_with fail; exact ⟨rfl, Ext.refl _, rfl, rfl⟩
           · rintro w1 hx1 _ rfl _ rfl; change wpList _ _ _ _ _ _; exact ob_pick rfl rfl rfl rfl rfl rfl
           · rintro w1 hx1 _ rfl; change wpList _ _ _ _ _ _; exact ob_move rfl rfl rfl rfl rfl
           · rintro w1 hx1 _ rfl; change wpList _ _ _ _ _ _; go_wp2_with fail; exact ⟨rfl, Ext.refl _, rfl, rfl⟩
           · rintro w1 hx1 _ rfl _ rfl; change wpList _ _ _ _ _ _; have m0 := cell_of_row _ _ 0 _ _ _ (block_later HB.out hx1); go_wp2_with fail; exact ⟨rfl, Ext.refl _, rfl, rfl⟩
           · rintro w1 hx1 _ rfl _ rfl; change wpList _ _ _ _ _ _; go_wp2_with fail; exact ⟨rfl, Ext.refl _, rfl, rfl⟩
           · rintro w1 hx1 _ rfl _ rfl; change wpList _ _ _ _ _ _; exact ob_pick rfl rfl rfl rfl rfl rfl
           · rintro w1 hx1 _ rfl; change wpList _ _ _ _ _ _; exact ob_move rfl rfl rfl rfl rfl
           · rintro w1 hx1 _ rfl; change wpList _ _ _ _ _ _; go_wp2_with fail; exact ⟨rfl, Ext.refl _, rfl, rfl⟩
           · rintro w1 hx1 _ rfl _ rfl; change wpList _ _ _ _ _ _; have m0 := cell_of_row _ _ 0 _ _ _ (block_later HB.out hx1); go_wp2_with fail; exact ⟨rfl, Ext.refl _, rfl, rfl⟩
           · rintro w1 hx1 _ rfl; change wpList _ _ _ _ _ _; exact ob_move rfl rfl rfl rfl rfl
           · rintro w1 hx1 _ rfl _ rfl; change wpList _ _ _ _ _ _; go_wp2_with fail; exact ⟨rfl, Ext.refl _, rfl, rfl⟩
           · rintro w1 hx1 _ rfl _ rfl; change wpList _ _ _ _ _ _; go_wp2_with fail; exact ⟨rfl, Ext.refl _, rfl, rfl⟩
           · rintro w1 hx1 _ rfl _ rfl; change wpList _ _ _ _ _ _; have m1 := cell_of_row _ _ 1 _ _ _ (block_later HSA.out hx1); go_wp2_with fail; exact ⟨rfl, Ext.refl _, rfl, rfl⟩
           · rintro w1 hx1 _ rfl _ rfl _ rfl; change wpList _ _ _ _ _ _; go_wp2_with fail; exact ⟨rfl, Ext.refl _, rfl, rfl⟩
           · rintro w1 hx1 _ rfl _ rfl; change wpList _ _ _ _ _ _; exact ob_pick rfl rfl rfl rfl rfl rfl
           · rintro w1 hx1 _ rfl; change wpList _ _ _ _ _ _; exact ob_move rfl rfl rfl rfl rfl
           · rintro w1 hx1 _ rfl; change wpList _ _ _ _ _ _; exact ob_skip rfl rfl rfl rfl
           · rintro w1 hx1 _ rfl _ rfl; change wpList _ _ _ _ _ _; exact ob_skip rfl rfl rfl rfl
           · rintro w1 hx1 _ rfl _ rfl; change wpList _ _ _ _ _ _; exact ob_skip rfl rfl rfl rfl
           · rintro w1 hx1 _ rfl _ rfl; change wpList _ _ _ _ _ _; exact ob_skip rfl rfl rfl rfl
           · rintro w1 hx1 _ rfl; change wpList _ _ _ _ _ _; exact ob_skip rfl rfl rfl rfl
           · rintro w1 hx1 _ rfl _ rfl; change wpList _ _ _ _ _ _; exact ob_skip rfl rfl rfl rfl
           · rintro w1 hx1 _ rfl _ rfl _ rfl; change wpList _ _ _ _ _ _; exact ob_skip rfl rfl rfl rfl
           · rintro w1 hx1 _ rfl _ rfl; change wpList _ _ _ _ _ _; exact ob_skip rfl rfl rfl rfl
           · rintro w1 hx1 _ rfl _ rfl; change wpList _ _ _ _ _ _; exact ob_pick rfl rfl rfl rfl rfl rfl
         · rintro w1 hx1 _ rfl _ rfl _ rfl _ rfl _ rfl _ rfl _ rfl _ rfl _ rfl _ rfl _ rfl _ rfl _ rfl _ rfl _ rfl _ rfl _ rfl _ rfl _ rfl _ rfl _ rfl _ rfl _ rfl _ rfl _ rfl _ rfl _ rfl _ rfl _ rfl _ rfl _ rfl _ rfl _ rfl _ rfl; refine depsThen_nil ?_; dsimp only; simp only [Act.put, List.setIfInBounds_toArray, List.set_cons_zero, List.set_cons_succ]
           go_wp2_with fail
           go_ret
           refine ⟨_, rfl, ?_⟩
           show RtellO _ _ _ _ _ _ _ _ _ _
           rw [HC.out]
           exact NO.out w1 3 (hx1)
            HSP.out.sp
       · have g3 : decide ((x.n : Int) < (next : Int)) = false := decide_eq_false (by omega)
         have g3' : decide (x.n < next) = false := decide_eq_false hlt
         cases mm with
         | false =>
           have HC : Hid (comesP p room x.pi next 3 = ([], next, 3)) := by
            show comesP _ _ _ _ _ = _
            unfold comesP
            rw [if_neg]
            rw [HWB.out]; simp
           go_enter Tryz.func32, Tryz.ntmps32
           go_upto_region 1 with fail
           refine wp_region_facts [Fact.eq (.pointer (some ⟨bs, 0, none⟩)),
            Fact.eq (.pointer (some ⟨bs, 0, none⟩)),
            Fact.eq (.pointer (some ⟨bs, 2, none⟩)),
            Fact.eq (.int .i64 3),
            Fact.eq (.bool false),
            Fact.eq (.bool false),
            Fact.eq (.pointer (some ⟨w.heap.size, 0, none⟩)),
            Fact.eq (.int .u64 x.n),
            Fact.eq (.bool false),
            Fact.eq (.bool false),
            Fact.eq (.bool false),
            Fact.eq (.pointer (some ⟨w.heap.size, 0, none⟩)),
            Fact.eq (.int .u64 x.n),
            Fact.eq (.bool false),
            Fact.eq (.bool false),
            Fact.eq (.bool false),
            Fact.eq (.pointer (some ⟨w.heap.size, 0, none⟩)),
            Fact.eq (.int .u64 x.n),
            Fact.eq (.pointer (some ⟨bs, 0, none⟩)),
            Fact.eq (.pointer (some ⟨bs, 0, none⟩)),
            Fact.eq (.pointer (some ⟨bs, 1, none⟩)),
            Fact.eq (.int .u64 (next : Nat)),
            Fact.eq (.bool false),
            Fact.eq (.bool false),
            Fact.eq (.bool false),
            Fact.eq (.pointer (some ⟨bs, 0, none⟩)),
            Fact.eq (.pointer (some ⟨bs, 0, none⟩)),
            Fact.eq (.pointer (some ⟨bs, 0, none⟩)),
            Fact.eq (.slice pa p.length pc),
            Fact.eq (.pointer (some ⟨w.heap.size, 2, none⟩)),
            Fact.eq (.agg #[.string (strOf x.key), .slice x.ha x.av.length x.hc]),
            Fact.eq (.bool false),
            Fact.eq (.bool true),
            Fact.eq (.bool true)]
            [[], [(0, 7)], [(1, 8)], [(2, 9)], [(3, 10)], [(4, 11)], [(5, 12)], [(6, 13), (5, 12)], [(7, 14), (5, 12)], [(5, 12), (8, 15)], [(9, 16)], [(10, 17)], [(11, 18), (10, 17)], [(12, 19), (10, 17)], [(10, 17), (13, 20)], [(14, 21)], [(15, 22)], [(16, 23), (15, 22)], [(15, 22)], [(18, 25), (15, 22)], [(19, 26), (15, 22)], [(20, 27), (15, 22)], [(17, 24), (21, 28), (15, 22)], [(15, 22), (22, 29)], [(23, 30)], [(24, 31)], [(25, 32), (24, 31)], [(26, 33), (24, 31)], [(27, 34), (24, 31)], [(24, 31)], [(29, 36), (24, 31)], [(28, 35), (30, 37), (24, 31)], [(31, 38), (24, 31)], [(24, 31), (32, 39)]]
            [(0, 7), (1, 8), (2, 9), (3, 10), (4, 11), (5, 12), (6, 13), (7, 14), (8, 15), (9, 16), (10, 17), (11, 18), (12, 19), (13, 20), (14, 21), (15, 22), (16, 23), (17, 24), (18, 25), (19, 26), (20, 27), (21, 28), (22, 29), (23, 30), (24, 31), (25, 32), (26, 33), (27, 34), (28, 35), (29, 36), (30, 37), (31, 38), (32, 39), (33, 40)] (by kernel_rfl) (by kernel_rfl) ?_ ?_
           · refine ⟨?_, ?_, ?_, ?_, ?_, ?_, ?_, ?_, ?_, ?_, ?_, ?_, ?_, ?_, ?_, ?_, ?_, ?_, ?_, ?_, ?_, ?_, ?_, ?_, ?_, ?_, ?_, ?_, ?_, ?_, ?_, ?_, ?_, ?_, trivial⟩
             · intro w1 hx1; change wpList _ _ _ _ _ _; exact ob_move rfl rfl rfl rfl rfl
             · rintro w1 hx1 _ rfl; change wpList _ _ _ _ _ _; go_wp2_with fail; exact ⟨rfl, Ext.refl _, rfl, rfl⟩
             · rintro w1 hx1 _ rfl; change wpList _ _ _ _ _ _; go_wp2_with fail; exact ⟨rfl, Ext.refl _, rfl, rfl⟩
             · rintro w1 hx1 _ rfl; change wpList _ _ _ _ _ _; have m2 := cell_of_row _ _ 2 _ _ _ (block_later HSA.out hx1); go_wp2_with fail; exact ⟨rfl, Ext.refl _, rfl, rfl⟩
             · rintro w1 hx1 _ rfl; change wpList _ _ _ _ _ _; go_wp2_with fail; exact ⟨rfl, Ext.refl _, rfl, rfl⟩
             · rintro w1 hx1 _ rfl; change wpList _ _ _ _ _ _; exact ob_move rfl rfl rfl rfl rfl
             · rintro w1 hx1 _ rfl; change wpList _ _ _ _ _ _; go_wp2_with fail; exact ⟨rfl, Ext.refl _, rfl, rfl⟩
             · rintro w1 hx1 _ rfl _ rfl; change wpList _ _ _ _ _ _; have m0 := cell_of_row _ _ 0 _ _ _ (block_later HB.out hx1); go_wp2_with fail; exact ⟨rfl, Ext.refl _, rfl, rfl⟩
             · rintro w1 hx1 _ rfl _ rfl; change wpList _ _ _ _ _ _; go_wp2_with fail; exact ⟨rfl, Ext.refl _, rfl, rfl⟩
             · rintro w1 hx1 _ rfl _ rfl; change wpList _ _ _ _ _ _; exact ob_pick rfl rfl rfl rfl rfl rfl
             · rintro w1 hx1 _ rfl; change wpList _ _ _ _ _ _; exact ob_move rfl rfl rfl rfl rfl
             · rintro w1 hx1 _ rfl; change wpList _ _ _ _ _ _; go_wp2_with fail; exact ⟨rfl, Ext.refl _, rfl, rfl⟩
             · rintro w1 hx1 _ rfl _ rfl; change wpList _ _ _ _ _ _; have m0 := cell_of_row _ _ 0 _ _ _ (block_later HB.out hx1); go_wp2_with fail; exact ⟨rfl, Ext.refl _, rfl, rfl⟩
             · rintro w1 hx1 _ rfl _ rfl; change wpList _ _ _ _ _ _; go_wp2_with fail; exact ⟨rfl, Ext.refl _, rfl, rfl⟩
             · rintro w1 hx1 _ rfl _ rfl; change wpList _ _ _ _ _ _; exact ob_pick rfl rfl rfl rfl rfl rfl
             · rintro w1 hx1 _ rfl; change wpList _ _ _ _ _ _; exact ob_move rfl rfl rfl rfl rfl
             · rintro w1 hx1 _ rfl; change wpList _ _ _ _ _ _; go_wp2_with fail; exact ⟨rfl, Ext.refl _, rfl, rfl⟩
             · rintro w1 hx1 _ rfl _ rfl; change wpList _ _ _ _ _ _; have m0 := cell_of_row _ _ 0 _ _ _ (block_later HB.out hx1); go_wp2_with fail; exact ⟨rfl, Ext.refl _, rfl, rfl⟩
             · rintro w1 hx1 _ rfl; change wpList _ _ _ _ _ _; exact ob_move rfl rfl rfl rfl rfl
             · rintro w1 hx1 _ rfl _ rfl; change wpList _ _ _ _ _ _; go_wp2_with fail; exact ⟨rfl, Ext.refl _, rfl, rfl⟩
             · rintro w1 hx1 _ rfl _ rfl; change wpList _ _ _ _ _ _; go_wp2_with fail; exact ⟨rfl, Ext.refl _, rfl, rfl⟩
             · rintro w1 hx1 _ rfl _ rfl; change wpList _ _ _ _ _ _; have m1 := cell_of_row _ _ 1 _ _ _ (block_later HSA.out hx1); go_wp2_with fail; exact ⟨rfl, Ext.refl _, rfl, rfl⟩
             · rintro w1 hx1 _ rfl _ rfl _ rfl; change wpList _ _ _ _ _ _; go_wp2_with fail; exact ⟨rfl, Ext.refl _, rfl, rfl⟩
             · rintro w1 hx1 _ rfl _ rfl; change wpList _ _ _ _ _ _; exact ob_pick rfl rfl rfl rfl rfl rfl
             · rintro w1 hx1 _ rfl; change wpList _ _ _ _ _ _; exact ob_move rfl rfl rfl rfl rfl
             · rintro w1 hx1 _ rfl; change wpList _ _ _ _ _ _; exact ob_move rfl rfl rfl rfl rfl
             · rintro w1 hx1 _ rfl _ rfl; change wpList _ _ _ _ _ _; go_wp2_with fail; exact ⟨rfl, Ext.refl _, rfl, rfl⟩
             · rintro w1 hx1 _ rfl _ rfl; change wpList _ _ _ _ _ _; go_wp2_with fail; exact ⟨rfl, Ext.refl _, rfl, rfl⟩
             · rintro w1 hx1 _ rfl _ rfl; change wpList _ _ _ _ _ _; have m0 := cell_of_row _ _ 0 _ _ _ (block_later HSA.out hx1); go_wp2_with fail; exact ⟨rfl, Ext.refl _, rfl, rfl⟩
             · rintro w1 hx1 _ rfl; change wpList _ _ _ _ _ _; go_wp2_with fail; exact ⟨rfl, Ext.refl _, rfl, rfl⟩
             · rintro w1 hx1 _ rfl _ rfl; change wpList _ _ _ _ _ _; have m2 := cell_of_row _ _ 2 _ _ _ (block_later HB.out hx1); have m3 := cell_of_row _ _ 3 _ _ _ (block_later HB.out hx1); go_wp2_with fail; exact ⟨rfl, Ext.refl _, rfl, rfl⟩
             · rintro w1 hx1 _ rfl _ rfl _ rfl; change wpList _ _ _ _ _ _; go_wp2_with fail; refine (CMT.out _ hx1).mono ?_; rintro e w2 ⟨rfl, hx2⟩; go_wp2_with fail; exact ⟨rfl, hx2, rfl, rfl⟩
             · rintro w1 hx1 _ rfl _ rfl; change wpList _ _ _ _ _ _; go_wp2_with fail; exact ⟨rfl, Ext.refl _, rfl, rfl⟩
             · rintro w1 hx1 _ rfl _ rfl; change wpList _ _ _ _ _ _; exact ob_pick rfl rfl rfl rfl rfl rfl
           · rintro w1 hx1 _ rfl _ rfl _ rfl _ rfl _ rfl _ rfl _ rfl _ rfl _ rfl _ rfl _ rfl _ rfl _ rfl _ rfl _ rfl _ rfl _ rfl _ rfl _ rfl _ rfl _ rfl _ rfl _ rfl _ rfl _ rfl _ rfl _ rfl _ rfl _ rfl _ rfl _ rfl _ rfl _ rfl _ rfl; refine depsThen_nil ?_; dsimp only; simp only [Act.put, List.setIfInBounds_toArray, List.set_cons_zero, List.set_cons_succ]
             go_wp2_with fail
             go_ret
             refine ⟨_, rfl, ?_⟩
             show RtellO _ _ _ _ _ _ _ _ _ _
             rw [HC.out]
             exact NO.out w1 3 (hx1)
              HSP.out.sp
         | true =>
           have HWT : Hid (wantsB p next (PD.ofI x.pi) = true) := by show _ = _; rw [HWB.out, decide_eq_true (show 1 ≤ x.n by omega), decide_eq_true (show x.n ≤ 1099511627776 by omega), decide_eq_true (show next ≤ x.n by omega)]; rfl
           have hnM : x.n ≤ 1099511627776 := by omega
           clear hn0 hmx hlt HWB
           by_cases hr : room < 1
           · have g4 : decide (room < 1) = true := decide_eq_true hr
             have HC : Hid (comesP p room x.pi next 3 = ([], next, 1)) := by show comesP _ _ _ _ _ = _; unfold comesP; rw [if_pos ⟨rfl, HWT.out⟩, if_pos hr]
             clear hr
             go_enter Tryz.func32, Tryz.ntmps32
             go_upto_region 1 with fail
             refine wp_region_facts [Fact.eq (.pointer (some ⟨bs, 0, none⟩)),
              Fact.eq (.pointer (some ⟨bs, 0, none⟩)),
              Fact.eq (.pointer (some ⟨bs, 2, none⟩)),
              Fact.eq (.int .i64 3),
              Fact.eq (.bool false),
              Fact.eq (.bool false),
              Fact.eq (.pointer (some ⟨w.heap.size, 0, none⟩)),
              Fact.eq (.int .u64 x.n),
              Fact.eq (.bool false),
              Fact.eq (.bool false),
              Fact.eq (.bool false),
              Fact.eq (.pointer (some ⟨w.heap.size, 0, none⟩)),
              Fact.eq (.int .u64 x.n),
              Fact.eq (.bool false),
              Fact.eq (.bool false),
              Fact.eq (.bool false),
              Fact.eq (.pointer (some ⟨w.heap.size, 0, none⟩)),
              Fact.eq (.int .u64 x.n),
              Fact.eq (.pointer (some ⟨bs, 0, none⟩)),
              Fact.eq (.pointer (some ⟨bs, 0, none⟩)),
              Fact.eq (.pointer (some ⟨bs, 1, none⟩)),
              Fact.eq (.int .u64 (next : Nat)),
              Fact.eq (.bool false),
              Fact.eq (.bool false),
              Fact.eq (.bool false),
              Fact.eq (.pointer (some ⟨bs, 0, none⟩)),
              Fact.eq (.pointer (some ⟨bs, 0, none⟩)),
              Fact.eq (.pointer (some ⟨bs, 0, none⟩)),
              Fact.eq (.slice pa p.length pc),
              Fact.eq (.pointer (some ⟨w.heap.size, 2, none⟩)),
              Fact.eq (.agg #[.string (strOf x.key), .slice x.ha x.av.length x.hc]),
              Fact.eq (.bool true),
              Fact.eq (.bool false),
              Fact.eq (.bool false)]
              [[], [(0, 7)], [(1, 8)], [(2, 9)], [(3, 10)], [(4, 11)], [(5, 12)], [(6, 13), (5, 12)], [(7, 14), (5, 12)], [(5, 12), (8, 15)], [(9, 16)], [(10, 17)], [(11, 18), (10, 17)], [(12, 19), (10, 17)], [(10, 17), (13, 20)], [(14, 21)], [(15, 22)], [(16, 23), (15, 22)], [(15, 22)], [(18, 25), (15, 22)], [(19, 26), (15, 22)], [(20, 27), (15, 22)], [(17, 24), (21, 28), (15, 22)], [(15, 22), (22, 29)], [(23, 30)], [(24, 31)], [(25, 32), (24, 31)], [(26, 33), (24, 31)], [(27, 34), (24, 31)], [(24, 31)], [(29, 36), (24, 31)], [(28, 35), (30, 37), (24, 31)], [(31, 38), (24, 31)], [(24, 31), (32, 39)]]
              [(0, 7), (1, 8), (2, 9), (3, 10), (4, 11), (5, 12), (6, 13), (7, 14), (8, 15), (9, 16), (10, 17), (11, 18), (12, 19), (13, 20), (14, 21), (15, 22), (16, 23), (17, 24), (18, 25), (19, 26), (20, 27), (21, 28), (22, 29), (23, 30), (24, 31), (25, 32), (26, 33), (27, 34), (28, 35), (29, 36), (30, 37), (31, 38), (32, 39), (33, 40)] (by kernel_rfl) (by kernel_rfl) ?_ ?_
             · refine ⟨?_, ?_, ?_, ?_, ?_, ?_, ?_, ?_, ?_, ?_, ?_, ?_, ?_, ?_, ?_, ?_, ?_, ?_, ?_, ?_, ?_, ?_, ?_, ?_, ?_, ?_, ?_, ?_, ?_, ?_, ?_, ?_, ?_, ?_, trivial⟩
               · intro w1 hx1; change wpList _ _ _ _ _ _; exact ob_move rfl rfl rfl rfl rfl
               · rintro w1 hx1 _ rfl; change wpList _ _ _ _ _ _; go_wp2_with fail; exact ⟨rfl, Ext.refl _, rfl, rfl⟩
               · rintro w1 hx1 _ rfl; change wpList _ _ _ _ _ _; go_wp2_with fail; exact ⟨rfl, Ext.refl _, rfl, rfl⟩
               · rintro w1 hx1 _ rfl; change wpList _ _ _ _ _ _; have m2 := cell_of_row _ _ 2 _ _ _ (block_later HSA.out hx1); go_wp2_with fail; exact ⟨rfl, Ext.refl _, rfl, rfl⟩
               · rintro w1 hx1 _ rfl; change wpList _ _ _ _ _ _; go_wp2_with fail; exact ⟨rfl, Ext.refl _, rfl, rfl⟩
               · rintro w1 hx1 _ rfl; change wpList _ _ _ _ _ _; exact ob_move rfl rfl rfl rfl rfl
               · rintro w1 hx1 _ rfl; change wpList _ _ _ _ _ _; go_wp2_with fail; exact ⟨rfl, Ext.refl _, rfl, rfl⟩
               · rintro w1 hx1 _ rfl _ rfl; change wpList _ _ _ _ _ _; have m0 := cell_of_row _ _ 0 _ _ _ (block_later HB.out hx1); go_wp2_with fail; exact ⟨rfl, Ext.refl _, rfl, rfl⟩
               · rintro w1 hx1 _ rfl _ rfl; change wpList _ _ _ _ _ _; go_wp2_with fail; exact ⟨rfl, Ext.refl _, rfl, rfl⟩
               · rintro w1 hx1 _ rfl _ rfl; change wpList _ _ _ _ _ _; exact ob_pick rfl rfl rfl rfl rfl rfl
               · rintro w1 hx1 _ rfl; change wpList _ _ _ _ _ _; exact ob_move rfl rfl rfl rfl rfl
               · rintro w1 hx1 _ rfl; change wpList _ _ _ _ _ _; go_wp2_with fail; exact ⟨rfl, Ext.refl _, rfl, rfl⟩
               · rintro w1 hx1 _ rfl _ rfl; change wpList _ _ _ _ _ _; have m0 := cell_of_row _ _ 0 _ _ _ (block_later HB.out hx1); go_wp2_with fail; exact ⟨rfl, Ext.refl _, rfl, rfl⟩
               · rintro w1 hx1 _ rfl _ rfl; change wpList _ _ _ _ _ _; go_wp2_with fail; exact ⟨rfl, Ext.refl _, rfl, rfl⟩
               · rintro w1 hx1 _ rfl _ rfl; change wpList _ _ _ _ _ _; exact ob_pick rfl rfl rfl rfl rfl rfl
               · rintro w1 hx1 _ rfl; change wpList _ _ _ _ _ _; exact ob_move rfl rfl rfl rfl rfl
               · rintro w1 hx1 _ rfl; change wpList _ _ _ _ _ _; go_wp2_with fail; exact ⟨rfl, Ext.refl _, rfl, rfl⟩
               · rintro w1 hx1 _ rfl _ rfl; change wpList _ _ _ _ _ _; have m0 := cell_of_row _ _ 0 _ _ _ (block_later HB.out hx1); go_wp2_with fail; exact ⟨rfl, Ext.refl _, rfl, rfl⟩
               · rintro w1 hx1 _ rfl; change wpList _ _ _ _ _ _; exact ob_move rfl rfl rfl rfl rfl
               · rintro w1 hx1 _ rfl _ rfl; change wpList _ _ _ _ _ _; go_wp2_with fail; exact ⟨rfl, Ext.refl _, rfl, rfl⟩
               · rintro w1 hx1 _ rfl _ rfl; change wpList _ _ _ _ _ _; go_wp2_with fail; exact ⟨rfl, Ext.refl _, rfl, rfl⟩
               · rintro w1 hx1 _ rfl _ rfl; change wpList _ _ _ _ _ _; have m1 := cell_of_row _ _ 1 _ _ _ (block_later HSA.out hx1); go_wp2_with fail; exact ⟨rfl, Ext.refl _, rfl, rfl⟩
               · rintro w1 hx1 _ rfl _ rfl _ rfl; change wpList _ _ _ _ _ _; go_wp2_with fail; exact ⟨rfl, Ext.refl _, rfl, rfl⟩
               · rintro w1 hx1 _ rfl _ rfl; change wpList _ _ _ _ _ _; exact ob_pick rfl rfl rfl rfl rfl rfl
               · rintro w1 hx1 _ rfl; change wpList _ _ _ _ _ _; exact ob_move rfl rfl rfl rfl rfl
               · rintro w1 hx1 _ rfl; change wpList _ _ _ _ _ _; exact ob_move rfl rfl rfl rfl rfl
               · rintro w1 hx1 _ rfl _ rfl; change wpList _ _ _ _ _ _; go_wp2_with fail; exact ⟨rfl, Ext.refl _, rfl, rfl⟩
               · rintro w1 hx1 _ rfl _ rfl; change wpList _ _ _ _ _ _; go_wp2_with fail; exact ⟨rfl, Ext.refl _, rfl, rfl⟩
               · rintro w1 hx1 _ rfl _ rfl; change wpList _ _ _ _ _ _; have m0 := cell_of_row _ _ 0 _ _ _ (block_later HSA.out hx1); go_wp2_with fail; exact ⟨rfl, Ext.refl _, rfl, rfl⟩
               · rintro w1 hx1 _ rfl; change wpList _ _ _ _ _ _; go_wp2_with fail; exact ⟨rfl, Ext.refl _, rfl, rfl⟩
               · rintro w1 hx1 _ rfl _ rfl; change wpList _ _ _ _ _ _; have m2 := cell_of_row _ _ 2 _ _ _ (block_later HB.out hx1); have m3 := cell_of_row _ _ 3 _ _ _ (block_later HB.out hx1); go_wp2_with fail; exact ⟨rfl, Ext.refl _, rfl, rfl⟩
               · rintro w1 hx1 _ rfl _ rfl _ rfl; change wpList _ _ _ _ _ _; go_wp2_with fail; refine (CMT.out _ hx1).mono ?_; rintro e w2 ⟨rfl, hx2⟩; go_wp2_with fail; exact ⟨rfl, hx2, rfl, rfl⟩
               · rintro w1 hx1 _ rfl _ rfl; change wpList _ _ _ _ _ _; go_wp2_with fail; exact ⟨rfl, Ext.refl _, rfl, rfl⟩
               · rintro w1 hx1 _ rfl _ rfl; change wpList _ _ _ _ _ _; exact ob_pick rfl rfl rfl rfl rfl rfl
             · rintro w1 hx1 _ rfl _ rfl _ rfl _ rfl _ rfl _ rfl _ rfl _ rfl _ rfl _ rfl _ rfl _ rfl _ rfl _ rfl _ rfl _ rfl _ rfl _ rfl _ rfl _ rfl _ rfl _ rfl _ rfl _ rfl _ rfl _ rfl _ rfl _ rfl _ rfl _ rfl _ rfl _ rfl _ rfl _ rfl; refine depsThen_nil ?_; dsimp only; simp only [Act.put, List.setIfInBounds_toArray, List.set_cons_zero, List.set_cons_succ]
               have hs1 : RsB w1 bs _ next 3 cnt := block_later HSA.out hx1
               have e2 := cell_of_row _ _ 2 _ _ _ hs1
               have y2 := frozen_of_row _ _ 2 _ _ hs1
               have HS2 := Lib.hid (RsB.set2 hs1 1)
               go_wp2_with fail
               go_ret
               refine ⟨_, rfl, ?_⟩
               show RtellO _ _ _ _ _ _ _ _ _ _
               rw [HC.out]
               exact ⟨[], rfl, own_none _ _ _ _, (fun _ h => by cases h), HS2.out, grown_at (grown_extJ (HX.out.trans hx1)) (grown_setJ w1 bs 2 (.int .i64 1))⟩
           · have g4 : decide (room < 1) = false := decide_eq_false hr
             have HC : Hid (comesP p room x.pi next 3 = ([PD.ofI x.pi], x.n + 1, 3)) := by show comesP _ _ _ _ _ = _; unfold comesP; rw [if_pos ⟨rfl, HWT.out⟩, if_neg hr]; rfl
             clear hr
             obtain ⟨n1, hn1⟩ : ∃ n1, n1 = x.n + 1 := ⟨_, rfl⟩
             have qn : (x.n : Int) + 1 = (n1 : Int) := by omega
             have HN1 := Lib.hid hn1
             clear hn1
             go_enter Tryz.func32, Tryz.ntmps32
             go_upto_region 1 with fail
             refine wp_region_facts [Fact.eq (.pointer (some ⟨bs, 0, none⟩)),
              Fact.eq (.pointer (some ⟨bs, 0, none⟩)),
              Fact.eq (.pointer (some ⟨bs, 2, none⟩)),
              Fact.eq (.int .i64 3),
              Fact.eq (.bool false),
              Fact.eq (.bool false),
              Fact.eq (.pointer (some ⟨w.heap.size, 0, none⟩)),
              Fact.eq (.int .u64 x.n),
              Fact.eq (.bool false),
              Fact.eq (.bool false),
              Fact.eq (.bool false),
              Fact.eq (.pointer (some ⟨w.heap.size, 0, none⟩)),
              Fact.eq (.int .u64 x.n),
              Fact.eq (.bool false),
              Fact.eq (.bool false),
              Fact.eq (.bool false),
              Fact.eq (.pointer (some ⟨w.heap.size, 0, none⟩)),
              Fact.eq (.int .u64 x.n),
              Fact.eq (.pointer (some ⟨bs, 0, none⟩)),
              Fact.eq (.pointer (some ⟨bs, 0, none⟩)),
              Fact.eq (.pointer (some ⟨bs, 1, none⟩)),
              Fact.eq (.int .u64 (next : Nat)),
              Fact.eq (.bool false),
              Fact.eq (.bool false),
              Fact.eq (.bool false),
              Fact.eq (.pointer (some ⟨bs, 0, none⟩)),
              Fact.eq (.pointer (some ⟨bs, 0, none⟩)),
              Fact.eq (.pointer (some ⟨bs, 0, none⟩)),
              Fact.eq (.slice pa p.length pc),
              Fact.eq (.pointer (some ⟨w.heap.size, 2, none⟩)),
              Fact.eq (.agg #[.string (strOf x.key), .slice x.ha x.av.length x.hc]),
              Fact.eq (.bool true),
              Fact.eq (.bool false),
              Fact.eq (.bool false)]
              [[], [(0, 7)], [(1, 8)], [(2, 9)], [(3, 10)], [(4, 11)], [(5, 12)], [(6, 13), (5, 12)], [(7, 14), (5, 12)], [(5, 12), (8, 15)], [(9, 16)], [(10, 17)], [(11, 18), (10, 17)], [(12, 19), (10, 17)], [(10, 17), (13, 20)], [(14, 21)], [(15, 22)], [(16, 23), (15, 22)], [(15, 22)], [(18, 25), (15, 22)], [(19, 26), (15, 22)], [(20, 27), (15, 22)], [(17, 24), (21, 28), (15, 22)], [(15, 22), (22, 29)], [(23, 30)], [(24, 31)], [(25, 32), (24, 31)], [(26, 33), (24, 31)], [(27, 34), (24, 31)], [(24, 31)], [(29, 36), (24, 31)], [(28, 35), (30, 37), (24, 31)], [(31, 38), (24, 31)], [(24, 31), (32, 39)]]
              [(0, 7), (1, 8), (2, 9), (3, 10), (4, 11), (5, 12), (6, 13), (7, 14), (8, 15), (9, 16), (10, 17), (11, 18), (12, 19), (13, 20), (14, 21), (15, 22), (16, 23), (17, 24), (18, 25), (19, 26), (20, 27), (21, 28), (22, 29), (23, 30), (24, 31), (25, 32), (26, 33), (27, 34), (28, 35), (29, 36), (30, 37), (31, 38), (32, 39), (33, 40)] (by kernel_rfl) (by kernel_rfl) ?_ ?_
             · refine ⟨?_, ?_, ?_, ?_, ?_, ?_, ?_, ?_, ?_, ?_, ?_, ?_, ?_, ?_, ?_, ?_, ?_, ?_, ?_, ?_, ?_, ?_, ?_, ?_, ?_, ?_, ?_, ?_, ?_, ?_, ?_, ?_, ?_, ?_, trivial⟩
               · intro w1 hx1; change wpList _ _ _ _ _ _; exact ob_move rfl rfl rfl rfl rfl
               · rintro w1 hx1 _ rfl; change wpList _ _ _ _ _ _; go_wp2_with fail; exact ⟨rfl, Ext.refl _, rfl, rfl⟩
               · rintro w1 hx1 _ rfl; change wpList _ _ _ _ _ _; go_wp2_with fail; exact ⟨rfl, Ext.refl _, rfl, rfl⟩
               · rintro w1 hx1 _ rfl; change wpList _ _ _ _ _ _; have m2 := cell_of_row _ _ 2 _ _ _ (block_later HSA.out hx1); go_wp2_with fail; exact ⟨rfl, Ext.refl _, rfl, rfl⟩
               · rintro w1 hx1 _ rfl; change wpList _ _ _ _ _ _; go_wp2_with fail; exact ⟨rfl, Ext.refl _, rfl, rfl⟩
               · rintro w1 hx1 _ rfl; change wpList _ _ _ _ _ _; exact ob_move rfl rfl rfl rfl rfl
               · rintro w1 hx1 _ rfl; change wpList _ _ _ _ _ _; go_wp2_with fail; exact ⟨rfl, Ext.refl _, rfl, rfl⟩
               · rintro w1 hx1 _ rfl _ rfl; change wpList _ _ _ _ _ _; have m0 := cell_of_row _ _ 0 _ _ _ (block_later HB.out hx1); go_wp2_with fail; exact ⟨rfl, Ext.refl _, rfl, rfl⟩
               · rintro w1 hx1 _ rfl _ rfl; change wpList _ _ _ _ _ _; go_wp2_with fail; exact ⟨rfl, Ext.refl _, rfl, rfl⟩
               · rintro w1 hx1 _ rfl _ rfl; change wpList _ _ _ _ _ _; exact ob_pick rfl rfl rfl rfl rfl rfl
               · rintro w1 hx1 _ rfl; change wpList _ _ _ _ _ _; exact ob_move rfl rfl rfl rfl rfl
               · rintro w1 hx1 _ rfl; change wpList _ _ _ _ _ _; go_wp2_with fail; exact ⟨rfl, Ext.refl _, rfl, rfl⟩
               · rintro w1 hx1 _ rfl _ rfl; change wpList _ _ _ _ _ _; have m0 := cell_of_row _ _ 0 _ _ _ (block_later HB.out hx1); go_wp2_with fail; exact ⟨rfl, Ext.refl _, rfl, rfl⟩
               · rintro w1 hx1 _ rfl _ rfl; change wpList _ _ _ _ _ _; go_wp2_with fail; exact ⟨rfl, Ext.refl _, rfl, rfl⟩
               · rintro w1 hx1 _ rfl _ rfl; change wpList _ _ _ _ _ _; exact ob_pick rfl rfl rfl rfl rfl rfl
               · rintro w1 hx1 _ rfl; change wpList _ _ _ _ _ _; exact ob_move rfl rfl rfl rfl rfl
               · rintro w1 hx1 _ rfl; change wpList _ _ _ _ _ _; go_wp2_with fail; exact ⟨rfl, Ext.refl _, rfl, rfl⟩
               · rintro w1 hx1 _ rfl _ rfl; change wpList _ _ _ _ _ _; have m0 := cell_of_row _ _ 0 _ _ _ (block_later HB.out hx1); go_wp2_with fail; exact ⟨rfl, Ext.refl _, rfl, rfl⟩
               · rintro w1 hx1 _ rfl; change wpList _ _ _ _ _ _; exact ob_move rfl rfl rfl rfl rfl
               · rintro w1 hx1 _ rfl _ rfl; change wpList _ _ _ _ _ _; go_wp2_with fail; exact ⟨rfl, Ext.refl _, rfl, rfl⟩
               · rintro w1 hx1 _ rfl _ rfl; change wpList _ _ _ _ _ _; go_wp2_with fail; exact ⟨rfl, Ext.refl _, rfl, rfl⟩
               · rintro w1 hx1 _ rfl _ rfl; change wpList _ _ _ _ _ _; have m1 := cell_of_row _ _ 1 _ _ _ (block_later HSA.out hx1); go_wp2_with fail; exact ⟨rfl, Ext.refl _, rfl, rfl⟩
               · rintro w1 hx1 _ rfl _ rfl _ rfl; change wpList _ _ _ _ _ _; go_wp2_with fail; exact ⟨rfl, Ext.refl _, rfl, rfl⟩
               · rintro w1 hx1 _ rfl _ rfl; change wpList _ _ _ _ _ _; exact ob_pick rfl rfl rfl rfl rfl rfl
               · rintro w1 hx1 _ rfl; change wpList _ _ _ _ _ _; exact ob_move rfl rfl rfl rfl rfl
               · rintro w1 hx1 _ rfl; change wpList _ _ _ _ _ _; exact ob_move rfl rfl rfl rfl rfl
               · rintro w1 hx1 _ rfl _ rfl; change wpList _ _ _ _ _ _; go_wp2_with fail; exact ⟨rfl, Ext.refl _, rfl, rfl⟩
               · rintro w1 hx1 _ rfl _ rfl; change wpList _ _ _ _ _ _; go_wp2_with fail; exact ⟨rfl, Ext.refl _, rfl, rfl⟩
               · rintro w1 hx1 _ rfl _ rfl; change wpList _ _ _ _ _ _; have m0 := cell_of_row _ _ 0 _ _ _ (block_later HSA.out hx1); go_wp2_with fail; exact ⟨rfl, Ext.refl _, rfl, rfl⟩
               · rintro w1 hx1 _ rfl; change wpList _ _ _ _ _ _; go_wp2_with fail; exact ⟨rfl, Ext.refl _, rfl, rfl⟩
               · rintro w1 hx1 _ rfl _ rfl; change wpList _ _ _ _ _ _; have m2 := cell_of_row _ _ 2 _ _ _ (block_later HB.out hx1); have m3 := cell_of_row _ _ 3 _ _ _ (block_later HB.out hx1); go_wp2_with fail; exact ⟨rfl, Ext.refl _, rfl, rfl⟩
               · rintro w1 hx1 _ rfl _ rfl _ rfl; change wpList _ _ _ _ _ _; go_wp2_with fail; refine (CMT.out _ hx1).mono ?_; rintro e w2 ⟨rfl, hx2⟩; go_wp2_with fail; exact ⟨rfl, hx2, rfl, rfl⟩
               · rintro w1 hx1 _ rfl _ rfl; change wpList _ _ _ _ _ _; go_wp2_with fail; exact ⟨rfl, Ext.refl _, rfl, rfl⟩
               · rintro w1 hx1 _ rfl _ rfl; change wpList _ _ _ _ _ _; exact ob_pick rfl rfl rfl rfl rfl rfl
             · rintro w1 hx1 _ rfl _ rfl _ rfl _ rfl _ rfl _ rfl _ rfl _ rfl _ rfl _ rfl _ rfl _ rfl _ rfl _ rfl _ rfl _ rfl _ rfl _ rfl _ rfl _ rfl _ rfl _ rfl _ rfl _ rfl _ rfl _ rfl _ rfl _ rfl _ rfl _ rfl _ rfl _ rfl _ rfl _ rfl; refine depsThen_nil ?_; dsimp only; simp only [Act.put, List.setIfInBounds_toArray, List.set_cons_zero, List.set_cons_succ]
               have hs1 : RsB w1 bs _ next 3 cnt := block_later HSA.out hx1
               have e1 := cell_of_row _ _ 1 _ _ _ hs1
               have y1 := frozen_of_row _ _ 1 _ _ hs1
               have HS2 := Lib.hid (RsB.set1 hs1 (n1 : Nat))
               have hb1 := block_later HB.out hx1
               have b0 := cell_of_row _ _ 0 _ _ _ hb1
               have hne : w.heap.size ≠ bs := by have h1 := (Array.getElem?_eq_some_iff.1 HSP.out.sp).1; omega
               have hb2 := (setCell_block_far w1 ⟨bs, 1, none⟩ (.int .u64 (n1 : Nat)) w.heap.size hne).trans hb1
               go_upto_region 7 with fail
               have HX1 := Lib.hid hx1
               have HG2 := Lib.hid (grown_setJ w1 bs 1 (.int .u64 (n1 : Nat)))
               have HB2 := Lib.hid hb2
               clear e1 y1 hs1 hb1 b0 hb2
               generalize w1.setCell ⟨bs, 1, none⟩ (.int .u64 (n1 : Nat)) = w2 at *
               have b0 := cell_of_row _ _ 0 _ _ _ HB2.out
               have b1 := cell_of_row _ _ 1 _ _ _ HB2.out
               have b2 := cell_of_row _ _ 2 _ _ _ HB2.out
               have b3 := cell_of_row _ _ 3 _ _ _ HB2.out
               go_wp2_with fail
               go_ret
               refine ⟨.slice (some ⟨w2.heap.size, 0, none⟩) 1 1, rfl, ?_⟩
               show RtellO _ _ _ _ _ _ _ _ _ _
               rw [HC.out]
               have hgr := grown_at (grown_extJ (HX.out.trans HX1.out)) HG2.out
               have hx3 := (boxes1 w2 (.cells #[.int .u64 x.n, .int .u64 x.t, .string (strOf x.key), .slice x.ha x.av.length x.hc, .int .u64 0, .int .u64 0] 104)).1
               refine ⟨[DM.ofI x], rfl, ?_, ?_, ?_, grown_at hgr (grown_extJ hx3)⟩
               · exact own_low (World.ownsRow_lit (base := w2.heap.size) (e := 104) (size := 6) w2 (dmC (DM.ofI x)).toArray 1 (Nat.le_refl _) (by decide) rfl) hgr.size
               · intro y hy
                 rw [List.mem_singleton.1 hy]
                 exact HAT.out
               · have := block_later HS2.out hx3
                 rw [HN1.out] at this
                 exact this
 · have g0 : (st != 3) = true := bne_iff_ne.2 h3
   have HC : Hid (comesP p room x.pi next st = ([], next, st)) := by
    show comesP _ _ _ _ _ = _
    unfold comesP
    rw [if_neg]
    exact fun h => h3 h.1
   go_enter Tryz.func32, Tryz.ntmps32
   go_upto_region 1 with fail
   refine wp_region_facts [Fact.eq (.pointer (some ⟨bs, 0, none⟩)),
    Fact.eq (.pointer (some ⟨bs, 0, none⟩)),
    Fact.eq (.pointer (some ⟨bs, 2, none⟩)),
    Fact.eq (.int .i64 st),
    Fact.eq (.bool true),
    Fact.eq (.bool true),
    Fact.eq undef,
    Fact.eq undef,
    Fact.eq undef,
    Fact.eq (.bool true),
    Fact.eq (.bool true),
    Fact.eq undef,
    Fact.eq undef,
    Fact.eq undef,
    Fact.eq (.bool true),
    Fact.eq (.bool true),
    Fact.eq undef,
    Fact.eq undef,
    Fact.eq undef,
    Fact.eq undef,
    Fact.eq undef,
    Fact.eq undef,
    Fact.eq undef,
    Fact.eq (.bool true),
    Fact.eq (.bool true),
    Fact.eq undef,
    Fact.eq undef,
    Fact.eq undef,
    Fact.eq undef,
    Fact.eq undef,
    Fact.eq undef,
    Fact.eq undef,
    Fact.eq undef,
    Fact.eq (.bool true)]
    [[], [(0, 7)], [(1, 8)], [(2, 9)], [(3, 10)], [(4, 11)], [(5, 12)], [(6, 13), (5, 12)], [(7, 14), (5, 12)], [(5, 12), (8, 15)], [(9, 16)], [(10, 17)], [(11, 18), (10, 17)], [(12, 19), (10, 17)], [(10, 17), (13, 20)], [(14, 21)], [(15, 22)], [(16, 23), (15, 22)], [(15, 22)], [(18, 25), (15, 22)], [(19, 26), (15, 22)], [(20, 27), (15, 22)], [(17, 24), (21, 28), (15, 22)], [(15, 22), (22, 29)], [(23, 30)], [(24, 31)], [(25, 32), (24, 31)], [(26, 33), (24, 31)], [(27, 34), (24, 31)], [(24, 31)], [(29, 36), (24, 31)], [(28, 35), (30, 37), (24, 31)], [(31, 38), (24, 31)], [(24, 31), (32, 39)]]
    [(0, 7), (1, 8), (2, 9), (3, 10), (4, 11), (5, 12), (6, 13), (7, 14), (8, 15), (9, 16), (10, 17), (11, 18), (12, 19), (13, 20), (14, 21), (15, 22), (16, 23), (17, 24), (18, 25), (19, 26), (20, 27), (21, 28), (22, 29), (23, 30), (24, 31), (25, 32), (26, 33), (27, 34), (28, 35), (29, 36), (30, 37), (31, 38), (32, 39), (33, 40)] (by kernel_rfl) (by kernel_rfl) ?_ ?_
   · refine ⟨?_, ?_, ?_, ?_, ?_, ?_, ?_, ?_, ?_, ?_, ?_, ?_, ?_, ?_, ?_, ?_, ?_, ?_, ?_, ?_, ?_, ?_, ?_, ?_, ?_, ?_, ?_, ?_, ?_, ?_, ?_, ?_, ?_, ?_, trivial⟩
     · intro w1 hx1; change wpList _ _ _ _ _ _; exact ob_move rfl rfl rfl rfl rfl
     · rintro w1 hx1 _ rfl; change wpList _ _ _ _ _ _; go_wp2_with fail; exact ⟨rfl, Ext.refl _, rfl, rfl⟩
     · rintro w1 hx1 _ rfl; change wpList _ _ _ _ _ _; go_wp2_with fail; exact ⟨rfl, Ext.refl _, rfl, rfl⟩
     · rintro w1 hx1 _ rfl; change wpList _ _ _ _ _ _; have m2 := cell_of_row _ _ 2 _ _ _ (block_later HSA.out hx1); go_wp2_with fail; exact ⟨rfl, Ext.refl _, rfl, rfl⟩
     · rintro w1 hx1 _ rfl; change wpList _ _ _ _ _ _; go_wp2_with fail; exact ⟨rfl, Ext.refl _, rfl, rfl⟩
     · rintro w1 hx1 _ rfl; change wpList _ _ _ _ _ _; exact ob_move rfl rfl rfl rfl rfl
     · rintro w1 hx1 _ rfl; change wpList _ _ _ _ _ _; exact ob_skip rfl rfl rfl rfl
     · rintro w1 hx1 _ rfl _ rfl; change wpList _ _ _ _ _ _; exact ob_skip rfl rfl rfl rfl
     · rintro w1 hx1 _ rfl _ rfl; change wpList _ _ _ _ _ _; exact ob_skip rfl rfl rfl rfl
     · rintro w1 hx1 _ rfl _ rfl; change wpList _ _ _ _ _ _; exact ob_pick rfl rfl rfl rfl rfl rfl
     · rintro w1 hx1 _ rfl; change wpList _ _ _ _ _ _; exact ob_move rfl rfl rfl rfl rfl
     · rintro w1 hx1 _ rfl; change wpList _ _ _ _ _ _; exact ob_skip rfl rfl rfl rfl
     · rintro w1 hx1 _ rfl _ rfl; change wpList _ _ _ _ _ _; exact ob_skip rfl rfl rfl rfl
     · rintro w1 hx1 _ rfl _ rfl; change wpList _ _ _ _ _ _; exact ob_skip rfl rfl rfl rfl
     · rintro w1 hx1 _ rfl _ rfl; change wpList _ _ _ _ _ _; exact ob_pick rfl rfl rfl rfl rfl rfl
     · rintro w1 hx1 _ rfl; change wpList _ _ _ _ _ _; exact ob_move rfl rfl rfl rfl rfl
     · rintro w1 hx1 _ rfl; change wpList _ _ _ _ _ _; exact ob_skip rfl rfl rfl rfl
     · rintro w1 hx1 _ rfl _ rfl; change wpList _ _ _ _ _ _; exact ob_skip rfl rfl rfl rfl
     · rintro w1 hx1 _ rfl; change wpList _ _ _ _ _ _; exact ob_skip rfl rfl rfl rfl
     · rintro w1 hx1 _ rfl _ rfl; change wpList _ _ _ _ _ _; exact ob_skip rfl rfl rfl rfl
     · rintro w1 hx1 _ rfl _ rfl; change wpList _ _ _ _ _ _; exact ob_skip rfl rfl rfl rfl
     · rintro w1 hx1 _ rfl _ rfl; change wpList _ _ _ _ _ _; exact ob_skip rfl rfl rfl rfl
     · rintro w1 hx1 _ rfl _ rfl _ rfl; change wpList _ _ _ _ _ _; exact ob_skip rfl rfl rfl rfl
     · rintro w1 hx1 _ rfl _ rfl; change wpList _ _ _ _ _ _; exact ob_pick rfl rfl rfl rfl rfl rfl
     · rintro w1 hx1 _ rfl; change wpList _ _ _ _ _ _; exact ob_move rfl rfl rfl rfl rfl
     · rintro w1 hx1 _ rfl; change wpList _ _ _ _ _ _; exact ob_skip rfl rfl rfl rfl
     · rintro w1 hx1 _ rfl _ rfl; change wpList _ _ _ _ _ _; exact ob_skip rfl rfl rfl rfl
     · rintro w1 hx1 _ rfl _ rfl; change wpList _ _ _ _ _ _; exact ob_skip rfl rfl rfl rfl
     · rintro w1 hx1 _ rfl _ rfl; change wpList _ _ _ _ _ _; exact ob_skip rfl rfl rfl rfl
     · rintro w1 hx1 _ rfl; change wpList _ _ _ _ _ _; exact ob_skip rfl rfl rfl rfl
     · rintro w1 hx1 _ rfl _ rfl; change wpList _ _ _ _ _ _; exact ob_skip rfl rfl rfl rfl
     · rintro w1 hx1 _ rfl _ rfl _ rfl; change wpList _ _ _ _ _ _; exact ob_skip rfl rfl rfl rfl
     · rintro w1 hx1 _ rfl _ rfl; change wpList _ _ _ _ _ _; exact ob_skip rfl rfl rfl rfl
     · rintro w1 hx1 _ rfl _ rfl; change wpList _ _ _ _ _ _; exact ob_pick rfl rfl rfl rfl rfl rfl
   · rintro w1 hx1 _ rfl _ rfl _ rfl _ rfl _ rfl _ rfl _ rfl _ rfl _ rfl _ rfl _ rfl _ rfl _ rfl _ rfl _ rfl _ rfl _ rfl _ rfl _ rfl _ rfl _ rfl _ rfl _ rfl _ rfl _ rfl _ rfl _ rfl _ rfl _ rfl _ rfl _ rfl _ rfl _ rfl _ rfl; refine depsThen_nil ?_; dsimp only; simp only [Act.put, List.setIfInBounds_toArray, List.set_cons_zero, List.set_cons_succ]
     go_wp2_with fail
     go_ret
     refine ⟨_, rfl, ?_⟩
     show RtellO _ _ _ _ _ _ _ _ _ _
     rw [HC.out]
     exact NO.out w1 st (hx1)
      HSP.out.sp
end Go.Proofs.YtaklnpjpndkccaaGreat
