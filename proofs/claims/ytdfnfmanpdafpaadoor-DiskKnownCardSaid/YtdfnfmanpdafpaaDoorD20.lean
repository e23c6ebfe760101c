/- Disk: the law's do: a call made. -/
import Derived.Test.YtdfnfmanpdafpaaDoorD19
import Derived.Deep.CutBlock
namespace Go.Proofs.YtdfnfmanpdafpaaDoor
open Go.RowKit Go.MapKept

def actV (what : Int) (nm ot : List UInt8) (vb : Value) (n : Int) (vp : Value) : Value := .agg #[.int .i64 what, .string (strOf nm), .string (strOf ot), vb, .int .i64 n, vp]
def u16V (l : List Nat) : List Value := l.map fun p => Value.int .u16 (p : Nat)
/-- A call where it lies. -/
structure ActR (w : World) (a : AD) (vb vp : Value) : Prop where
  b : Bytes w vb a.b
  ps : Row w 1 vp a.ps.length (u16V a.ps)
  pb : ∀ p ∈ a.ps, p < 65536
  bl : a.b.length ≤ 140737488355328
theorem ActR.ext {w w' : World} {a : AD} {vb vp : Value} (h : ActR w a vb vp) (hx : Ext w w') : ActR w' a vb vp := ⟨h.b.ext hx, h.ps.ext hx, h.pb, h.bl⟩
set_option maxRecDepth 100000 in
set_option maxHeartbeats 16000000 in
theorem do_any (w : World) (b : Nat) (F : List Nat) (S : DS) (a : AD) (vb vp : Value) (hd : Dk w b F S) (ok : OkD S) (ha : ActR w a vb vp) (hap : a.ps ≠ [] → ApartD F vp) :
    Calls Tryd.prog 8 #[.pointer (some ⟨b, 0, none⟩), actV a.what a.nm a.ot vb a.n vp] w fun e w' => e = .returned (.int .i64 (doE S a)) ∧ LeftD w b F (doS S a) w' := by
  obtain ⟨ba, bc, rfl, hbc, hbm⟩ := ha.b.shape
  obtain ⟨pa, pc, rfl, hpc, hpm⟩ := Row.shape ha.ps
  obtain ⟨lb, hlb⟩ : ∃ lb, a.b.length = lb := ⟨_, rfl⟩
  obtain ⟨lp, hlp⟩ : ∃ lp, a.ps.length = lp := ⟨_, rfl⟩
  obtain ⟨hx0, hb1⟩ := boxes1 w (.cells #[.int .i64 a.what, .string (strOf a.nm), .string (strOf a.ot), .slice ba a.b.length bc, .int .i64 a.n, .slice pa a.ps.length pc] 31)
  have hown := own03_dk _ _ a.b (ha.b.ext hx0) ha.bl
  obtain ⟨ce, hce⟩ : ∃ ce, ce = doE S a := ⟨_, rfl⟩
  rw [← hce]
  have HCE := Lib.hid hce
  have HPS := Lib.hid ha.ps
  have HPB := Lib.hid ha.pb
  have HLB := Lib.hid hlb
  have HLP := Lib.hid hlp
  have HBL := Lib.hid ha.bl
  have HD := Lib.hid hd
  have HOK := Lib.hid ok
  have HAP := Lib.hid hap
  have HX0 := Lib.hid hx0
  rw [hlb, hlp] at hb1 hown HX0
  rw [hlb] at hbc
  rw [hlp] at HPS HAP hpc
  have c0 := cell_of_row _ _ 0 _ _ _ hb1
  have c3 := cell_of_row _ _ 3 _ _ _ hb1
  have HB1 := Lib.hid hb1
  have HOWN := Lib.hid hown
  unfold actV
  rw [hlb, hlp]
  clear hd ok ha hap hx0 hb1 hlb hlp hce hown
  go_enter Tryd.func8, Tryd.ntmps8
  go_upto_region 2 with (go_at_call 29; (with_reducible refine HOWN.out.mono ?_); rintro e w6 ⟨v, rfl, ho, hx⟩; have HOB := Lib.hid ho; have HX := Lib.hid hx; obtain ⟨oa, oc, rfl, hoc, hom⟩ := ho.shape; clear ho hx)
  obtain ⟨x1, hx1⟩ : ∃ x1, x1 = w.heap.size := ⟨_, rfl⟩
  have HXW := Lib.hid hx1
  generalize w.alloc (.cells #[.int .i64 a.what, .string (strOf a.nm), .string (strOf a.ot), .slice ba lb bc, .int .i64 a.n, .slice pa lp pc] 31) = w2 at *
  rw [← hx1] at HB1 c0 c3 ⊢
  clear hx1 HOWN
  have hb6 := block_later HB1.out HX.out
  have d0 := cell_of_row _ _ 0 _ _ _ hb6
  have d1 := cell_of_row _ _ 1 _ _ _ hb6
  have d2 := cell_of_row _ _ 2 _ _ _ hb6
  have d3 := cell_of_row _ _ 3 _ _ _ hb6
  have d4 := cell_of_row _ _ 4 _ _ _ hb6
  have d5 := cell_of_row _ _ 5 _ _ _ hb6
  have HX6 := Lib.hid (HX0.out.trans HX.out)
  have HD6 := Lib.hid (HD.out.ext HX6.out)
  have HPS6 : Hid (Row w6 1 (.slice pa lp pc) a.ps.length (u16V a.ps)) := by rw [HLP.out]; exact HPS.out.ext HX6.out
  have HFL := Lib.hid HD.out.lt
  have HAPB : Hid (ApartD F (.slice oa a.b.length oc)) := fun B o k c e hm => by
    simp only [Value.slice.injEq] at e
    obtain ⟨rfl, -, -⟩ := e
    have h1 := own_base HOB.out B rfl
    have h2 := HFL.out B hm
    have h3 := HX0.out.size
    omega
  have HAPP : Hid (a.ps ≠ [] → ApartD F (.slice pa lp pc)) := HAP.out
  rw [HLB.out] at HOB HAPB hoc ⊢
  clear c0 c3 hb6
  go_upto_block 0 with fail
  go_cut [6] from 11 to 72 (fun v6 wx => v6 = .int .i64 ce ∧ ∃ F', Hid (Dk wx b F' (doS S a)) ∧ Hid (Moves F F' w6 wx))
  case first =>
    by_cases h0 : a.what = 0
    · have e0 : (a.what == 0) = true := by rw [h0]; rfl
      have hE : ce = askdE S (createL S a.nm) := by rw [HCE.out]; unfold doE; rw [if_pos h0]
      have hS : doS S a = askdS S (createL S a.nm) (createA a.nm) := by unfold doS; rw [if_pos h0]
      have HE := Lib.hid (And.intro hE hS)
      have HCALL := Lib.hid (create_any w6 b F S a.nm HD6.out HOK.out.f0 HOK.out.f1)
      clear hE hS h0
      go_wp2_with (go_at_call 19; (with_reducible refine HCALL.out.mono ?_); rintro e w7 ⟨rfl, hl⟩; have HL := Lib.hid hl; clear hl)
      go_meet
      obtain ⟨F', q1, q2⟩ := HL.out
      exact ⟨by rw [HE.out.1], F', by show Dk _ b F' (doS S a); rw [HE.out.2]; exact q1, q2⟩
    have e0 : (a.what == 0) = false := beq_eq_false_iff_ne.2 h0
    by_cases h1 : a.what = 1
    · have e1 : (a.what == 1) = true := by rw [h1]; rfl
      have hE : ce = askdE S (appendL S a.nm lb) := by rw [HCE.out]; unfold doE; rw [if_neg h0, if_pos h1, HLB.out]
      have hS : doS S a = askdS S (appendL S a.nm lb) (appendA a.nm a.b) := by unfold doS; rw [if_neg h0, if_pos h1, HLB.out]
      have HE := Lib.hid (And.intro hE hS)
      have HCALL := Lib.hid (append_any w6 b F S a.nm HD6.out HOK.out _ a.b lb HLB.out HOB.out.bytes HAPB.out)
      clear hE hS h0 h1
      go_wp2_with (go_at_call 24; (with_reducible refine HCALL.out.mono ?_); rintro e w7 ⟨rfl, hl⟩; have HL := Lib.hid hl; clear hl)
      go_meet
      obtain ⟨F', q1, q2⟩ := HL.out
      exact ⟨by rw [HE.out.1], F', by show Dk _ b F' (doS S a); rw [HE.out.2]; exact q1, q2⟩
    have e1 : (a.what == 1) = false := beq_eq_false_iff_ne.2 h1
    by_cases h2 : a.what = 2
    · have e2 : (a.what == 2) = true := by rw [h2]; rfl
      have hE : ce = askdE S (syncL S a.nm) := by rw [HCE.out]; unfold doE; rw [if_neg h0, if_neg h1, if_pos h2]
      have hS : doS S a = askdS S (syncL S a.nm) (syncA a.nm) := by unfold doS; rw [if_neg h0, if_neg h1, if_pos h2]
      have HE := Lib.hid (And.intro hE hS)
      have HCALL := Lib.hid (sync_any w6 b F S a.nm HD6.out HOK.out.f0 HOK.out.f1)
      clear hE hS h0 h1 h2
      go_wp2_with (go_at_call 25; (with_reducible refine HCALL.out.mono ?_); rintro e w7 ⟨rfl, hl⟩; have HL := Lib.hid hl; clear hl)
      go_meet
      obtain ⟨F', q1, q2⟩ := HL.out
      exact ⟨by rw [HE.out.1], F', by show Dk _ b F' (doS S a); rw [HE.out.2]; exact q1, q2⟩
    have e2 : (a.what == 2) = false := beq_eq_false_iff_ne.2 h2
    by_cases h3 : a.what = 3
    · have e3 : (a.what == 3) = true := by rw [h3]; rfl
      have hE : ce = askdE S (renameL S a.nm a.ot) := by rw [HCE.out]; unfold doE; rw [if_neg h0, if_neg h1, if_neg h2, if_pos h3]
      have hS : doS S a = askdS S (renameL S a.nm a.ot) (renameA a.nm a.ot) := by unfold doS; rw [if_neg h0, if_neg h1, if_neg h2, if_pos h3]
      have HE := Lib.hid (And.intro hE hS)
      have HCALL := Lib.hid (rename_any w6 b F S a.nm a.ot HD6.out HOK.out.f0 HOK.out.f1)
      clear hE hS h0 h1 h2 h3
      go_wp2_with (go_at_call 20; (with_reducible refine HCALL.out.mono ?_); rintro e w7 ⟨rfl, hl⟩; have HL := Lib.hid hl; clear hl)
      go_meet
      obtain ⟨F', q1, q2⟩ := HL.out
      exact ⟨by rw [HE.out.1], F', by show Dk _ b F' (doS S a); rw [HE.out.2]; exact q1, q2⟩
    have e3 : (a.what == 3) = false := beq_eq_false_iff_ne.2 h3
    by_cases h4 : a.what = 4
    · have e4 : (a.what == 4) = true := by rw [h4]; rfl
      have hE : ce = askdE S (truncL S a.nm a.n) := by rw [HCE.out]; unfold doE; rw [if_neg h0, if_neg h1, if_neg h2, if_neg h3, if_pos h4]
      have hS : doS S a = askdS S (truncL S a.nm a.n) (truncA a.nm a.n) := by unfold doS; rw [if_neg h0, if_neg h1, if_neg h2, if_neg h3, if_pos h4]
      have HE := Lib.hid (And.intro hE hS)
      have HCALL := Lib.hid (trunc_any w6 b F S a.nm a.n HD6.out HOK.out)
      clear hE hS h0 h1 h2 h3 h4
      go_wp2_with (go_at_call 21; (with_reducible refine HCALL.out.mono ?_); rintro e w7 ⟨rfl, hl⟩; have HL := Lib.hid hl; clear hl)
      go_meet
      obtain ⟨F', q1, q2⟩ := HL.out
      exact ⟨by rw [HE.out.1], F', by show Dk _ b F' (doS S a); rw [HE.out.2]; exact q1, q2⟩
    have e4 : (a.what == 4) = false := beq_eq_false_iff_ne.2 h4
    by_cases h5 : a.what = 5
    · have e5 : (a.what == 5) = true := by rw [h5]; rfl
      have hE : ce = askdE S (syncL S a.nm) := by rw [HCE.out]; unfold doE; rw [if_neg h0, if_neg h1, if_neg h2, if_neg h3, if_neg h4, if_pos h5]
      have hS : doS S a = askdS S (syncL S a.nm) (removeA a.nm) := by unfold doS; rw [if_neg h0, if_neg h1, if_neg h2, if_neg h3, if_neg h4, if_pos h5]
      have HE := Lib.hid (And.intro hE hS)
      have HCALL := Lib.hid (remove_any w6 b F S a.nm HD6.out HOK.out.f0 HOK.out.f1)
      clear hE hS h0 h1 h2 h3 h4 h5
      go_wp2_with (go_at_call 22; (with_reducible refine HCALL.out.mono ?_); rintro e w7 ⟨rfl, hl⟩; have HL := Lib.hid hl; clear hl)
      go_meet
      obtain ⟨F', q1, q2⟩ := HL.out
      exact ⟨by rw [HE.out.1], F', by show Dk _ b F' (doS S a); rw [HE.out.2]; exact q1, q2⟩
    have e5 : (a.what == 5) = false := beq_eq_false_iff_ne.2 h5
    by_cases h6 : a.what = 6
    · have e6 : (a.what == 6) = true := by rw [h6]; rfl
      have hE : ce = quotaE a.n := by rw [HCE.out]; unfold doE; rw [if_neg h0, if_neg h1, if_neg h2, if_neg h3, if_neg h4, if_neg h5, if_pos h6]
      have hS : doS S a = quotaS S a.n := by unfold doS; rw [if_neg h0, if_neg h1, if_neg h2, if_neg h3, if_neg h4, if_neg h5, if_pos h6]
      have HE := Lib.hid (And.intro hE hS)
      have HCALL := Lib.hid (quota_any w6 b F S a.n HD6.out)
      clear hE hS h0 h1 h2 h3 h4 h5 h6
      go_wp2_with (go_at_call 23; (with_reducible refine HCALL.out.mono ?_); rintro e w7 ⟨rfl, hl⟩; have HL := Lib.hid hl; clear hl)
      go_meet
      obtain ⟨F', q1, q2⟩ := HL.out
      exact ⟨by rw [HE.out.1], F', by show Dk _ b F' (doS S a); rw [HE.out.2]; exact q1, q2⟩
    have e6 : (a.what == 6) = false := beq_eq_false_iff_ne.2 h6
    by_cases h7 : a.what = 7
    · have e7 : (a.what == 7) = true := by rw [h7]; rfl
      have hE : ce = firstE (fuseL S a.n) := by rw [HCE.out]; unfold doE; rw [if_neg h0, if_neg h1, if_neg h2, if_neg h3, if_neg h4, if_neg h5, if_neg h6, if_pos h7]
      have hS : doS S a = fuseS S a.n := by unfold doS; rw [if_neg h0, if_neg h1, if_neg h2, if_neg h3, if_neg h4, if_neg h5, if_neg h6, if_pos h7]
      have HE := Lib.hid (And.intro hE hS)
      have HCALL := Lib.hid (fuse_any w6 b F S a.n HD6.out)
      clear hE hS h0 h1 h2 h3 h4 h5 h6 h7
      go_wp2_with (go_at_call 16; (with_reducible refine HCALL.out.mono ?_); rintro e w7 ⟨rfl, hl⟩; have HL := Lib.hid hl; clear hl)
      go_meet
      obtain ⟨F', q1, q2⟩ := HL.out
      exact ⟨by rw [HE.out.1], F', by show Dk _ b F' (doS S a); rw [HE.out.2]; exact q1, q2⟩
    have e7 : (a.what == 7) = false := beq_eq_false_iff_ne.2 h7
    by_cases h8 : a.what = 8
    · have e8 : (a.what == 8) = true := by rw [h8]; rfl
      have hE : ce = 0 := by rw [HCE.out]; unfold doE; rw [if_neg h0, if_neg h1, if_neg h2, if_neg h3, if_neg h4, if_neg h5, if_neg h6, if_neg h7]
      have hS : doS S a = crashS a.ps a.b S := by unfold doS; rw [if_neg h0, if_neg h1, if_neg h2, if_neg h3, if_neg h4, if_neg h5, if_neg h6, if_neg h7, if_pos h8]
      have HE := Lib.hid (And.intro hE hS)
      have HCALL := Lib.hid (crash_any w6 b F S HD6.out HOK.out _ _ a.ps a.b HPS6.out HPB.out HOB.out.bytes HAPP.out (fun _ => HAPB.out))
      clear hE hS h0 h1 h2 h3 h4 h5 h6 h7 h8
      go_wp2_with (go_at_call 12; (with_reducible refine HCALL.out.mono ?_); rintro e w7 ⟨rfl, hl⟩; have HL := Lib.hid hl; clear hl)
      go_meet
      obtain ⟨F', q1, q2⟩ := HL.out
      exact ⟨by rw [HE.out.1], F', by show Dk _ b F' (doS S a); rw [HE.out.2]; exact q1, q2⟩
    have e8 : (a.what == 8) = false := beq_eq_false_iff_ne.2 h8
    have hE : ce = 0 := by rw [HCE.out]; unfold doE; rw [if_neg h0, if_neg h1, if_neg h2, if_neg h3, if_neg h4, if_neg h5, if_neg h6, if_neg h7]
    have hS : doS S a = S := by unfold doS; rw [if_neg h0, if_neg h1, if_neg h2, if_neg h3, if_neg h4, if_neg h5, if_neg h6, if_neg h7, if_neg h8]
    have HE := Lib.hid (And.intro hE hS)
    clear hE hS h0 h1 h2 h3 h4 h5 h6 h7 h8
    go_wp2_with fail
    go_meet
    exact ⟨by rw [HE.out.1], F, by show Dk _ b F (doS S a); rw [HE.out.2]; exact HD6.out, Moves.of_ext (Ext.refl _)⟩
  case rest =>
    obtain ⟨rfl, F', HDF, HMV⟩ := hcut
    have hFw : ∀ k, (Value.slice oa lb oc).ownBlock = some k → k ∉ F' := fun k hk hm => by
      have h1 := own_base HOB.out k hk
      have h2 := ownD_lt HOB.out k hk
      have h3 := HX0.out.size
      rcases HMV.out.blocks k hm with h | h
      · have := HFL.out k h; omega
      · omega
    have hFF : ∀ k, (Value.slice oa lb oc).ownBlock = some k → k ∉ F := fun k hk hm => by
      have h1 := own_base HOB.out k hk
      have h3 := HX0.out.size
      have := HFL.out k hm; omega
    have hob : wc.ownsRow w2.heap.size 5 1 (.slice oa lb oc) lb (bV a.b) := by
      have h1 := HMV.out.turns.own HOB.out hFF
      rwa [HLB.out] at h1
    have HBO := Lib.hid hob
    have HFW := Lib.hid hFw
    have hlbM : lb ≤ 140737488355328 := by rw [← HLB.out]; exact HBL.out
    have HLM := Lib.hid hlbM
    clear hFw hFF hob hlbM d0 d1 d2 d3 d4 d5
    go_wp2_with fail
    go_loopw [75] (fun i wr => ∃ (k : Nat) (xs : List UInt8), k ≤ lb ∧ i = .int .i64 k ∧ Hid (Dk wr b F' (doS S a)) ∧ Hid (wr.ownsRow w2.heap.size 5 1 (.slice oa lb oc) lb (bV xs)) ∧ Hid (Turns (Value.slice oa lb oc).ownBlock.toList wc wr)) (fun i _ => lb - (intOf i).toNat)
    case atStart => exact ⟨0, a.b, Nat.zero_le _, rfl, HDF.out, HBO.out, Turns.refl _ _⟩
    case round =>
      obtain ⟨k, xs, hk, rfl, HDK, HRW, HTU⟩ := hrel
      by_cases hlt : k < lb
      · have hlbM := HLM.out
        have hI : decide ((k : Int) < (lb : Int)) = true := decide_eq_true (by omega)
        have hkN : (k : Int) < (lb : Int) := by omega
        have hxl : xs.length = lb := by have := HRW.out.1; rw [bV_len] at this; omega
        obtain ⟨g, rfl⟩ : ∃ g, oa = some ⟨g, 0, none⟩ := by
          rcases HRW.out.2 with ⟨e, _⟩ | ⟨g, c9, cur, e, _⟩
          · simp only [Value.slice.injEq] at e; omega
          · simp only [Value.slice.injEq] at e; exact ⟨g, e.1⟩
        have hkx : k < xs.length := by omega
        have q1 := Row.cellAt (Row.of_own HRW.out) (j := k) (u := .int .u8 (xs[k].toNat : Int)) (by unfold bV; rw [List.getElem?_map, List.getElem?_eq_getElem hkx]; rfl) (by omega)
        rw [Nat.zero_add] at q1
        have q2 : wr.frozen? ⟨g, k, none⟩ = false := by
          rcases HRW.out.2 with ⟨e, _⟩ | ⟨vb', c9, cur, e, _, hh, _⟩
          · cases e
          · cases e; exact frozen_of_row _ _ _ _ _ hh
        have hxor : bits .xor .u8 (xs[k].toNat : Int) 255 = ((xs[k] ^^^ 255).toNat : Int) := by
          have := u8_xor_nat xs[k].toNat 255 xs[k].toNat_lt (by omega)
          rw [show ((255 : Int)) = ((255 : Nat) : Int) from rfl, this, UInt8.toNat_xor]; rfl
        obtain ⟨y, hy⟩ : ∃ y : UInt8, y = xs[k] ^^^ 255 := ⟨_, rfl⟩
        rw [← hy] at hxor
        generalize xs[k] = x at *
        clear hy hkx
        go_upto_region 26 with fail
        have h1 := own_setD HRW.out (j := k) (.int .u8 (y.toNat : Int))
        have e : bV (xs.set k y) = (bV xs).set k (.int .u8 (y.toNat : Int)) := by unfold bV; rw [List.map_set]
        rw [← e] at h1
        have ht := turns_cell wr g k (.int .u8 (y.toNat : Int))
        have h2 : Dk (wr.setCell ⟨g, k, none⟩ (.int .u8 (y.toNat : Int))) b F' (doS S a) := HDK.out.turn ht fun q hq hm => by simp at hm; subst hm; exact HFW.out q rfl hq
        have h3 : Turns [g] wc (wr.setCell ⟨g, k, none⟩ (.int .u8 (y.toNat : Int))) := Turns.trans (F := [g]) HTU.out ht fun i hi => .inl hi
        have H1 := Lib.hid h1
        have H2 := Lib.hid h2
        have H3 := Lib.hid h3
        clear h1 h2 h3 ht e q1 q2 hxor
        generalize wr.setCell ⟨g, k, none⟩ (.int .u8 (y.toNat : Int)) = wq at *
        go_wp2_with fail
        go_roundw
        case rel => exact ⟨k + 1, xs.set k y, hlt, by go_num, H2.out, H1.out, H3.out⟩
        case measure => simp [intOf]; omega
      · obtain rfl : k = lb := by omega
        have hI : decide ((k : Int) < (k : Int)) = false := decide_eq_false (by omega)
        have hfin : LeftD w b F (doS S a) wr := by
          refine ⟨F', HDK.out, ?_, fun i hi => ?_⟩
          · refine ((Turns.of_ext HX6.out).trans HMV.out.turns fun i hi => .inl hi).trans HTU.out fun i hi => .inr ?_
            have h1 := own_base HBO.out i (by simpa using hi)
            have h2 := HX0.out.size
            omega
          · rcases HMV.out.blocks i hi with h | h
            · exact .inl h
            · have := HX6.out.size; exact .inr (by omega)
        have HFIN := Lib.hid hfin
        clear hfin
        go_wp2_with fail
        exact bodyPost_ret (v := .int .i64 ce) (by simp [results, Tryd.results8, go_sem]) rfl ⟨rfl, HFIN.out⟩
end Go.Proofs.YtdfnfmanpdafpaaDoor
