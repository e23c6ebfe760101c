/- Splice: what the law's examples say.
A predicate of one zero constraint, made by make. (Of any seat that holds api.Constraint.) -/
import Derived.Laws.OwnMore
import Derived.Test.YtaklnpjpndkccaaGreatPk11
import Derived.Test.YtaklnpjpndkccaaGreatPk3
import Derived.Test.YtaklnpjpndkccaaGreatPk1
namespace Go.Proofs.YtaklnpjpndkccaaGreat
open Go.RowKit Go.Sort

/-- A page literal of the examples, asked of a splicer of no constraints. -/
theorem ex_asked (w0 w : World) (bs : Nat) (pv : Value) (cnt : Int) (S : SplR w0 w bs pv [] 3 2 cnt) (x4 x6 : IM) (h4 : x4.pi = lawI 4) (h6 : x6.pi = lawI 6) (a4 : AttrR w x4.h x4.av) (a6 : AttrR w x6.h x6.av) (ai ag : Nat) (hi : ImR w (.slice (some ⟨ai, 0, none⟩) 2 2) [x4, x6]) (hg : GpR w (.slice (some ⟨ag, 0, none⟩) 1 1) [(5, 5)]) :
    Calls Tryz.prog 13 #[.pointer (some ⟨bs, 0, none⟩), .int .u64 cnt, .agg #[.int .u64 3, .int .u64 7, .slice (some ⟨ai, 0, none⟩) 2 2, .slice (some ⟨ag, 0, none⟩) 1 1, .bool true], .int .i64 9] w
      fun e w' => ∃ v, e = .returned v ∧ Hid (TellO w w' bs pv v [PD.ofI (lawI 4), PD.ofG (5, 5), PD.ofI (lawI 6)] 7 3 cnt) := by
  have hav : ∀ x ∈ [x4, x6], x.av.length * 56 ≤ 140737488355328 := fun x hx => by
    simp only [List.mem_cons, List.not_mem_nil, or_false] at hx
    rcases hx with rfl | rfl
    · rw [show x.av = [([97], vN1 4)] from congrArg PI.av h4]; decide
    · rw [show x.av = [([97], vN1 6)] from congrArg PI.av h6]; decide
  refine (page_yes w0 w bs pv [] 3 cnt S 3 7 _ _ true 9 [x4, x6] [(5, 5)] hi hg (show 2 ≤ 40 by decide) (show 1 ≤ 40 by decide) hav).mono ?_
  rintro e w' ⟨v, rfl, h⟩
  obtain ⟨Zg, Zi, hZg, hZi, hT⟩ := h.out
  rw [ex_row x4 x6 h4 h6 hZg hZi, ex_page] at hT
  exact ⟨v, rfl, hT⟩
theorem ex_asked2 (w0 w5 : World) (bs : Nat) (pv : Value) (cnt : Int) (S : SplR w0 w5 bs pv [] 3 2 cnt) (x4 x6 : IM) (h4 : x4.pi = lawI 4) (h6 : x6.pi = lawI 6) (a4 : AttrR w5 x4.h x4.av) (a6 : AttrR w5 x6.h x6.av) :
    Calls Tryz.prog 13 #[.pointer (some ⟨bs, 0, none⟩), .int .u64 cnt, .agg #[.int .u64 3, .int .u64 7, .slice (some ⟨w5.heap.size, 0, none⟩) 2 2, .slice (some ⟨w5.heap.size + 1, 0, none⟩) 1 1, .bool true], .int .i64 9] ((w5.alloc (.cells #[.int .u64 x4.n, .int .u64 x4.t, .string (strOf x4.key), .slice x4.ha x4.av.length x4.hc, .int .u64 x6.n, .int .u64 x6.t, .string (strOf x6.key), .slice x6.ha x6.av.length x6.hc] 49)).alloc (.cells #[.int .u64 5, .int .u64 5] 51))
      fun e w' => ∃ v, e = .returned v ∧ Hid (TellO ((w5.alloc (.cells #[.int .u64 x4.n, .int .u64 x4.t, .string (strOf x4.key), .slice x4.ha x4.av.length x4.hc, .int .u64 x6.n, .int .u64 x6.t, .string (strOf x6.key), .slice x6.ha x6.av.length x6.hc] 49)).alloc (.cells #[.int .u64 5, .int .u64 5] 51)) w' bs pv v [PD.ofI (lawI 4), PD.ofG (5, 5), PD.ofI (lawI 6)] 7 3 cnt) := by
  have hxA := (boxes1 w5 (.cells #[.int .u64 x4.n, .int .u64 x4.t, .string (strOf x4.key), .slice x4.ha x4.av.length x4.hc, .int .u64 x6.n, .int .u64 x6.t, .string (strOf x6.key), .slice x6.ha x6.av.length x6.hc] 49)).1
  have hxB := (boxes1 (w5.alloc (.cells #[.int .u64 x4.n, .int .u64 x4.t, .string (strOf x4.key), .slice x4.ha x4.av.length x4.hc, .int .u64 x6.n, .int .u64 x6.t, .string (strOf x6.key), .slice x6.ha x6.av.length x6.hc] 49)) (.cells #[.int .u64 5, .int .u64 5] 51)).1
  have hg := gaps_lit (w5.alloc (.cells #[.int .u64 x4.n, .int .u64 x4.t, .string (strOf x4.key), .slice x4.ha x4.av.length x4.hc, .int .u64 x6.n, .int .u64 x6.t, .string (strOf x6.key), .slice x6.ha x6.av.length x6.hc] 49)) 5 5
  rw [World.size_alloc] at hg
  exact ex_asked w0 _ bs pv cnt ((S.later hxA).later hxB) x4 x6 h4 h6 (a4.ext (hxA.trans hxB)) (a6.ext (hxA.trans hxB)) _ _ ((items_lit w5 x4 x6 a4 a6).ext hxB) hg
theorem lawI4 (w : World) : Calls Tryz.prog 23 #[.int .u64 4] w fun e w' => ∃ x : IM, e = .returned (.agg #[.int .u64 x.n, .int .u64 x.t, .string (strOf x.key), .slice x.ha x.av.length x.hc]) ∧ Hid (x.pi = lawI 4 ∧ AttrR w' x.h x.av ∧ Ext w w') := lawI_any w 4 (by decide)
theorem lawI6 (w : World) : Calls Tryz.prog 23 #[.int .u64 6] w fun e w' => ∃ x : IM, e = .returned (.agg #[.int .u64 x.n, .int .u64 x.t, .string (strOf x.key), .slice x.ha x.av.length x.hc]) ∧ Hid (x.pi = lawI 6 ∧ AttrR w' x.h x.av ∧ Ext w w') := lawI_any w 6 (by decide)
theorem lawI7 (w : World) : Calls Tryz.prog 23 #[.int .u64 7] w fun e w' => ∃ x : IM, e = .returned (.agg #[.int .u64 x.n, .int .u64 x.t, .string (strOf x.key), .slice x.ha x.av.length x.hc]) ∧ Hid (x.pi = lawI 7 ∧ AttrR w' x.h x.av ∧ Ext w w') := lawI_any w 7 (by decide)
theorem ex_came (w0 w : World) (bs : Nat) (pv : Value) (S : SplR w0 w bs pv [] 7 3 1) (x : IM) (h : x.pi = lawI 7) (a : AttrR w x.h x.av) :
    Calls Tryz.prog 14 #[.pointer (some ⟨bs, 0, none⟩), .agg #[.int .u64 x.n, .int .u64 x.t, .string (strOf x.key), .slice x.ha x.av.length x.hc], .int .i64 9] w
      fun e w' => ∃ v, e = .returned v ∧ Hid (TellO w w' bs pv v [PD.ofI (lawI 7)] 8 3 1) := by
  refine (comes_any w0 w bs pv [] 7 3 1 S x a (by rw [show x.av = [([97], vN1 7)] from congrArg PI.av h]; decide) 9).mono ?_
  rintro e w' ⟨v, rfl, hT⟩
  have hT : TellO _ _ _ _ _ _ _ _ _ := hT.out
  rw [h, ex_comes] at hT
  exact ⟨v, rfl, hT⟩
theorem ex_more (w0 w : World) (bs : Nat) (pv : Value) (S : SplR w0 w bs pv [] 8 3 1) (x : IM) (h : x.pi = lawI 7) (a : AttrR w x.h x.av) :
    Calls Tryz.prog 14 #[.pointer (some ⟨bs, 0, none⟩), .agg #[.int .u64 x.n, .int .u64 x.t, .string (strOf x.key), .slice x.ha x.av.length x.hc], .int .i64 9] w
      fun e w' => ∃ a c, e = .returned (.slice a 0 c) ∧ Hid (SplR w0 w' bs pv [] 8 3 1) := by
  refine (comes_any w0 w bs pv [] 8 3 1 S x a (by rw [show x.av = [([97], vN1 7)] from congrArg PI.av h]; decide) 9).mono ?_
  rintro e w' ⟨v, rfl, hT⟩
  have hT : TellO _ _ _ _ _ _ _ _ _ := hT.out
  rw [h, ex_again] at hT
  obtain ⟨a, c, rfl⟩ := hT.shape
  exact ⟨a, c, rfl, tell_spl S hT⟩
/-- Three deliveries told, where they lie. -/
theorem ex_told {w w' : World} {bs : Nat} {pv v : Value} {n' : Nat} {st' cnt' : Int} (hT : TellO w w' bs pv v [PD.ofI (lawI 4), PD.ofG (5, 5), PD.ofI (lawI 6)] n' st' cnt') :
    ∃ (g c : Nat) (d1 d2 d3 : DM), v = .slice (some ⟨g, 0, none⟩) 3 c ∧ Hid (w'.ownsRow w.heap.size 53 6 (.slice (some ⟨g, 0, none⟩) 3 c) 3 ([d1, d2, d3].flatMap dmC) ∧ d1.n = 4 ∧ d2.f = 5 ∧ d2.g = 5 ∧ d3.pd = PD.ofI (lawI 6)) := by
  obtain ⟨O, h1, h2, _⟩ := hT
  have hl : O.length = 3 := by rw [← List.length_map (f := DM.pd), h1]; rfl
  obtain ⟨d1, d2, d3, rfl⟩ : ∃ d1 d2 d3, O = [d1, d2, d3] := by
    match O, hl with
    | [d1, d2, d3], _ => exact ⟨d1, d2, d3, rfl⟩
  rw [hl] at h2
  simp only [List.map_cons, List.map_nil, List.cons.injEq] at h1
  obtain ⟨e1, e2, e3, _⟩ := h1
  obtain ⟨g, cap, hv⟩ : ∃ g cap, v = .slice (some ⟨g, 0, none⟩) 3 cap := by
    generalize [d1, d2, d3].flatMap dmC = xs at h2
    rcases h2.2 with ⟨_, e0⟩ | ⟨g, cap, cur, e0, _⟩
    · omega
    · exact ⟨g, cap, e0⟩
  subst hv
  exact ⟨g, cap, d1, d2, d3, rfl, h2, congrArg PD.n e1, congrArg PD.f e2, congrArg PD.g e2, e3⟩
set_option maxRecDepth 100000 in
set_option maxHeartbeats 8000000 in
theorem awake26_any (w : World) : Calls Tryz.prog 8 #[] w fun e w' => e = .returned (.bool true) ∧ Ext w w' := by
  go_enter Tryz.func8, Tryz.ntmps8
  go_upto_region 2 with (go_at_call 7; refine (new_yes _ _ [] (PredR.nil _) rfl 3 (by decide) (by decide)).mono ?_; rintro e w1 ⟨bs, rfl, h1⟩)
  obtain ⟨w0, pv, S1, hx01, hx1⟩ := h1.out
  have S1 : SplR w0 w1 bs pv [] 3 0 0 := S1
  have HX1 := Lib.hid hx1
  have H1 := Lib.hid S1
  have HX01 := Lib.hid hx01
  clear h1 hx01 hx1
  go_upto_region 4 with (go_at_call 22; (with_reducible refine (sstate_any _ _ _ _ _ _ H1.out.sp).mono ?_); rintro e w2 ⟨rfl, rfl⟩)
  go_upto_region 5 with (go_at_call 10; refine (lit_spl H1.out true).mono ?_; rintro e w2 ⟨rfl, h2⟩)
  go_upto_region 6 with (go_at_call 11; refine (ask_spl h2.out.1 1).mono ?_; rintro e w3 ⟨rfl, h3⟩)
  have H3 : Hid (SplR w0 w3 bs pv [] 3 2 1) := h3.out.1
  clear h2 h3
  go_upto_region 7 with (first
    | (go_at_call 23; (with_reducible refine (lawI4 _).mono ?_); rintro e w4 ⟨x4, rfl, h4⟩)
    | (go_at_call 23; (with_reducible refine (lawI6 _).mono ?_); rintro e w5 ⟨x6, rfl, h6⟩; have CP := Lib.hid (ex_asked2 w0 w5 bs pv 1 (H3.out.later (h4.out.2.2.trans h6.out.2.2)) x4 x6 h4.out.1 h6.out.1 (h4.out.2.1.ext h6.out.2.2) h6.out.2.1))
    | (go_at_call 13; (with_reducible refine CP.out.mono ?_); rintro e w7 ⟨v7, rfl, h7⟩))
  have S7 : Hid (SplR w0 w7 bs pv [] 7 3 1) := tell_spl (((H3.out.later (h4.out.2.2.trans h6.out.2.2)).later (boxes1 w5 (.cells #[.int .u64 x4.n, .int .u64 x4.t, .string (strOf x4.key), .slice x4.ha x4.av.length x4.hc, .int .u64 x6.n, .int .u64 x6.t, .string (strOf x6.key), .slice x6.ha x6.av.length x6.hc] 49)).1).later (boxes1 (w5.alloc (.cells #[.int .u64 x4.n, .int .u64 x4.t, .string (strOf x4.key), .slice x4.ha x4.av.length x4.hc, .int .u64 x6.n, .int .u64 x6.t, .string (strOf x6.key), .slice x6.ha x6.av.length x6.hc] 49)) (.cells #[.int .u64 5, .int .u64 5] 51)).1) h7.out
  obtain ⟨g, c, d1, d2, d3, rfl, hO⟩ := ex_told h7.out
  clear h7 CP h4 h6 H3
  go_upto_region 8 with (first
    | (go_at_call 23; (with_reducible refine (lawI7 _).mono ?_); rintro e w8 ⟨x7, rfl, h8⟩; have CP := Lib.hid (ex_came w0 w8 bs pv (S7.out.later h8.out.2.2) x7 h8.out.1 h8.out.2.1))
    | (go_at_call 14; (with_reducible refine CP.out.mono ?_); rintro e w9 ⟨v9, rfl, h9⟩; obtain ⟨am, cm, hm⟩ := h9.out.shape; subst hm))
  have S9 : Hid (SplR w0 w9 bs pv [] 8 3 1) := tell_spl (S7.out.later h8.out.2.2) h9.out
  obtain ⟨hown, e1, e2, e3, e4⟩ := hO.out
  have hg9 : w8.grownBy w9 (some bs) := by obtain ⟨_, _, _, _, _, hg⟩ := h9.out; exact hg
  have hown9 := own_keep (own_ext hown h8.out.2.2) hg9 fun k hk e => own_ne (own_ext hown h8.out.2.2) (S7.out.later h8.out.2.2).sp (by decide) (hk.trans e.symm)
  have hr := Row.of_own hown9
  obtain ⟨B, o, eB, c0, _⟩ := Row.atD (L := [d1, d2, d3]) (i := 0) hr (show 0 < 3 by decide)
  cases eB
  obtain ⟨B, o, eB, _, _, _, _, c10, c11⟩ := Row.atD (L := [d1, d2, d3]) (i := 1) hr (show 1 < 3 by decide)
  cases eB
  obtain ⟨B, o, eB, f0, f1, f2, f3, f4, f5⟩ := Row.atD (L := [d1, d2, d3]) (i := 2) hr (show 2 < 3 by decide)
  cases eB
  simp only [List.getElem_cons_zero, List.getElem_cons_succ, Nat.zero_add, Nat.zero_mul, Nat.reduceMul, Nat.reduceAdd, e1, e2, e3] at c0 c10 c11 f0 f1 f2 f3 f4 f5
  have CN : Hid (∀ W, Calls Tryz.prog 16 #[.agg #[.int .u64 d3.n, .int .u64 d3.t, .string (strOf d3.key), .slice d3.ha d3.av.length d3.hc, .int .u64 d3.f, .int .u64 d3.g]] W fun e w' => e = .returned (.int .u64 6) ∧ Ext W w') := fun W => by
    have := number_nat W d3
    rw [e4] at this
    exact this
  clear h9 hO hown hg9 hown9 hr e1 e2 e3 e4 S7 CP
  go_wp2_with (first
    | (go_at_call 16; (with_reducible refine (CN.out _).mono ?_); rintro e w10 ⟨rfl, hx10⟩; have S10 := Lib.hid (S9.out.later hx10); clear hx10 c0 c10 c11 f0 f1 f2 f3 f4 f5)
    | (go_at_call 22; (with_reducible refine (sstate_any _ _ _ _ _ _ S10.out.sp).mono ?_); rintro e wa ⟨rfl, rfl⟩)
    | (go_at_call 12; (with_reducible refine (snext_any _ _ _ _ _ _ S10.out.sp).mono ?_); rintro e wb ⟨rfl, rfl⟩)
    | (go_at_call 23; (with_reducible refine (lawI7 _).mono ?_); rintro e w11 ⟨x8, rfl, h11⟩; have CP2 := Lib.hid (ex_more w0 w11 bs pv (S10.out.later h11.out.2.2) x8 h11.out.1 h11.out.2.1))
    | (go_at_call 14; (with_reducible refine CP2.out.mono ?_); rintro e w12 ⟨a12, c12, rfl, h12⟩))
  go_ret
  exact ⟨rfl, HX01.out.trans h12.out.hx⟩
end Go.Proofs.YtaklnpjpndkccaaGreat

namespace Go.Proofs.YtaklnpjpndkccaaGreat
open Go.RowKit

def zC0 : C := ⟨[], 0, ⟨0, 0, [], false⟩, []⟩
theorem makeP {ops : Array Oper} {Q : Exit → Act → World → Prop} {a : Act} {w : World} {rest : List Oper} {o : Oper}
    (l c : Operand) (ho : o.op = .makeSlice 23 l c) (hw : Region.wanted o (yielded ops a.tmps) = true) (hl : a.eval l = .int .i64 1) (hc : a.eval c = .int .i64 1)
    (h : ∀ w', PredR w' (.slice (some ⟨w.heap.size, 0, none⟩) 1 1) [zC0] → Ext w w' → wpList Tryz.prog ops Q rest (a.put o.dst (.slice (some ⟨w.heap.size, 0, none⟩) 1 1)) w') : wpList Tryz.prog ops Q (o :: rest) a w := by
  obtain ⟨i5, hi5, z5, s5, b5⟩ := info_parts info31t
  obtain ⟨w', hr, h1, h2⟩ := run_makeSlice_full (P := Tryz.prog) (w := w) w.heap.size 23 94 i5 _ 7 Tryz.underlying23 hi5 z5 s5 .i64 .i64 1 (by omega) (by rw [b5]; omega) (by simp only [maxLen]; omega) (Nat.le_refl _)
  have hr' : (Instr.makeSlice 23 (.int .i64 1) (.int .i64 1)).run Tryz.prog w = .ok (.slice (some ⟨w.heap.size, 0, none⟩) 1 1) w' := hr
  refine wpList_val hw (by simp [execOp, ho, hl, hc, hr']) (h w' ?_ ((Ext.refl w).grown_none (v := .slice none 0 0) h2 (fun q hq => by cases hq)))
  have h3 := Row.of_own h1
  have e : (madeCells (Value.agg #[.string ⟨#[]⟩, .int .i64 0, .int .i64 0, .int .i64 0, .string ⟨#[]⟩, .bool false, .slice none 0 0]).cells (1 * 7)).toList = [(⟨zC0, .slice none 0 0⟩ : CS)].flatMap csC := by kernel_rfl
  rw [e] at h3
  exact PredR.mk [⟨zC0, .slice none 0 0⟩] h3 fun x hx => by rw [List.mem_singleton.1 hx]; exact SetR.nil _
end Go.Proofs.YtaklnpjpndkccaaGreat
