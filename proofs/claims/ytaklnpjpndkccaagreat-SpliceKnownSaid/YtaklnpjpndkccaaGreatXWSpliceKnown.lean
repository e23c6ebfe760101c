/- The walk through SpliceKnown. -/
import Derived.Test.YtaklnpjpndkccaaGreatPk12
namespace Go.Proofs.YtaklnpjpndkccaaGreat
open Go.RowKit Go.Sort

/-- A page's literal in a box, its items and gaps in memory made meanwhile. -/
structure KPg (W : World) (b1 ai ag : Nat) (x4 x6 : IM) : Prop where
  box : W.heap[b1]? = some (.cells #[.int .u64 3, .int .u64 7, .slice (some ⟨ai, 0, none⟩) 2 2, .slice (some ⟨ag, 0, none⟩) 1 1, .bool true] 34 (0, 0))
  itm : W.ownsRow 0 49 4 (.slice (some ⟨ai, 0, none⟩) 2 2) 2 ([x4, x6].flatMap imC)
  gps : W.ownsRow 0 51 2 (.slice (some ⟨ag, 0, none⟩) 1 1) 1 ([((5 : Nat), (5 : Nat))].flatMap gpC)
  a4 : AttrO 0 W x4.h x4.av
  a6 : AttrO 0 W x6.h x6.av
  h4 : x4.pi = lawI 4
  h6 : x6.pi = lawI 6
theorem KPg.later {W W' : World} {b1 ai ag : Nat} {x4 x6 : IM} (h : KPg W b1 ai ag x4 x6) (hx : Ext W W') : KPg W' b1 ai ag x4 x6 := ⟨block_later h.box hx, own_ext h.itm hx, own_ext h.gps hx, own_ext h.a4 hx, own_ext h.a6 hx, h.h4, h.h6⟩
theorem KPg.turn {W W' : World} {b1 ai ag bs : Nat} {x4 x6 : IM} {pv : Value} {n s c : Int} (h : KPg W b1 ai ag x4 x6) (hg : W.grownBy W' (some bs)) (hS : SpB W bs pv n s c) : KPg W' b1 ai ag x4 x6 := by
  have k : ∀ {base size n : Nat} {e : TypeId} {v : Value} {xs : List Value}, W.ownsRow base e size v n xs → e ≠ 88 → W'.ownsRow base e size v n xs := fun ho he => own_keep ho hg fun k hk e2 => own_ne ho hS he (hk.trans e2.symm)
  refine ⟨(hg.block b1 (Array.getElem?_eq_some_iff.1 h.box).1 fun e => ?_).trans h.box, k h.itm (by decide), k h.gps (by decide), k h.a4 (by decide), k h.a6 (by decide), h.h4, h.h6⟩
  cases e
  have h1 := h.box
  have h2 : W.heap[b1]? = _ := hS
  rw [h1] at h2
  simp at h2
/-- All that the walk keeps. -/
structure KN (w0 W : World) (bs : Nat) (pv : Value) (next : Nat) (st cnt : Int) (b1 ai ag : Nat) (x4 x6 : IM) : Prop where
  s : SplR w0 W bs pv [] next st cnt
  k : KPg W b1 ai ag x4 x6
theorem KN.later {w0 W W' : World} {bs : Nat} {pv : Value} {next : Nat} {st cnt : Int} {b1 ai ag : Nat} {x4 x6 : IM} (h : KN w0 W bs pv next st cnt b1 ai ag x4 x6) (hx : Ext W W') : KN w0 W' bs pv next st cnt b1 ai ag x4 x6 := ⟨h.s.later hx, h.k.later hx⟩
theorem kn_tell {w0 W W' : World} {bs : Nat} {pv v : Value} {next n' : Nat} {st cnt st' cnt' : Int} {b1 ai ag : Nat} {x4 x6 : IM} {out : List PD} (h : KN w0 W bs pv next st cnt b1 ai ag x4 x6) (hT : TellO W W' bs pv v out n' st' cnt') : KN w0 W' bs pv n' st' cnt' b1 ai ag x4 x6 := by
  have hg : W.grownBy W' (some bs) := by obtain ⟨_, _, _, _, _, hg⟩ := hT; exact hg
  exact ⟨tell_spl h.s hT, h.k.turn hg h.s.sp⟩
section
variable {w0 W : World} {bs : Nat} {pv : Value} {next : Nat} {st cnt : Int} {b1 ai ag : Nat} {x4 x6 : IM}
theorem kn_lit (h : KN w0 W bs pv next st cnt b1 ai ag x4 x6) (known : Bool) {s2 : Int} (hs : (if known then 1 else 0) = s2) :
    Calls Tryz.prog 10 #[.pointer (some ⟨bs, 0, none⟩), .bool known] W fun e w' => e = .returned (.tuple #[]) ∧ Hid (KN w0 w' bs pv next s2 cnt b1 ai ag x4 x6) := by
  subst hs
  refine (lit_spl h.s known).mono ?_
  rintro e w' ⟨rfl, h2⟩
  exact ⟨rfl, h2.out.1, h.k.turn h2.out.2 h.s.sp⟩
theorem kn_ask (h : KN w0 W bs pv next 1 cnt b1 ai ag x4 x6) (c2 : Int) {n2 : Int} (hn : (next : Int) = n2) :
    Calls Tryz.prog 11 #[.pointer (some ⟨bs, 0, none⟩), .int .u64 c2] W fun e w' => e = .returned (.tuple #[.int .u64 n2, .bool true]) ∧ Hid (KN w0 w' bs pv next 2 c2 b1 ai ag x4 x6) := by
  subst hn
  refine (ask_spl h.s c2).mono ?_
  rintro e w' ⟨rfl, h2⟩
  exact ⟨rfl, h2.out.1, h.k.turn h2.out.2 h.s.sp⟩
theorem kn_pno (h : KN w0 W bs pv next st cnt b1 ai ag x4 x6) (c2 room : Int) (hc : ¬ (st = 2 ∧ cnt = c2)) :
    Calls Tryz.prog 13 #[.pointer (some ⟨bs, 0, none⟩), .int .u64 c2, .agg #[.int .u64 3, .int .u64 7, .slice (some ⟨ai, 0, none⟩) 2 2, .slice (some ⟨ag, 0, none⟩) 1 1, .bool true], .int .i64 room] W fun e w' => e = .returned (.slice none 0 0) ∧ Hid (KN w0 w' bs pv next st cnt b1 ai ag x4 x6) := by
  refine (page_no W bs pv next st cnt h.s.sp c2 hc 3 7 _ _ true room).mono ?_
  rintro e w' ⟨rfl, hx⟩
  exact ⟨rfl, h.later hx⟩
theorem kn_page (h : KN w0 W bs pv next 2 cnt b1 ai ag x4 x6) (room : Int) {out : List PD} {n2 : Nat} {s2 : Int} {N : Nat} (hp : pageP [] room 7 true [PD.ofI (lawI 4), PD.ofG (5, 5), PD.ofI (lawI 6)] next = (out, n2, s2)) (hN : out.length = N) :
    Calls Tryz.prog 13 #[.pointer (some ⟨bs, 0, none⟩), .int .u64 cnt, .agg #[.int .u64 3, .int .u64 7, .slice (some ⟨ai, 0, none⟩) 2 2, .slice (some ⟨ag, 0, none⟩) 1 1, .bool true], .int .i64 room] W fun e w' => ∃ a c, e = .returned (.slice a N c) ∧ Hid (KN w0 w' bs pv n2 s2 cnt b1 ai ag x4 x6) := by
  subst hN
  have hav : ∀ x ∈ [x4, x6], x.av.length ≤ 1000000 := fun x hx => by
    simp only [List.mem_cons, List.not_mem_nil, or_false] at hx
    rcases hx with rfl | rfl
    · rw [show x.av = [([97], vN1 4)] from congrArg PI.av h.k.h4]; decide
    · rw [show x.av = [([97], vN1 6)] from congrArg PI.av h.k.h6]; decide
  have hi : ImR W (.slice (some ⟨ai, 0, none⟩) 2 2) [x4, x6] := ⟨Row.of_own h.k.itm, fun x hx => by
    simp only [List.mem_cons, List.not_mem_nil, or_false] at hx
    rcases hx with rfl | rfl
    · exact Row.of_own h.k.a4
    · exact Row.of_own h.k.a6⟩
  refine (page_yes w0 W bs pv [] next cnt h.s 3 7 _ _ true room [x4, x6] [(5, 5)] hi (Row.of_own h.k.gps) (show 2 ≤ 40 by decide) (show 1 ≤ 40 by decide) hav).mono ?_
  rintro e w' ⟨v, rfl, hP⟩
  obtain ⟨Zg, Zi, hZg, hZi, hT⟩ := hP.out
  rw [ex_row x4 x6 h.k.h4 h.k.h6 hZg hZi, hp] at hT
  obtain ⟨a, c, rfl⟩ := hT.shape
  exact ⟨a, c, rfl, kn_tell h hT⟩
theorem kn_page0 (h : KN w0 W bs pv 5 2 cnt b1 ai ag x4 x6) :
    Calls Tryz.prog 13 #[.pointer (some ⟨bs, 0, none⟩), .int .u64 cnt, .agg #[.int .u64 5, .int .u64 5, .slice none 0 0, .slice none 0 0, .bool false], .int .i64 9] W fun e w' => ∃ a c, e = .returned (.slice a 0 c) ∧ Hid (KN w0 w' bs pv 5 1 cnt b1 ai ag x4 x6) := by
  refine (page_yes w0 W bs pv [] 5 cnt h.s 5 5 _ _ false 9 [] [] ⟨Row.nil W 4, fun _ h => by cases h⟩ (Row.nil W 2) (show 0 ≤ 40 by decide) (show 0 ≤ 40 by decide) (fun _ h => by cases h)).mono ?_
  rintro e w' ⟨v, rfl, hP⟩
  obtain ⟨Zg, Zi, hZg, hZi, hT⟩ := hP.out
  have e1 : Zg = [] := StS.unique hZg (StS.self List.Pairwise.nil)
  have e2 : Zi = [] := StS.unique hZi (StS.self List.Pairwise.nil)
  rw [e1, e2, rowD_nil, show pageP [] 9 5 false [] 5 = ([], 5, 1) by kernel_rfl] at hT
  obtain ⟨a, c, rfl⟩ := hT.shape
  exact ⟨a, c, rfl, kn_tell h hT⟩
theorem kn_comes (h : KN w0 W bs pv 7 3 cnt b1 ai ag x4 x6) (x : IM) (hx : x.pi = lawI 9) (a : AttrR W x.h x.av) :
    Calls Tryz.prog 14 #[.pointer (some ⟨bs, 0, none⟩), .agg #[.int .u64 x.n, .int .u64 x.t, .string (strOf x.key), .slice x.ha x.av.length x.hc], .int .i64 0] W
      fun e w' => ∃ a c, e = .returned (.slice a 0 c) ∧ Hid (KN w0 w' bs pv 7 1 cnt b1 ai ag x4 x6) := by
  refine (comes_any w0 W bs pv [] 7 3 cnt h.s x a (by rw [show x.av = [([97], vN1 9)] from congrArg PI.av hx]; decide) 0).mono ?_
  rintro e w' ⟨v, rfl, hT⟩
  have hT : TellO _ _ _ _ _ _ _ _ _ := hT.out
  rw [hx, show comesP [] 0 (lawI 9) 7 3 = ([], 7, 1) by kernel_rfl] at hT
  obtain ⟨a, c, rfl⟩ := hT.shape
  exact ⟨a, c, rfl, kn_tell h hT⟩
end
theorem lawI9 (w : World) : Calls Tryz.prog 23 #[.int .u64 9] w fun e w' => ∃ x : IM, e = .returned (.agg #[.int .u64 x.n, .int .u64 x.t, .string (strOf x.key), .slice x.ha x.av.length x.hc]) ∧ Hid (x.pi = lawI 9 ∧ AttrR w' x.h x.av ∧ Ext w w') := lawI_any w 9 (by decide)
theorem lawI1 (w : World) : Calls Tryz.prog 23 #[.int .u64 1] w fun e w' => ∃ x : IM, e = .returned (.agg #[.int .u64 x.n, .int .u64 x.t, .string (strOf x.key), .slice x.ha x.av.length x.hc]) ∧ Hid (x.pi = lawI 1 ∧ AttrR w' x.h x.av ∧ Ext w w') := lawI_any w 1 (by decide)
theorem lawO4 (w : World) : Calls Tryz.prog 23 #[.int .u64 4] w fun e w' => ∃ x : IM, e = .returned (.agg #[.int .u64 x.n, .int .u64 x.t, .string (strOf x.key), .slice x.ha x.av.length x.hc]) ∧ Hid (x.pi = lawI 4 ∧ AttrO w.heap.size w' x.h x.av ∧ Ext w w') := lawI_own w 4 (by decide)
theorem lawO6 (w : World) : Calls Tryz.prog 23 #[.int .u64 6] w fun e w' => ∃ x : IM, e = .returned (.agg #[.int .u64 x.n, .int .u64 x.t, .string (strOf x.key), .slice x.ha x.av.length x.hc]) ∧ Hid (x.pi = lawI 6 ∧ AttrO w.heap.size w' x.h x.av ∧ Ext w w') := lawI_own w 6 (by decide)
theorem new3 (w : World) : Calls Tryz.prog 7 #[.slice none 0 0, .int .u64 3] w fun e w' => ∃ bs : Nat, e = .returned (.tuple #[.pointer (some ⟨bs, 0, none⟩), .int .i64 0]) ∧ Hid (NewO w w' bs [] 3) := new_yes w _ [] (PredR.nil w) rfl 3 (by decide) (by decide)
theorem new0 (w : World) : Calls Tryz.prog 7 #[.slice none 0 0, .int .u64 0] w fun e w' => e = .returned (.tuple #[.pointer none, .int .i64 1]) ∧ Ext w w' := new_arg w _ [] (PredR.nil w) rfl 0 (.inl (by decide))
theorem newB (w : World) : Calls Tryz.prog 7 #[.slice none 0 0, .int .u64 1099511627778] w fun e w' => e = .returned (.tuple #[.pointer none, .int .i64 1]) ∧ Ext w w' := new_arg w _ [] (PredR.nil w) rfl 1099511627778 (.inr (by decide))
theorem kn_first (w5 : World) (x4 x6 : IM) (h4 : x4.pi = lawI 4) (h6 : x6.pi = lawI 6) (a4 : AttrO 0 w5 x4.h x4.av) (a6 : AttrO 0 w5 x6.h x6.av) : KPg (((w5.alloc (.cells #[.int .u64 x4.n, .int .u64 x4.t, .string (strOf x4.key), .slice x4.ha x4.av.length x4.hc, .int .u64 x6.n, .int .u64 x6.t, .string (strOf x6.key), .slice x6.ha x6.av.length x6.hc] 49)).alloc (.cells #[.int .u64 5, .int .u64 5] 51)).alloc (.cells #[.int .u64 3, .int .u64 7, .slice (some ⟨w5.heap.size, 0, none⟩) 2 2, .slice (some ⟨w5.heap.size + 1, 0, none⟩) 1 1, .bool true] 34)) (w5.heap.size + 1 + 1) w5.heap.size (w5.heap.size + 1) x4 x6 := by
  obtain ⟨hx, _, _, hb⟩ := boxes3 w5 (.cells #[.int .u64 x4.n, .int .u64 x4.t, .string (strOf x4.key), .slice x4.ha x4.av.length x4.hc, .int .u64 x6.n, .int .u64 x6.t, .string (strOf x6.key), .slice x6.ha x6.av.length x6.hc] 49) (.cells #[.int .u64 5, .int .u64 5] 51) (.cells #[.int .u64 3, .int .u64 7, .slice (some ⟨w5.heap.size, 0, none⟩) 2 2, .slice (some ⟨w5.heap.size + 1, 0, none⟩) 1 1, .bool true] 34)
  have o1 := World.ownsRow_lit (base := 0) (e := 49) (size := 4) w5 (imC x4 ++ imC x6).toArray 2 (Nat.zero_le _) (by decide) rfl
  have o2 := World.ownsRow_lit (base := 0) (e := 51) (size := 2) (w5.alloc (.cells #[.int .u64 x4.n, .int .u64 x4.t, .string (strOf x4.key), .slice x4.ha x4.av.length x4.hc, .int .u64 x6.n, .int .u64 x6.t, .string (strOf x6.key), .slice x6.ha x6.av.length x6.hc] 49)) (gpC (5, 5)).toArray 1 (Nat.zero_le _) (by decide) rfl
  rw [World.size_alloc] at o2
  exact ⟨hb, own_ext (own_ext o1 (boxes1 _ _).1) (boxes1 _ _).1, own_ext o2 (boxes1 _ _).1, own_ext a4 hx, own_ext a6 hx, h4, h6⟩
set_option maxRecDepth 100000 in
set_option maxHeartbeats 16000000 in
theorem spliceKnown_walk (w : World) : Calls Tryz.prog 5 #[] w fun e w' => e = .returned (.bool true) ∧ Ext w w' := by
  go_enter Tryz.func5, Tryz.ntmps5
  go_upto_region 3 with (go_at_call 8; (with_reducible refine (awake26_any _).mono ?_); rintro e w1 ⟨rfl, hx1⟩; have HX1 := Lib.hid hx1; clear hx1)
  go_upto_region 4 with (first
    | (go_at_call 23; (with_reducible refine (lawO4 _).mono ?_); rintro e w4 ⟨x4, rfl, h4⟩)
    | (go_at_call 23; (with_reducible refine (lawO6 _).mono ?_); rintro e w5 ⟨x6, rfl, h6⟩; have K := Lib.hid (kn_first w5 x4 x6 h4.out.1 h6.out.1 (own_low (own_ext h4.out.2.1 h6.out.2.2) (Nat.zero_le _)) (own_low h6.out.2.1 (Nat.zero_le _))); have HX5 := Lib.hid ((HX1.out.trans h4.out.2.2).trans h6.out.2.2)))
  have HXk : Hid (Ext w1 (((w5.alloc (.cells #[.int .u64 x4.n, .int .u64 x4.t, .string (strOf x4.key), .slice x4.ha x4.av.length x4.hc, .int .u64 x6.n, .int .u64 x6.t, .string (strOf x6.key), .slice x6.ha x6.av.length x6.hc] 49)).alloc (.cells #[.int .u64 5, .int .u64 5] 51)).alloc (.cells #[.int .u64 3, .int .u64 7, .slice (some ⟨w5.heap.size, 0, none⟩) 2 2, .slice (some ⟨w5.heap.size + 1, 0, none⟩) 1 1, .bool true] 34))) := (h4.out.2.2.trans h6.out.2.2).trans (boxes3 w5 _ _ _).1
  clear h4 h6 HX5
  generalize hwk : (((w5.alloc (.cells #[.int .u64 x4.n, .int .u64 x4.t, .string (strOf x4.key), .slice x4.ha x4.av.length x4.hc, .int .u64 x6.n, .int .u64 x6.t, .string (strOf x6.key), .slice x6.ha x6.av.length x6.hc] 49)).alloc (.cells #[.int .u64 5, .int .u64 5] 51)).alloc (.cells #[.int .u64 3, .int .u64 7, .slice (some ⟨w5.heap.size, 0, none⟩) 2 2, .slice (some ⟨w5.heap.size + 1, 0, none⟩) 1 1, .bool true] 34)) = wk at *
  clear hwk
  generalize w5.heap.size + 1 + 1 = b1 at *
  generalize w5.heap.size + 1 = ag at *
  generalize w5.heap.size = ai at *
  go_upto_region 5 with (go_at_call 7; (with_reducible refine (new3 _).mono ?_); rintro e w10 ⟨bs, rfl, h10⟩)
  obtain ⟨w0, pv, S10, hx10, hxx10⟩ := h10.out
  have S10 : SplR w0 w10 bs pv [] 3 0 0 := S10
  have K10 : Hid (KN w0 w10 bs pv 3 0 0 b1 ai ag x4 x6) := ⟨S10, K.out.later hxx10⟩
  have HXE : Hid (Ext w w0) := (HX1.out.trans HXk.out).trans hx10
  clear S10 hx10 hxx10 h10 K HXk HX1
  go_upto_region 6 with (go_at_call 11; (with_reducible refine (sask_no _ _ _ _ _ _ K10.out.s.sp (by decide) 1).mono ?_); rintro e wa ⟨rfl, rfl⟩)
  have L11 := Lib.hid (kn_lit K10.out true (s2 := 1) rfl)
  go_upto_region 7 with (go_at_call 10; (with_reducible refine (L11.out).mono ?_); rintro e w11 ⟨rfl, K11⟩)
  have L12 := Lib.hid (kn_ask K11.out 1 (n2 := 3) rfl)
  go_upto_region 8 with (go_at_call 11; (with_reducible refine (L12.out).mono ?_); rintro e w12 ⟨rfl, K12⟩; have p0 := cell_of_row _ _ 0 _ _ _ K12.out.k.box; have p1 := cell_of_row _ _ 1 _ _ _ K12.out.k.box; have p2 := cell_of_row _ _ 2 _ _ _ K12.out.k.box; have p3 := cell_of_row _ _ 3 _ _ _ K12.out.k.box; have p4 := cell_of_row _ _ 4 _ _ _ K12.out.k.box)
  have L13 := Lib.hid (kn_pno K12.out 2 9 (by decide))
  go_upto_region 9 with (go_at_call 13; (with_reducible refine (L13.out).mono ?_); rintro e w13 ⟨rfl, K13⟩; clear p0 p1 p2 p3 p4; have p0 := cell_of_row _ _ 0 _ _ _ K13.out.k.box; have p1 := cell_of_row _ _ 1 _ _ _ K13.out.k.box; have p2 := cell_of_row _ _ 2 _ _ _ K13.out.k.box; have p3 := cell_of_row _ _ 3 _ _ _ K13.out.k.box; have p4 := cell_of_row _ _ 4 _ _ _ K13.out.k.box)
  have L14 := Lib.hid (kn_page K13.out 1 (out := [PD.ofI (lawI 4)]) (n2 := 5) (s2 := 1) (N := 1) (by kernel_rfl) rfl)
  go_upto_region 10 with (go_at_call 13; (with_reducible refine (L14.out).mono ?_); rintro e w14 ⟨a14, c14, rfl, K14⟩; clear p0 p1 p2 p3 p4; have p0 := cell_of_row _ _ 0 _ _ _ K14.out.k.box; have p1 := cell_of_row _ _ 1 _ _ _ K14.out.k.box; have p2 := cell_of_row _ _ 2 _ _ _ K14.out.k.box; have p3 := cell_of_row _ _ 3 _ _ _ K14.out.k.box; have p4 := cell_of_row _ _ 4 _ _ _ K14.out.k.box)
  go_upto_region 11 with (first
    | (go_at_call 22; (with_reducible refine (sstate_any _ _ _ _ _ _ K14.out.s.sp).mono ?_); rintro e wa ⟨rfl, rfl⟩)
    | (go_at_call 12; (with_reducible refine (snext_any _ _ _ _ _ _ K14.out.s.sp).mono ?_); rintro e wa ⟨rfl, rfl⟩))
  have L15 := Lib.hid (kn_pno K14.out 1 9 (by decide))
  go_upto_region 12 with (go_at_call 13; (with_reducible refine (L15.out).mono ?_); rintro e w15 ⟨rfl, K15⟩; clear p0 p1 p2 p3 p4)
  have L16 := Lib.hid (kn_ask K15.out 5 (n2 := 5) rfl)
  go_upto_region 13 with (go_at_call 11; (with_reducible refine (L16.out).mono ?_); rintro e w16 ⟨rfl, K16⟩)
  have L17 := Lib.hid (kn_lit K16.out false (s2 := 0) rfl)
  go_upto_region 14 with (go_at_call 10; (with_reducible refine (L17.out).mono ?_); rintro e w17 ⟨rfl, K17⟩; have p0 := cell_of_row _ _ 0 _ _ _ K17.out.k.box; have p1 := cell_of_row _ _ 1 _ _ _ K17.out.k.box; have p2 := cell_of_row _ _ 2 _ _ _ K17.out.k.box; have p3 := cell_of_row _ _ 3 _ _ _ K17.out.k.box; have p4 := cell_of_row _ _ 4 _ _ _ K17.out.k.box)
  have L18 := Lib.hid (kn_pno K17.out 5 9 (by decide))
  go_upto_region 15 with (go_at_call 13; (with_reducible refine (L18.out).mono ?_); rintro e w18 ⟨rfl, K18⟩; clear p0 p1 p2 p3 p4)
  go_upto_region 16 with (go_at_call 22; (with_reducible refine (sstate_any _ _ _ _ _ _ K18.out.s.sp).mono ?_); rintro e wa ⟨rfl, rfl⟩)
  have L19 := Lib.hid (kn_lit K18.out true (s2 := 1) rfl)
  go_upto_region 17 with (go_at_call 10; (with_reducible refine (L19.out).mono ?_); rintro e w19 ⟨rfl, K19⟩)
  have L20 := Lib.hid (kn_ask K19.out 6 (n2 := 5) rfl)
  go_upto_region 18 with (go_at_call 11; (with_reducible refine (L20.out).mono ?_); rintro e w20 ⟨rfl, K20⟩)
  have L21 := Lib.hid (kn_page0 K20.out)
  go_upto_region 19 with (go_at_call 13; (with_reducible refine (L21.out).mono ?_); rintro e w21 ⟨a21, c21, rfl, K21⟩)
  go_upto_region 20 with (go_at_call 22; (with_reducible refine (sstate_any _ _ _ _ _ _ K21.out.s.sp).mono ?_); rintro e wa ⟨rfl, rfl⟩)
  have L22 := Lib.hid (kn_ask K21.out 7 (n2 := 5) rfl)
  go_upto_region 21 with (go_at_call 11; (with_reducible refine (L22.out).mono ?_); rintro e w22 ⟨rfl, K22⟩; have p0 := cell_of_row _ _ 0 _ _ _ K22.out.k.box; have p1 := cell_of_row _ _ 1 _ _ _ K22.out.k.box; have p2 := cell_of_row _ _ 2 _ _ _ K22.out.k.box; have p3 := cell_of_row _ _ 3 _ _ _ K22.out.k.box; have p4 := cell_of_row _ _ 4 _ _ _ K22.out.k.box)
  have L23 := Lib.hid (kn_page K22.out 9 (out := [PD.ofG (5, 5), PD.ofI (lawI 6)]) (n2 := 7) (s2 := 3) (N := 2) (by kernel_rfl) rfl)
  go_upto_region 22 with (go_at_call 13; (with_reducible refine (L23.out).mono ?_); rintro e w23 ⟨a23, c23, rfl, K23⟩; clear p0 p1 p2 p3 p4)
  go_upto_region 23 with (first
    | (go_at_call 23; (with_reducible refine (lawI9 _).mono ?_); rintro e w24 ⟨x9, rfl, h24⟩; have L25 := Lib.hid (kn_comes (K23.out.later h24.out.2.2) x9 h24.out.1 h24.out.2.1))
    | (go_at_call 14; (with_reducible refine L25.out.mono ?_); rintro e w25 ⟨a25, c25, rfl, K25⟩))
  go_upto_region 24 with (go_at_call 22; (with_reducible refine (sstate_any _ _ _ _ _ _ K25.out.s.sp).mono ?_); rintro e wa ⟨rfl, rfl⟩)
  have KF := Lib.hid K25.out.k
  have HE := Lib.hid (HXE.out.trans K25.out.s.hx)
  clear K25 HXE
  go_upto_region 25 with (first
    | (at_make; refine makeP _ _ rfl rfl rfl rfl ?_; intro w26 hp hx; have CN := Lib.hid (new_may w26 _ [zC0] hp (by kernel_rfl) 1); have KF2 := Lib.hid (KF.out.later hx); have HE2 := Lib.hid (HE.out.trans hx); clear hp hx)
    | (go_at_call 7; (with_reducible refine CN.out.mono ?_); rintro e w27 ⟨rfl, hx⟩; have KF3 := Lib.hid (KF2.out.later hx); have HE3 := Lib.hid (HE2.out.trans hx); clear hx))
  go_upto_region 26 with (go_at_call 7; (with_reducible refine (new0 _).mono ?_); rintro e w28 ⟨rfl, hx⟩; have KF4 := Lib.hid (KF3.out.later hx); have HE4 := Lib.hid (HE3.out.trans hx); clear hx)
  go_upto_region 27 with (go_at_call 7; (with_reducible refine (newB _).mono ?_); rintro e w29 ⟨rfl, hx⟩; have KF5 := Lib.hid (KF4.out.later hx); have HE5 := Lib.hid (HE4.out.trans hx); clear hx)
  clear KF KF2 KF3 KF4 HE HE2 HE3 HE4 CN
  go_upto_region 29 with (go_at_call 10; (with_reducible refine (nlit _ true).mono ?_); rintro e wa ⟨rfl, rfl⟩)
  have p0 := cell_of_row _ _ 0 _ _ _ KF5.out.box
  have p1 := cell_of_row _ _ 1 _ _ _ KF5.out.box
  have p2 := cell_of_row _ _ 2 _ _ _ KF5.out.box
  have p3 := cell_of_row _ _ 3 _ _ _ KF5.out.box
  have p4 := cell_of_row _ _ 4 _ _ _ KF5.out.box
  go_wp2_with (first
    | (go_at_call 11; (with_reducible refine (nask _ 1).mono ?_); rintro e wa ⟨rfl, rfl⟩)
    | (go_at_call 22; (with_reducible refine (nstate _).mono ?_); rintro e wa ⟨rfl, rfl⟩)
    | (go_at_call 12; (with_reducible refine (nnext _).mono ?_); rintro e wa ⟨rfl, rfl⟩)
    | (go_at_call 13; (with_reducible refine (npage _ 1 3 7 _ _ true 9).mono ?_); rintro e w30 ⟨rfl, hx⟩; have HE6 := Lib.hid (HE5.out.trans hx); clear hx p0 p1 p2 p3 p4)
    | (go_at_call 23; (with_reducible refine (lawI1 _).mono ?_); rintro e w31 ⟨x1, rfl, h31⟩; have HE7 := Lib.hid (HE6.out.trans h31.out.2.2); have CC := Lib.hid (ncomes w31 x1 h31.out.2.1 (by rw [show x1.av = [([97], vN1 1)] from congrArg PI.av h31.out.1]; decide) 9))
    | (go_at_call 14; (with_reducible refine CC.out.mono ?_); rintro e w32 ⟨rfl, hx⟩; have HE8 := Lib.hid (HE7.out.trans hx); clear hx))
  go_ret
  exact ⟨rfl, HE8.out⟩
end Go.Proofs.YtaklnpjpndkccaaGreat
