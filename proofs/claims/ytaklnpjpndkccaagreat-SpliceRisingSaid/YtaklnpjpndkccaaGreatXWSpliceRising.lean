/- The walk through SpliceRising. -/
import Derived.Deep.CutBlock
import Derived.Test.YtaklnpjpndkccaaGreatPk12
import Derived.Test.YtaklnpjpndkccaaGreatPk13
namespace Go.Proofs.YtaklnpjpndkccaaGreat
open Go.RowKit Go.Sort

theorem AssR.ext {w w' : World} {v : Value} {us : List AS} (h : AssR w v us) (hx : Ext w w') : AssR w' v us := ⟨h.row.ext hx, fun x hm => (h.is x hm).ext hx, fun x hm => Row.ext (h.gs x hm) hx⟩
theorem AssR.at {w : World} {a : Option Addr} {n cap : Nat} {us : List AS} (h : AssR w (.slice a n cap) us) {k : Nat} (hk : k < us.length) :
    ∃ B o, a = some ⟨B, o, none⟩ ∧ ∀ j u, j < 9 → (asC us[k])[j]? = some u → w.cell? ⟨B, o + k * 9 + j, none⟩ = some u := by
  obtain ⟨B, o, rfl⟩ := Row.base h.row (by omega) (by decide)
  refine ⟨B, o, rfl, fun j u hj e => ?_⟩
  have := Row.cellAt h.row ((flat_get asC 9 asC_len us k hk j hj).trans e) (by omega)
  rwa [← Nat.add_assoc] at this
/-- A part of a row or struct is stored. -/
theorem wpList_store_part {P : Program} {ops : Array Oper} {Q : Exit → Act → World → Prop} {a : Act} {w : World} {rest : List Oper} {o : Oper}
    (ty : TypeId) (x y : Operand) (ho : o.op = .store ty x y) (hw : Region.wanted o (yielded ops a.tmps) = true)
    (g off : Nat) (hx : a.eval x = .pointer (some ⟨g, off, none⟩)) (cs : Array Value) (hy : a.eval y = .agg cs) (c : Array Value) (t : TypeId) (R : Array Value)
    (hg : w.heap[g]? = some (.cells c t (0, 0))) (hsz : off + cs.size ≤ c.size) (hi : (P.info? ty).map (·.size) = some cs.size) (h1 : ∀ v ∈ cs.toList, v.oneCell' = true)
    (hR : (c.toList.take off ++ cs.toList ++ c.toList.drop (off + cs.size)).toArray = R)
    (h : wpList P ops Q rest (a.put o.dst undef) (w.setRow g R)) : wpList P ops Q (o :: rest) a w := by
  have hst := run_storeCells_at (P := P) g off t cs.toList 0 c w hg (by simpa using hsz) h1
  simp only [Nat.add_zero, Array.length_toList] at hst
  rw [hR] at hst
  have hr : (execOp a.eval o).run P w = .ok .skip (w.setRow g R) := by
    cases hq : P.info? ty with
    | none => simp [hq] at hi
    | some i =>
      have hs : cs.size = i.size := by simp [hq] at hi; omega
      simp [execOp, ho, hx, hy, Instr.storeAt, Instr.sureAddr, storeVar, sizeOf, typeInfo, hq, Value.cells, hs, hst]
  simp only [wpList, hw, if_true]
  refine .inl ?_
  unfold Oper.wp
  rw [hr]
  exact h
/-- What the law knows of a call's answer. -/
def OutR (w0 W : World) (bs : Nat) (pv : Value) (p : List C) (ov : Value) (nk : Nat) (room : Int) : Prop :=
  ∃ (O : List DM) (nx : Nat) (st cnt : Int), SplR w0 W bs pv p nx st cnt ∧ W.ownsRow 0 53 6 ov O.length (O.flatMap dmC) ∧ (∀ x ∈ O, AttrO 0 W x.h x.av) ∧ RiseL p nk (O.map DM.pd) nx ∧ (O.length : Int) ≤ max room 0
theorem OutR.none {w0 W : World} {bs : Nat} {pv : Value} {p : List C} {nk : Nat} {st cnt room : Int} (h : SplR w0 W bs pv p nk st cnt) : OutR w0 W bs pv p (.slice none 0 0) nk room :=
  ⟨[], nk, st, cnt, h, own_none _ _ _ _, (fun _ h => by cases h), Nat.le_refl _, by simp only [List.length_nil]; omega⟩
theorem OutR.tell {w0 W W' : World} {bs : Nat} {pv v : Value} {p : List C} {nk n' : Nat} {st cnt st' cnt' room : Int} {out : List PD} (h : SplR w0 W bs pv p nk st cnt) (hT : TellO W W' bs pv v out n' st' cnt') (hr : RiseL p nk out n' ∧ (out.length : Int) ≤ max room 0) : OutR w0 W' bs pv p v nk room := by
  have hs := tell_spl h hT
  obtain ⟨O, rfl, h2, h3, _, _⟩ := hT
  exact ⟨O, n', st', cnt', hs, own_low h2 (Nat.zero_le _), fun x hx => own_low (h3 x hx) (Nat.zero_le _), hr.1, by simpa using hr.2⟩
/-- A page cut short. -/
structure ShO (wB w w' : World) (hi hg : Value) (I : List IM) (G : List (Nat × Nat)) : Prop where
  i : ImR wB hi I
  g : GpR wB hg G
  x : Ext w w'
  li : I.length ≤ 40
  lg : G.length ≤ 40
  av : ∀ y ∈ I, y.av.length * 56 ≤ 140737488355328
theorem short_ok (wB w : World) (hxB : Ext wB w) (fr en : Nat) (hi hg : Value) (last : Bool) (items : List IM) (gaps : List (Nat × Nat)) (h1 : ImR wB hi items) (h2 : GpR wB hg gaps) (hav : ∀ y ∈ items, y.av.length * 56 ≤ 140737488355328) :
    Calls Tryz.prog 9 #[.agg #[.int .u64 fr, .int .u64 en, hi, hg, .bool last]] w
      fun e w' => ∃ I G ai ci ag cg, e = .returned (.agg #[.int .u64 fr, .int .u64 en, .slice ai (List.length I) ci, .slice ag (List.length G) cg, .bool last]) ∧ Hid (ShO wB w w' (.slice ai (List.length I) ci) (.slice ag (List.length G) cg) I G) := by
  refine (short_any wB w hxB fr en hi hg last items gaps h1 h2).mono ?_
  rintro e w' ⟨hi', hg', rfl, h⟩
  obtain ⟨a, b, c⟩ := h.out
  obtain ⟨ai, ci, rfl, _, _⟩ := Row.shape a.row
  obtain ⟨ag, cg, rfl, _, _⟩ := Row.shape b
  exact ⟨items.take 40, gaps.take 40, ai, ci, ag, cg, rfl, ⟨a, b, c, List.length_take_le .., List.length_take_le .., fun y hy => hav y (List.mem_of_mem_take hy)⟩⟩
/-- The box of a round, its page cut short. -/
structure RisA (w0 wr W : World) (bs : Nat) (pv : Value) (p : List C) (nk : Nat) (st cnt : Int) (b : Nat) (x : AS) (ai : Option Addr) (ci : Nat) (ag : Option Addr) (cg : Nat) (I : List IM) (G : List (Nat × Nat)) : Prop where
  s : SplR w0 W bs pv p nk st cnt
  hx : Ext wr W
  bx : W.heap[b]? = some (.cells #[.int .i64 x.what, .bool x.known, .int .u64 x.cnt, .int .u64 x.fr, .int .u64 x.en, .slice ai I.length ci, .slice ag G.length cg, .bool x.last, .int .i64 x.room] 36 (0, 0))
  i : ImR W (.slice ai I.length ci) I
  g : GpR W (.slice ag G.length cg) G
  li : I.length ≤ 40
  lg : G.length ≤ 40
  av : ∀ y ∈ I, y.av.length * 56 ≤ 140737488355328
/-- After the switch: the box of the round and what the call told. -/
structure RisB (w0 W : World) (bs : Nat) (pv : Value) (p : List C) (nk : Nat) (b : Nat) (ov : Value) (room : Int) : Prop where
  o : OutR w0 W bs pv p ov nk room
  bx : W.cell? ⟨b, 8, none⟩ = some (.int .i64 room)
section
variable {w0 wr W : World} {bs : Nat} {pv : Value} {p : List C} {nk : Nat} {st cnt : Int} {b : Nat} {x : AS} {ai : Option Addr} {ci : Nat} {ag : Option Addr} {cg : Nat} {I : List IM} {G : List (Nat × Nat)}
theorem RisA.ne (h : RisA w0 wr W bs pv p nk st cnt b x ai ci ag cg I G) : b ≠ bs := by
  rintro rfl
  have h1 := h.bx
  have h2 : W.heap[b]? = _ := h.s.sp
  rw [h1] at h2
  simp at h2
theorem RisA.keep {w' : World} (h : RisA w0 wr W bs pv p nk st cnt b x ai ci ag cg I G) (hg : W.grownBy w' (some bs)) : w'.cell? ⟨b, 8, none⟩ = some (.int .i64 x.room) :=
  cell_of_row _ _ 8 _ _ _ ((hg.block b (Array.getElem?_eq_some_iff.1 h.bx).1 (by intro e; cases e; exact h.ne rfl)).trans h.bx)
theorem RisA.none (h : RisA w0 wr W bs pv p nk st cnt b x ai ci ag cg I G) : RisB w0 W bs pv p nk b (.slice none 0 0) x.room :=
  ⟨OutR.none h.s, h.keep (grown_extJ (Ext.refl W))⟩
theorem RisA.later {W' : World} (h : RisA w0 wr W bs pv p nk st cnt b x ai ci ag cg I G) (k : Ext W W') : RisA w0 wr W' bs pv p nk st cnt b x ai ci ag cg I G :=
  ⟨h.s.later k, h.hx.trans k, block_later h.bx k, h.i.ext k, Row.ext h.g k, h.li, h.lg, h.av⟩
theorem ris_lit (h : RisA w0 wr W bs pv p nk st cnt b x ai ci ag cg I G) :
    Calls Tryz.prog 10 #[.pointer (some ⟨bs, 0, none⟩), .bool x.known] W fun e w' => e = .returned (.tuple #[]) ∧ Hid (RisB w0 w' bs pv p nk b (.slice none 0 0) x.room) := by
  refine (lit_spl h.s x.known).mono ?_
  rintro e w' ⟨rfl, h2⟩
  exact ⟨rfl, OutR.none h2.out.1, h.keep h2.out.2⟩
theorem ris_ask (h : RisA w0 wr W bs pv p nk 1 cnt b x ai ci ag cg I G) :
    Calls Tryz.prog 11 #[.pointer (some ⟨bs, 0, none⟩), .int .u64 x.cnt] W fun e w' => e = .returned (.tuple #[.int .u64 nk, .bool true]) ∧ Hid (∃ c2, SplR w0 w' bs pv p nk 2 c2 ∧ RisB w0 w' bs pv p nk b (.slice none 0 0) x.room) := by
  refine (ask_spl h.s x.cnt).mono ?_
  rintro e w' ⟨rfl, h2⟩
  exact ⟨rfl, _, h2.out.1, OutR.none h2.out.1, h.keep h2.out.2⟩
theorem ris_askno (h : RisA w0 wr W bs pv p nk st cnt b x ai ci ag cg I G) (hs : st ≠ 1) :
    Calls Tryz.prog 11 #[.pointer (some ⟨bs, 0, none⟩), .int .u64 x.cnt] W fun e w' => e = .returned (.tuple #[.int .u64 0, .bool false]) ∧ Hid (RisB w0 w' bs pv p nk b (.slice none 0 0) x.room) := by
  refine (sask_no W bs pv nk st cnt h.s.sp hs x.cnt).mono ?_
  rintro e w' ⟨rfl, rfl⟩
  exact ⟨rfl, h.none⟩
theorem ris_page (h : RisA w0 wr W bs pv p nk st cnt b x ai ci ag cg I G) :
    Calls Tryz.prog 13 #[.pointer (some ⟨bs, 0, none⟩), .int .u64 x.cnt, .agg #[.int .u64 x.fr, .int .u64 x.en, .slice ai I.length ci, .slice ag G.length cg, .bool x.last], .int .i64 x.room] W fun e w' => ∃ a n c, e = .returned (.slice a n c) ∧ Hid (RisB w0 w' bs pv p nk b (.slice a n c) x.room) := by
  by_cases hc : st = 2 ∧ cnt = x.cnt
  · obtain ⟨rfl, rfl⟩ := hc
    refine (page_yes w0 W bs pv p nk x.cnt h.s x.fr x.en _ _ x.last x.room I G h.i h.g h.li h.lg h.av).mono ?_
    rintro e w' ⟨v, rfl, hP⟩
    obtain ⟨Zg, Zi, _, _, hT⟩ := hP.out
    obtain ⟨a, c, rfl⟩ := hT.shape
    have hg : W.grownBy w' (some bs) := by obtain ⟨_, _, _, _, _, hg⟩ := hT; exact hg
    exact ⟨a, _, c, rfl, OutR.tell h.s hT (pageP_rise p x.room x.en x.last _ nk), h.keep hg⟩
  · refine (page_no W bs pv nk st cnt h.s.sp x.cnt hc x.fr x.en _ _ x.last x.room).mono ?_
    rintro e w' ⟨rfl, hx⟩
    exact ⟨_, _, _, rfl, OutR.none (h.s.later hx), h.keep (grown_extJ hx)⟩
theorem ris_comes (h : RisA w0 wr W bs pv p nk st cnt b x ai ci ag cg I G) {y : IM} (hy : y ∈ I) :
    Calls Tryz.prog 14 #[.pointer (some ⟨bs, 0, none⟩), .agg #[.int .u64 y.n, .int .u64 y.t, .string (strOf y.key), .slice y.ha y.av.length y.hc], .int .i64 x.room] W fun e w' => ∃ a n c, e = .returned (.slice a n c) ∧ Hid (RisB w0 w' bs pv p nk b (.slice a n c) x.room) := by
  refine (comes_any w0 W bs pv p nk st cnt h.s y (h.i.hs y hy) (h.av y hy) x.room).mono ?_
  rintro e w' ⟨v, rfl, hP⟩
  have hT : TellO _ _ _ _ _ _ _ _ _ := hP.out
  obtain ⟨a, c, rfl⟩ := hT.shape
  have hg : W.grownBy w' (some bs) := by obtain ⟨_, _, _, _, _, hg⟩ := hT; exact hg
  exact ⟨a, _, c, rfl, OutR.tell h.s hT (comesP_rise p x.room y.pi nk st), h.keep hg⟩
end
set_option maxRecDepth 100000 in
set_option maxHeartbeats 8000000 in
theorem spliceRising_walk (w : World) (vp : Value) (p : List C) (hp : PredR w vp p) (next : Nat) (vl : Value) (us : List AS) (hu : AssR w vl us) (hok : ∀ x ∈ us, okAS x) :
    Calls Tryz.prog 3 #[vp, .int .u64 next, vl] w fun e w' => e = .returned (.bool true) ∧ Ext w w' := by
  obtain ⟨pa, pc, rfl, _, _⟩ := hp.shape
  obtain ⟨la, lc, rfl, _, _⟩ := Row.shape hu.row
  by_cases hgood : mayP p = true ∧ 1 ≤ next ∧ next ≤ 1099511627777
  · obtain ⟨hm, hn1, hn2⟩ := hgood
    have CN := Lib.hid (new_yes w _ p hp hm next hn1 hn2)
    have HP := Lib.hid hp
    have HM := Lib.hid hm
    have HU := Lib.hid hu
    have HOK := Lib.hid hok
    obtain ⟨l0, hl0⟩ : ∃ x : Nat, (x : Int) = (next : Int) - 1 := ⟨next - 1, by omega⟩
    have q0 : (next : Int) - 1 = (l0 : Int) := hl0.symm
    have HL0 : Hid (next = l0 + 1) := by show _ = _; omega
    have hl01 : l0 ≤ 1099511627777 := by omega
    clear hp hu hok hm hn1 hn2 hl0
    go_enter Tryz.func3, Tryz.ntmps3
    go_upto_region 4 with (go_at_call 7; (with_reducible refine CN.out.mono ?_); rintro e w1 ⟨bs, rfl, h1⟩)
    obtain ⟨w0, pv, S1, hx01, hx1⟩ := h1.out
    have H1 : Hid (∃ nk st cnt, SplR w0 w1 bs pv (normP p) nk st cnt ∧ l0 < nk) := ⟨next, 0, 0, S1, by have := HL0.out; omega⟩
    have HX0 := Lib.hid hx01
    clear h1 S1 hx01 hx1 CN
    go_wp2_with fail
    go_loopw [9, 34] (fun lv iv wr => ∃ i la2 : Nat, lv = .int .u64 la2 ∧ iv = .int .i64 i ∧ i ≤ us.length ∧ i ≤ 100 ∧ Hid (∃ nk st cnt, SplR w0 wr bs pv (normP p) nk st cnt ∧ la2 < nk)) (fun _ iv _ => us.length - (intOf iv).toNat)
    case atStart => exact ⟨0, l0, rfl, rfl, Nat.zero_le _, Nat.zero_le _, H1.out⟩
    case round =>
      clear H1
      obtain ⟨i, la2, rfl, rfl, hi, hi100, hst⟩ := hrel
      by_cases h : i < us.length
      · have hI : decide ((i : Int) < (us.length : Int)) = true := decide_eq_true (by omega)
        obtain ⟨nk, st, cnt, hS, hla⟩ := hst.out
        clear hst
        have hxw := HX0.out.trans hS.hx
        obtain ⟨B, o, rfl, hc⟩ := (HU.out.ext hxw).at h
        obtain ⟨x, hx⟩ : ∃ x, x = us[i] := ⟨_, rfl⟩
        rw [← hx] at hc
        have hmx : x ∈ us := by rw [hx]; exact List.getElem_mem h
        have c0 := hc 0 _ (by decide) rfl
        have c1 := hc 1 _ (by decide) rfl
        have c2 := hc 2 _ (by decide) rfl
        have c3 := hc 3 _ (by decide) rfl
        have c4 := hc 4 _ (by decide) rfl
        have c5 := hc 5 _ (by decide) rfl
        have c6 := hc 6 _ (by decide) rfl
        have c7 := hc 7 _ (by decide) rfl
        have c8 := hc 8 _ (by decide) rfl
        rw [Nat.add_zero] at c0
        clear hc hx
        obtain ⟨a5, d5, e5, _, _⟩ := Row.shape (HU.out.is x hmx).row
        obtain ⟨a6, d6, e6, _, _⟩ := Row.shape (HU.out.gs x hmx)
        rw [e5] at c5
        rw [e6] at c6
        by_cases h100 : i = 100
        · subst h100
          go_wp2_with (go_at_call 8; (with_reducible refine (awake26_any _).mono ?_); rintro e w2 ⟨rfl, hx2⟩)
          go_ret
          exact ⟨rfl, (hxw.trans (boxes1 wr _).1).trans hx2⟩
        · have h1b : ((i : Int) == 100) = false := by
            have : ¬ (i : Int) = 100 := by omega
            simpa using this
          obtain ⟨hx8, hb8⟩ := boxes1 wr (.cells #[.int .i64 x.what, .bool x.known, .int .u64 x.cnt, .int .u64 x.fr, .int .u64 x.en, .slice a5 x.items.length d5, .slice a6 x.gaps.length d6, .bool x.last, .int .i64 x.room] 36)
          have g3 := cell_of_row _ _ 3 _ _ _ hb8
          have g4 := cell_of_row _ _ 4 _ _ _ hb8
          have g5 := cell_of_row _ _ 5 _ _ _ hb8
          have g6 := cell_of_row _ _ 6 _ _ _ hb8
          have g7 := cell_of_row _ _ 7 _ _ _ hb8
          have HI8 : Hid (ImR wr (.slice a5 x.items.length d5) x.items ∧ GpR wr (.slice a6 x.gaps.length d6) x.gaps) := by
            have u1 := HU.out.is x hmx
            have u2 := HU.out.gs x hmx
            rw [e5] at u1
            rw [e6] at u2
            exact ⟨u1.ext hxw, u2.ext hxw⟩
          go_upto_region 9 with fail
          have HS := Lib.hid hS
          have HB8 := Lib.hid hb8
          have HX8 := Lib.hid hx8
          have HXW := Lib.hid hxw
          clear hS hb8 hx8 hxw c0 c1 c2 c3 c4 c5 c6 c7 c8
          go_upto_region 10 with (first
            | (go_at_call 9; (with_reducible refine (short_ok wr _ HX8.out x.fr x.en _ _ x.last x.items x.gaps HI8.out.1 HI8.out.2 (HOK.out x hmx).av).mono ?_); rintro e w3 ⟨I, G, ai, ci, ag, cg, rfl, HZ⟩)
            | (refine wpList_store_part 34 (.tmp 44) (.tmp 43) rfl rfl wr.heap.size 3 rfl #[.int .u64 x.fr, .int .u64 x.en, .slice ai I.length ci, .slice ag G.length cg, .bool x.last] rfl _ 36 #[.int .i64 x.what, .bool x.known, .int .u64 x.cnt, .int .u64 x.fr, .int .u64 x.en, .slice ai I.length ci, .slice ag G.length cg, .bool x.last, .int .i64 x.room] (block_later HB8.out HZ.out.x) (by simp) sizePage (by simp [Value.oneCell']) rfl ?_))
          have HR : Hid (RisA w0 wr (w3.setRow wr.heap.size #[.int .i64 x.what, .bool x.known, .int .u64 x.cnt, .int .u64 x.fr, .int .u64 x.en, .slice ai I.length ci, .slice ag G.length cg, .bool x.last, .int .i64 x.room]) bs pv (normP p) nk st cnt wr.heap.size x ai ci ag cg I G) := by
            have hx3 : Ext wr (w3.setRow wr.heap.size #[.int .i64 x.what, .bool x.known, .int .u64 x.cnt, .int .u64 x.fr, .int .u64 x.en, .slice ai I.length ci, .slice ag G.length cg, .bool x.last, .int .i64 x.room]) := (HX8.out.trans HZ.out.x).setRow (Nat.le_refl _) _
            exact ⟨HS.out.later hx3, hx3, setRow_heap w3 wr.heap.size _ _ 36 (0, 0) (block_later HB8.out HZ.out.x), HZ.out.i.ext hx3, Row.ext HZ.out.g hx3, HZ.out.li, HZ.out.lg, HZ.out.av⟩
          obtain ⟨w4, hw4⟩ : ∃ w4, w4 = w3.setRow wr.heap.size #[.int .i64 x.what, .bool x.known, .int .u64 x.cnt, .int .u64 x.fr, .int .u64 x.en, .slice ai I.length ci, .slice ag G.length cg, .bool x.last, .int .i64 x.room] := ⟨_, rfl⟩
          rw [← hw4] at HR ⊢
          clear hw4 HZ HS HX8 HB8 HI8 g3 g4 g5 g6 g7
          have y0 := cell_of_row _ _ 0 _ _ _ HR.out.bx
          have y1 := cell_of_row _ _ 1 _ _ _ HR.out.bx
          have y2 := cell_of_row _ _ 2 _ _ _ HR.out.bx
          have y3 := cell_of_row _ _ 3 _ _ _ HR.out.bx
          have y4 := cell_of_row _ _ 4 _ _ _ HR.out.bx
          have y5 := cell_of_row _ _ 5 _ _ _ HR.out.bx
          have y6 := cell_of_row _ _ 6 _ _ _ HR.out.bx
          have y7 := cell_of_row _ _ 7 _ _ _ HR.out.bx
          have y8 := cell_of_row _ _ 8 _ _ _ HR.out.bx
          dsimp only [Act.put]
          go_upto_block 2 with fail
          go_cut [12, 13, 14] from 45 to 94 (fun ov o13 o14 wx => ∃ a n c, ov = .slice a n c ∧ Hid (RisB w0 wx bs pv (normP p) nk wr.heap.size (.slice a n c) x.room))
          case first =>
            by_cases t0 : (x.what == 0) = true
            · go_wp2_with (go_at_call 10; (with_reducible refine (ris_lit HR.out).mono ?_); rintro e w5 ⟨rfl, h5⟩)
              go_meet
              exact ⟨_, _, _, rfl, h5⟩
            · by_cases t1 : (x.what == 1) = true
              · by_cases t5 : st = 1
                · subst t5
                  go_upto_region 16 with (go_at_call 11; (with_reducible refine (ris_ask HR.out).mono ?_); rintro e w5 ⟨rfl, h5⟩)
                  obtain ⟨c2, S2, R2⟩ := h5.out
                  have HS2 := Lib.hid S2
                  have HR2 := Lib.hid R2
                  have qn : ((nk : Int) != (nk : Int)) = false := by simp
                  clear S2 R2 h5
                  go_wp2_with (go_at_call 12; (with_reducible refine (snext_any _ bs pv nk 2 c2 HS2.out.sp).mono ?_); rintro e w6 ⟨rfl, rfl⟩)
                  go_meet
                  exact ⟨_, _, _, rfl, HR2⟩
                · go_upto_region 16 with (go_at_call 11; (with_reducible refine (ris_askno HR.out t5).mono ?_); rintro e w5 ⟨rfl, h5⟩)
                  go_wp2_with fail
                  go_meet
                  exact ⟨_, _, _, rfl, h5⟩
              · by_cases t2 : (x.what == 2) = true
                · go_wp2_with (go_at_call 13; (with_reducible refine (ris_page HR.out).mono ?_); rintro e w5 ⟨a, n, c, rfl, h5⟩)
                  go_meet
                  exact ⟨_, _, _, rfl, h5⟩
                · by_cases t3 : (x.what == 3) = true
                  · cases I with
                    | nil =>
                      go_wp2_with fail
                      go_meet
                      exact ⟨_, _, _, rfl, HR.out.none⟩
                    | cons y I2 =>
                      have hI0 : decide (((y :: I2).length : Int) > 0) = true := by simp
                      obtain ⟨m2, hm2⟩ : ∃ m2, m2 = (y :: I2).length := ⟨_, rfl⟩
                      obtain ⟨B2, o2, rfl, _⟩ : ∃ B2 o2, ai = some ⟨B2, o2, none⟩ ∧ True := by
                        obtain ⟨B2, o2, e⟩ := Row.base HR.out.i.row (by simp) (by decide)
                        exact ⟨B2, o2, e, trivial⟩
                      have z0 := Row.cellAt HR.out.i.row (j := 0) (u := .int .u64 y.n) rfl (by simp)
                      have z1 := Row.cellAt HR.out.i.row (j := 1) (u := .int .u64 y.t) rfl (by simp)
                      have z2 := Row.cellAt HR.out.i.row (j := 2) (u := .string (strOf y.key)) rfl (by simp)
                      have z3 := Row.cellAt HR.out.i.row (j := 3) (u := .slice y.ha y.av.length y.hc) rfl (by simp)
                      rw [Nat.add_zero] at z0
                      rw [← hm2] at y5
                      go_upto_region 22 with fail
                      refine wp_region_chain 8 [Fact.eq (.pointer (some ⟨bs, 0, none⟩)),
                          Fact.eq (.pointer (some ⟨wr.heap.size, 3, none⟩)),
                          Fact.eq (.pointer (some ⟨wr.heap.size, 5, none⟩)),
                          Fact.eq (.slice (some ⟨B2, o2, none⟩) m2 ci),
                          Fact.eq (.pointer (some ⟨B2, o2, none⟩)),
                          Fact.eq (.agg #[.int .u64 y.n, .int .u64 y.t, .string (strOf y.key), .slice y.ha y.av.length y.hc]),
                          Fact.eq (.pointer (some ⟨wr.heap.size, 8, none⟩)),
                          Fact.eq (.int .i64 x.room)]
                        [[], [], [(1, 87)], [(2, 88)], [(3, 89)], [(4, 90)], [], [(6, 92)]]
                        [(0, 86), (1, 87), (2, 88), (3, 89), (4, 90), (5, 91), (6, 92), (7, 93)] (by kernel_rfl) (by kernel_rfl) ?_ ?_
                      · refine ⟨?_, ?_, ?_, ?_, ?_, ?_, ?_, ?_, trivial⟩
                        · intro w1 hx1; change wpList _ _ _ _ _ _; exact ob_move rfl rfl rfl rfl rfl
                        · intro w1 hx1; change wpList _ _ _ _ _ _; go_wp2_with fail; exact ⟨rfl, Ext.refl _, rfl, rfl⟩
                        · intro w1 hx1; rintro _ rfl; change wpList _ _ _ _ _ _; go_wp2_with fail; exact ⟨rfl, Ext.refl _, rfl, rfl⟩
                        · intro w1 hx1; rintro _ rfl; change wpList _ _ _ _ _ _; have m0 := hx1.cell y5; go_wp2_with fail; exact ⟨rfl, Ext.refl _, rfl, rfl⟩
                        · intro w1 hx1; rintro _ rfl; change wpList _ _ _ _ _ _; go_wp2_with fail; exact ⟨rfl, Ext.refl _, rfl, rfl⟩
                        · intro w1 hx1; rintro _ rfl; change wpList _ _ _ _ _ _; have m0 := hx1.cell z0; have m1 := hx1.cell z1; have m2 := hx1.cell z2; have m3 := hx1.cell z3; go_wp2_with fail; exact ⟨rfl, Ext.refl _, rfl, rfl⟩
                        · intro w1 hx1; change wpList _ _ _ _ _ _; go_wp2_with fail; exact ⟨rfl, Ext.refl _, rfl, rfl⟩
                        · intro w1 hx1; rintro _ rfl; change wpList _ _ _ _ _ _; have m0 := hx1.cell y8; go_wp2_with fail; exact ⟨rfl, Ext.refl _, rfl, rfl⟩
                      · intro w1 hx1; rintro _ rfl; rintro _ rfl; rintro _ rfl; rintro _ rfl; rintro _ rfl; rintro _ rfl; rintro _ rfl; rintro _ rfl; refine depsThen_nil ?_; dsimp only; simp only [Act.put, List.setIfInBounds_toArray, List.set_cons_zero, List.set_cons_succ, List.drop_succ_cons, List.drop_zero]
                        go_wp2_with (go_at_call 14; (with_reducible refine (ris_comes (HR.out.later hx1) (List.mem_cons_self ..)).mono ?_); rintro e w5 ⟨a, n, c, rfl, h5⟩)
                        go_meet
                        exact ⟨_, _, _, rfl, h5⟩
                  · go_wp2_with fail
                    go_meet
                    exact ⟨_, _, _, rfl, HR.out.none⟩
          case rest =>
            obtain ⟨a, n, c, rfl, hR⟩ := hcut
            clear HR y0 y1 y2 y3 y4 y5 y6 y7 y8
            have y8 := hR.out.bx
            obtain ⟨O, nx, st2, cnt2, S2, row, hat, hrise, hlen⟩ := hR.out.o
            have hn : n = O.length := by
              obtain ⟨a', c', e, _, _⟩ := own_shape row
              simp only [Value.slice.injEq] at e
              exact e.2.1
            have hnB : n ≤ 9223372036854775807 := by
              obtain ⟨a', c', e, k1, k2⟩ := own_shape row
              unfold maxLen at k2
              omega
            obtain ⟨mr, hmr⟩ : ∃ mr, mr = max x.room 0 := ⟨_, rfl⟩
            have q1 : max x.room 0 = mr := hmr.symm
            have q2 : decide ((n : Int) > mr) = false := decide_eq_false (by rw [hn, hmr]; omega)
            have HS2 := Lib.hid S2
            have HO := Lib.hid (And.intro row (And.intro hat (And.intro hrise hn)))
            clear S2 row hat hrise hlen hn hmr hR
            go_wp2_with fail
            go_loopw [9, 103] (fun lv jv wq => ∃ j la3 : Nat, lv = .int .u64 la3 ∧ jv = .int .i64 j ∧ j ≤ n ∧ Hid (Ext wc wq ∧ RiseL (normP p) (la3 + 1) ((O.drop j).map DM.pd) nx)) (fun _ jv _ => n - (intOf jv).toNat)
            case atStart => exact ⟨0, la2, rfl, rfl, Nat.zero_le _, Ext.refl _, HO.out.2.2.1.from (by omega)⟩
            case round =>
              obtain ⟨j, la3, rfl, rfl, hj, hQ⟩ := hrel
              have HXQ := Lib.hid hQ.out.1
              have HRQ := Lib.hid hQ.out.2
              clear hQ
              by_cases h : j < n
              · have hJ : decide ((j : Int) < (n : Int)) = true := decide_eq_true (by omega)
                have hn := HO.out.2.2.2
                have hjO : j < O.length := by omega
                have hrow : Row wr 6 (.slice a O.length c) O.length (O.flatMap dmC) := by have := Row.of_own (own_ext HO.out.1 HXQ.out); rw [hn] at this; exact this
                obtain ⟨B, o, rfl, c0, c1, c2, c3, c4, c5⟩ := hrow.atD hjO
                have hatd := HO.out.2.1 _ (List.getElem_mem hjO)
                have hat : AttrR wr O[j].h O[j].av := Row.of_own (own_ext hatd HXQ.out)
                have hr := HRQ.out
                rw [List.drop_eq_getElem_cons hjO, List.map_cons] at hr
                obtain ⟨hr1, hr2, hr3, hr4⟩ := hr
                have CB := Lib.hid fun W => begins_nat W O[j]
                have CN := Lib.hid fun W => number_nat W O[j]
                have CM0 : Hid (∀ W, Ext wr W → O[j].pd.n ≠ 0 → Calls Tryz.prog 17 #[.slice pa p.length pc, .agg #[.string (strOf O[j].key), .slice O[j].ha O[j].av.length O[j].hc]] W fun e w' => e = .returned (.bool true) ∧ Ext W w') := fun W hW hne => by
                  have hm1 : matchP p O[j].av = true := by
                    have : matchP (normP p) O[j].pd.av = true := by rcases hr3 with h | h; exact absurd h hne; exact h
                    rwa [show O[j].pd.av = O[j].av from rfl, normP_match HM.out] at this
                  have := matches_any W _ p O[j].key _ O[j].av (HP.out.ext ((HX0.out.trans (HS2.out.hx.trans HXQ.out)).trans hW)) (hat.ext hW)
                  rw [hm1] at this
                  exact this
                have hnn : O[j].pd.n = O[j].n := rfl
                rw [hnn] at CM0 hr3
                have HRZ := Lib.hid hr4
                clear hrow hatd hat hnn hr3 hr4 hn
                generalize O[j].pd.beg = b at *
                generalize O[j].pd.num = m at *
                obtain ⟨d, hd⟩ : ∃ d, d = O[j] := ⟨_, rfl⟩
                rw [← hd] at c0 c1 c2 c3 c4 c5 CB CN CM0
                clear hd
                obtain ⟨dn, tt, key, ha, hc, av, f, g⟩ := d
                dsimp only at c0 c1 c2 c3 c4 c5 CB CN CM0
                generalize strOf key = k at *
                generalize av.length = ln at *
                obtain ⟨hx8, hb8⟩ := boxes1 wr (.cells #[.int .u64 dn, .int .u64 tt, .string k, .slice ha ln hc, .int .u64 f, .int .u64 g] 53)
                have HB := Lib.hid hb8
                have HX := Lib.hid hx8
                have CM : Hid (∀ W, Ext (wr.alloc (.cells #[.int .u64 dn, .int .u64 tt, .string k, .slice ha ln hc, .int .u64 f, .int .u64 g] 53)) W → dn ≠ 0 → Calls Tryz.prog 17 #[.slice pa p.length pc, .agg #[.string k, .slice ha ln hc]] W fun e w' => e = .returned (.bool true) ∧ Ext W w') := fun W hW hne => CM0.out W (HX.out.trans hW) hne
                clear hx8 hb8 CM0
                have d1 : decide ((b : Int) ≤ (la3 : Int)) = false := decide_eq_false (by omega)
                have d1' : decide (b ≤ la3) = false := decide_eq_false (by omega)
                have d2 : decide ((m : Int) < (b : Int)) = false := decide_eq_false (by omega)
                have d2' : decide (m < b) = false := decide_eq_false (by omega)
                clear hr1 hr2
                go_upto_region 28 with fail
                clear c0 c1 c2 c3 c4 c5
                by_cases h0 : dn = 0
                · have d3 : decide ((dn : Int) > 0) = false := decide_eq_false (by omega)
                  have d3' : decide (0 < dn) = false := decide_eq_false (by omega)
                  clear h0 CM
                  refine wp_region_facts [Fact.eq (.agg #[.int .u64 dn, .int .u64 tt, .string k, .slice ha ln hc, .int .u64 f, .int .u64 g]),
                      Fact.eq (.int .u64 (b : Nat)),
                      Fact.eq (.int .u64 la3),
                      Fact.eq (.bool false),
                      Fact.eq (.bool false),
                      Fact.eq (.agg #[.int .u64 dn, .int .u64 tt, .string k, .slice ha ln hc, .int .u64 f, .int .u64 g]),
                      Fact.eq (.int .u64 (m : Nat)),
                      Fact.eq (.agg #[.int .u64 dn, .int .u64 tt, .string k, .slice ha ln hc, .int .u64 f, .int .u64 g]),
                      Fact.eq (.int .u64 (b : Nat)),
                      Fact.eq (.bool false),
                      Fact.eq (.bool false),
                      Fact.eq (.bool false),
                      Fact.eq (.pointer (some ⟨wr.heap.size, 0, none⟩)),
                      Fact.eq (.pointer (some ⟨wr.heap.size, 0, none⟩)),
                      Fact.eq (.int .u64 dn),
                      Fact.eq (.bool false),
                      Fact.eq (.bool false),
                      Fact.eq undef,
                      Fact.eq undef,
                      Fact.eq undef,
                      Fact.eq undef,
                      Fact.eq undef,
                      Fact.eq undef,
                      Fact.eq (.bool false),
                      Fact.eq (.bool false)]
                    [[], [(0, 107)], [], [(1, 108), (2, 109)], [(3, 110)], [(4, 111)], [(5, 112), (4, 111)], [(4, 111)], [(7, 114), (4, 111)], [(6, 113), (8, 115), (4, 111)], [(4, 111), (9, 116)], [(10, 117)], [(11, 118)], [(12, 119), (11, 118)], [(13, 120), (11, 118)], [(14, 121), (11, 118)], [(15, 122), (11, 118)], [(16, 123)], [(16, 123)], [(18, 125), (16, 123)], [(19, 126), (16, 123)], [(17, 124), (20, 127), (16, 123)], [(21, 128), (16, 123)], [(16, 123), (22, 129), (11, 118)], [(11, 118), (23, 130)]]
                    [(0, 107), (1, 108), (2, 109), (3, 110), (4, 111), (5, 112), (6, 113), (7, 114), (8, 115), (9, 116), (10, 117), (11, 118), (12, 119), (13, 120), (14, 121), (15, 122), (16, 123), (17, 124), (18, 125), (19, 126), (20, 127), (21, 128), (22, 129), (23, 130), (24, 131)] (by kernel_rfl) (by kernel_rfl) ?_ ?_
                  · refine ⟨?_, ?_, ?_, ?_, ?_, ?_, ?_, ?_, ?_, ?_, ?_, ?_, ?_, ?_, ?_, ?_, ?_, ?_, ?_, ?_, ?_, ?_, ?_, ?_, ?_, trivial⟩
                    · intro w1 hx1; change wpList _ _ _ _ _ _; have m0 := cell_of_row _ _ 0 _ _ _ (block_later HB.out hx1); have m1 := cell_of_row _ _ 1 _ _ _ (block_later HB.out hx1); have m2 := cell_of_row _ _ 2 _ _ _ (block_later HB.out hx1); have m3 := cell_of_row _ _ 3 _ _ _ (block_later HB.out hx1); have m4 := cell_of_row _ _ 4 _ _ _ (block_later HB.out hx1); have m5 := cell_of_row _ _ 5 _ _ _ (block_later HB.out hx1); go_wp2_with fail; exact ⟨rfl, Ext.refl _, rfl, rfl⟩
                    · intro w1 hx1; rintro _ rfl; change wpList _ _ _ _ _ _; go_wp2_with fail; refine (CB.out _).mono ?_; rintro e w2 ⟨rfl, hx2⟩; go_wp2_with fail; exact ⟨rfl, hx2, rfl, rfl⟩
                    · intro w1 hx1; change wpList _ _ _ _ _ _; exact ob_move rfl rfl rfl rfl rfl
                    · intro w1 hx1; rintro _ rfl; rintro _ rfl; change wpList _ _ _ _ _ _; go_wp2_with fail; exact ⟨rfl, Ext.refl _, rfl, rfl⟩
                    · intro w1 hx1; rintro _ rfl; change wpList _ _ _ _ _ _; exact ob_move rfl rfl rfl rfl rfl
                    · intro w1 hx1; rintro _ rfl; change wpList _ _ _ _ _ _; have m0 := cell_of_row _ _ 0 _ _ _ (block_later HB.out hx1); have m1 := cell_of_row _ _ 1 _ _ _ (block_later HB.out hx1); have m2 := cell_of_row _ _ 2 _ _ _ (block_later HB.out hx1); have m3 := cell_of_row _ _ 3 _ _ _ (block_later HB.out hx1); have m4 := cell_of_row _ _ 4 _ _ _ (block_later HB.out hx1); have m5 := cell_of_row _ _ 5 _ _ _ (block_later HB.out hx1); go_wp2_with fail; exact ⟨rfl, Ext.refl _, rfl, rfl⟩
                    · intro w1 hx1; rintro _ rfl; rintro _ rfl; change wpList _ _ _ _ _ _; go_wp2_with fail; refine (CN.out _).mono ?_; rintro e w2 ⟨rfl, hx2⟩; go_wp2_with fail; exact ⟨rfl, hx2, rfl, rfl⟩
                    · intro w1 hx1; rintro _ rfl; change wpList _ _ _ _ _ _; have m0 := cell_of_row _ _ 0 _ _ _ (block_later HB.out hx1); have m1 := cell_of_row _ _ 1 _ _ _ (block_later HB.out hx1); have m2 := cell_of_row _ _ 2 _ _ _ (block_later HB.out hx1); have m3 := cell_of_row _ _ 3 _ _ _ (block_later HB.out hx1); have m4 := cell_of_row _ _ 4 _ _ _ (block_later HB.out hx1); have m5 := cell_of_row _ _ 5 _ _ _ (block_later HB.out hx1); go_wp2_with fail; exact ⟨rfl, Ext.refl _, rfl, rfl⟩
                    · intro w1 hx1; rintro _ rfl; rintro _ rfl; change wpList _ _ _ _ _ _; go_wp2_with fail; refine (CB.out _).mono ?_; rintro e w2 ⟨rfl, hx2⟩; go_wp2_with fail; exact ⟨rfl, hx2, rfl, rfl⟩
                    · intro w1 hx1; rintro _ rfl; rintro _ rfl; rintro _ rfl; change wpList _ _ _ _ _ _; go_wp2_with fail; exact ⟨rfl, Ext.refl _, rfl, rfl⟩
                    · intro w1 hx1; rintro _ rfl; rintro _ rfl; change wpList _ _ _ _ _ _; exact ob_pick rfl rfl rfl rfl rfl rfl
                    · intro w1 hx1; rintro _ rfl; change wpList _ _ _ _ _ _; exact ob_move rfl rfl rfl rfl rfl
                    · intro w1 hx1; rintro _ rfl; change wpList _ _ _ _ _ _; go_wp2_with fail; exact ⟨rfl, Ext.refl _, rfl, rfl⟩
                    · intro w1 hx1; rintro _ rfl; rintro _ rfl; change wpList _ _ _ _ _ _; go_wp2_with fail; exact ⟨rfl, Ext.refl _, rfl, rfl⟩
                    · intro w1 hx1; rintro _ rfl; rintro _ rfl; change wpList _ _ _ _ _ _; have m0 := cell_of_row _ _ 0 _ _ _ (block_later HB.out hx1); go_wp2_with fail; exact ⟨rfl, Ext.refl _, rfl, rfl⟩
                    · intro w1 hx1; rintro _ rfl; rintro _ rfl; change wpList _ _ _ _ _ _; go_wp2_with fail; exact ⟨rfl, Ext.refl _, rfl, rfl⟩
                    · intro w1 hx1; rintro _ rfl; rintro _ rfl; change wpList _ _ _ _ _ _; exact ob_move rfl rfl rfl rfl rfl
                    · intro w1 hx1; rintro _ rfl; change wpList _ _ _ _ _ _; exact ob_skip rfl rfl rfl rfl
                    · intro w1 hx1; rintro _ rfl; change wpList _ _ _ _ _ _; exact ob_skip rfl rfl rfl rfl
                    · intro w1 hx1; rintro _ rfl; rintro _ rfl; change wpList _ _ _ _ _ _; exact ob_skip rfl rfl rfl rfl
                    · intro w1 hx1; rintro _ rfl; rintro _ rfl; change wpList _ _ _ _ _ _; exact ob_skip rfl rfl rfl rfl
                    · intro w1 hx1; rintro _ rfl; rintro _ rfl; rintro _ rfl; change wpList _ _ _ _ _ _; exact ob_skip rfl rfl rfl rfl
                    · intro w1 hx1; rintro _ rfl; rintro _ rfl; change wpList _ _ _ _ _ _; exact ob_skip rfl rfl rfl rfl
                    · intro w1 hx1; rintro _ rfl; rintro _ rfl; rintro _ rfl; change wpList _ _ _ _ _ _; exact ob_pick rfl rfl rfl rfl rfl rfl
                    · intro w1 hx1; rintro _ rfl; rintro _ rfl; change wpList _ _ _ _ _ _; exact ob_pick rfl rfl rfl rfl rfl rfl
                  · intro w1 hx1; rintro _ rfl; rintro _ rfl; rintro _ rfl; rintro _ rfl; rintro _ rfl; rintro _ rfl; rintro _ rfl; rintro _ rfl; rintro _ rfl; rintro _ rfl; rintro _ rfl; rintro _ rfl; rintro _ rfl; rintro _ rfl; rintro _ rfl; rintro _ rfl; rintro _ rfl; rintro _ rfl; rintro _ rfl; rintro _ rfl; rintro _ rfl; rintro _ rfl; rintro _ rfl; rintro _ rfl; rintro _ rfl; refine depsThen_nil ?_; dsimp only; simp only [Act.put, List.setIfInBounds_toArray, List.set_cons_zero, List.set_cons_succ]
                    have HB2 := Lib.hid (block_later HB.out hx1)
                    have HX2 := Lib.hid (HX.out.trans hx1)
                    clear hx1
                    have e0 := cell_of_row _ _ 0 _ _ _ HB2.out
                    have e1 := cell_of_row _ _ 1 _ _ _ HB2.out
                    have e2 := cell_of_row _ _ 2 _ _ _ HB2.out
                    have e3 := cell_of_row _ _ 3 _ _ _ HB2.out
                    have e4 := cell_of_row _ _ 4 _ _ _ HB2.out
                    have e5 := cell_of_row _ _ 5 _ _ _ HB2.out
                    go_wp2_with (go_at_call 16; (with_reducible refine (CN.out _).mono ?_); rintro e w10 ⟨rfl, hx10⟩)
                    go_roundw
                    case rel => exact ⟨j + 1, m, rfl, by rw [Int.natCast_add]; rfl, by omega, HXQ.out.trans (HX2.out.trans hx10), HRZ.out⟩
                    case measure => simp only [intOf]; omega
                · have CM2 := Lib.hid fun W hW => CM.out W hW h0
                  have d3 : decide ((dn : Int) > 0) = true := decide_eq_true (by omega)
                  have d3' : decide (0 < dn) = true := decide_eq_true (by omega)
                  clear h0 CM
                  refine wp_region_facts [Fact.eq (.agg #[.int .u64 dn, .int .u64 tt, .string k, .slice ha ln hc, .int .u64 f, .int .u64 g]),
                      Fact.eq (.int .u64 (b : Nat)),
                      Fact.eq (.int .u64 la3),
                      Fact.eq (.bool false),
                      Fact.eq (.bool false),
                      Fact.eq (.agg #[.int .u64 dn, .int .u64 tt, .string k, .slice ha ln hc, .int .u64 f, .int .u64 g]),
                      Fact.eq (.int .u64 (m : Nat)),
                      Fact.eq (.agg #[.int .u64 dn, .int .u64 tt, .string k, .slice ha ln hc, .int .u64 f, .int .u64 g]),
                      Fact.eq (.int .u64 (b : Nat)),
                      Fact.eq (.bool false),
                      Fact.eq (.bool false),
                      Fact.eq (.bool false),
                      Fact.eq (.pointer (some ⟨wr.heap.size, 0, none⟩)),
                      Fact.eq (.pointer (some ⟨wr.heap.size, 0, none⟩)),
                      Fact.eq (.int .u64 dn),
                      Fact.eq (.bool true),
                      Fact.eq (.bool true),
                      Fact.eq (.slice pa p.length pc),
                      Fact.eq (.pointer (some ⟨wr.heap.size, 0, none⟩)),
                      Fact.eq (.pointer (some ⟨wr.heap.size, 2, none⟩)),
                      Fact.eq (.agg #[.string k, .slice ha ln hc]),
                      Fact.eq (.bool true),
                      Fact.eq (.bool false),
                      Fact.eq (.bool false),
                      Fact.eq (.bool false)]
                    [[], [(0, 107)], [], [(1, 108), (2, 109)], [(3, 110)], [(4, 111)], [(5, 112), (4, 111)], [(4, 111)], [(7, 114), (4, 111)], [(6, 113), (8, 115), (4, 111)], [(4, 111), (9, 116)], [(10, 117)], [(11, 118)], [(12, 119), (11, 118)], [(13, 120), (11, 118)], [(14, 121), (11, 118)], [(15, 122), (11, 118)], [(16, 123)], [(16, 123)], [(18, 125), (16, 123)], [(19, 126), (16, 123)], [(17, 124), (20, 127), (16, 123)], [(21, 128), (16, 123)], [(16, 123), (22, 129), (11, 118)], [(11, 118), (23, 130)]]
                    [(0, 107), (1, 108), (2, 109), (3, 110), (4, 111), (5, 112), (6, 113), (7, 114), (8, 115), (9, 116), (10, 117), (11, 118), (12, 119), (13, 120), (14, 121), (15, 122), (16, 123), (17, 124), (18, 125), (19, 126), (20, 127), (21, 128), (22, 129), (23, 130), (24, 131)] (by kernel_rfl) (by kernel_rfl) ?_ ?_
                  · refine ⟨?_, ?_, ?_, ?_, ?_, ?_, ?_, ?_, ?_, ?_, ?_, ?_, ?_, ?_, ?_, ?_, ?_, ?_, ?_, ?_, ?_, ?_, ?_, ?_, ?_, trivial⟩
                    · intro w1 hx1; change wpList _ _ _ _ _ _; have m0 := cell_of_row _ _ 0 _ _ _ (block_later HB.out hx1); have m1 := cell_of_row _ _ 1 _ _ _ (block_later HB.out hx1); have m2 := cell_of_row _ _ 2 _ _ _ (block_later HB.out hx1); have m3 := cell_of_row _ _ 3 _ _ _ (block_later HB.out hx1); have m4 := cell_of_row _ _ 4 _ _ _ (block_later HB.out hx1); have m5 := cell_of_row _ _ 5 _ _ _ (block_later HB.out hx1); go_wp2_with fail; exact ⟨rfl, Ext.refl _, rfl, rfl⟩
                    · intro w1 hx1; rintro _ rfl; change wpList _ _ _ _ _ _; go_wp2_with fail; refine (CB.out _).mono ?_; rintro e w2 ⟨rfl, hx2⟩; go_wp2_with fail; exact ⟨rfl, hx2, rfl, rfl⟩
                    · intro w1 hx1; change wpList _ _ _ _ _ _; exact ob_move rfl rfl rfl rfl rfl
                    · intro w1 hx1; rintro _ rfl; rintro _ rfl; change wpList _ _ _ _ _ _; go_wp2_with fail; exact ⟨rfl, Ext.refl _, rfl, rfl⟩
                    · intro w1 hx1; rintro _ rfl; change wpList _ _ _ _ _ _; exact ob_move rfl rfl rfl rfl rfl
                    · intro w1 hx1; rintro _ rfl; change wpList _ _ _ _ _ _; have m0 := cell_of_row _ _ 0 _ _ _ (block_later HB.out hx1); have m1 := cell_of_row _ _ 1 _ _ _ (block_later HB.out hx1); have m2 := cell_of_row _ _ 2 _ _ _ (block_later HB.out hx1); have m3 := cell_of_row _ _ 3 _ _ _ (block_later HB.out hx1); have m4 := cell_of_row _ _ 4 _ _ _ (block_later HB.out hx1); have m5 := cell_of_row _ _ 5 _ _ _ (block_later HB.out hx1); go_wp2_with fail; exact ⟨rfl, Ext.refl _, rfl, rfl⟩
                    · intro w1 hx1; rintro _ rfl; rintro _ rfl; change wpList _ _ _ _ _ _; go_wp2_with fail; refine (CN.out _).mono ?_; rintro e w2 ⟨rfl, hx2⟩; go_wp2_with fail; exact ⟨rfl, hx2, rfl, rfl⟩
                    · intro w1 hx1; rintro _ rfl; change wpList _ _ _ _ _ _; have m0 := cell_of_row _ _ 0 _ _ _ (block_later HB.out hx1); have m1 := cell_of_row _ _ 1 _ _ _ (block_later HB.out hx1); have m2 := cell_of_row _ _ 2 _ _ _ (block_later HB.out hx1); have m3 := cell_of_row _ _ 3 _ _ _ (block_later HB.out hx1); have m4 := cell_of_row _ _ 4 _ _ _ (block_later HB.out hx1); have m5 := cell_of_row _ _ 5 _ _ _ (block_later HB.out hx1); go_wp2_with fail; exact ⟨rfl, Ext.refl _, rfl, rfl⟩
                    · intro w1 hx1; rintro _ rfl; rintro _ rfl; change wpList _ _ _ _ _ _; go_wp2_with fail; refine (CB.out _).mono ?_; rintro e w2 ⟨rfl, hx2⟩; go_wp2_with fail; exact ⟨rfl, hx2, rfl, rfl⟩
                    · intro w1 hx1; rintro _ rfl; rintro _ rfl; rintro _ rfl; change wpList _ _ _ _ _ _; go_wp2_with fail; exact ⟨rfl, Ext.refl _, rfl, rfl⟩
                    · intro w1 hx1; rintro _ rfl; rintro _ rfl; change wpList _ _ _ _ _ _; exact ob_pick rfl rfl rfl rfl rfl rfl
                    · intro w1 hx1; rintro _ rfl; change wpList _ _ _ _ _ _; exact ob_move rfl rfl rfl rfl rfl
                    · intro w1 hx1; rintro _ rfl; change wpList _ _ _ _ _ _; go_wp2_with fail; exact ⟨rfl, Ext.refl _, rfl, rfl⟩
                    · intro w1 hx1; rintro _ rfl; rintro _ rfl; change wpList _ _ _ _ _ _; go_wp2_with fail; exact ⟨rfl, Ext.refl _, rfl, rfl⟩
                    · intro w1 hx1; rintro _ rfl; rintro _ rfl; change wpList _ _ _ _ _ _; have m0 := cell_of_row _ _ 0 _ _ _ (block_later HB.out hx1); go_wp2_with fail; exact ⟨rfl, Ext.refl _, rfl, rfl⟩
                    · intro w1 hx1; rintro _ rfl; rintro _ rfl; change wpList _ _ _ _ _ _; go_wp2_with fail; exact ⟨rfl, Ext.refl _, rfl, rfl⟩
                    · intro w1 hx1; rintro _ rfl; rintro _ rfl; change wpList _ _ _ _ _ _; exact ob_move rfl rfl rfl rfl rfl
                    · intro w1 hx1; rintro _ rfl; change wpList _ _ _ _ _ _; exact ob_move rfl rfl rfl rfl rfl
                    · intro w1 hx1; rintro _ rfl; change wpList _ _ _ _ _ _; go_wp2_with fail; exact ⟨rfl, Ext.refl _, rfl, rfl⟩
                    · intro w1 hx1; rintro _ rfl; rintro _ rfl; change wpList _ _ _ _ _ _; go_wp2_with fail; exact ⟨rfl, Ext.refl _, rfl, rfl⟩
                    · intro w1 hx1; rintro _ rfl; rintro _ rfl; change wpList _ _ _ _ _ _; have m2 := cell_of_row _ _ 2 _ _ _ (block_later HB.out hx1); have m3 := cell_of_row _ _ 3 _ _ _ (block_later HB.out hx1); go_wp2_with fail; exact ⟨rfl, Ext.refl _, rfl, rfl⟩
                    · intro w1 hx1; rintro _ rfl; rintro _ rfl; rintro _ rfl; change wpList _ _ _ _ _ _; go_wp2_with fail; refine (CM2.out _ hx1).mono ?_; rintro e w2 ⟨rfl, hx2⟩; go_wp2_with fail; exact ⟨rfl, hx2, rfl, rfl⟩
                    · intro w1 hx1; rintro _ rfl; rintro _ rfl; change wpList _ _ _ _ _ _; go_wp2_with fail; exact ⟨rfl, Ext.refl _, rfl, rfl⟩
                    · intro w1 hx1; rintro _ rfl; rintro _ rfl; rintro _ rfl; change wpList _ _ _ _ _ _; exact ob_pick rfl rfl rfl rfl rfl rfl
                    · intro w1 hx1; rintro _ rfl; rintro _ rfl; change wpList _ _ _ _ _ _; exact ob_pick rfl rfl rfl rfl rfl rfl
                  · intro w1 hx1; rintro _ rfl; rintro _ rfl; rintro _ rfl; rintro _ rfl; rintro _ rfl; rintro _ rfl; rintro _ rfl; rintro _ rfl; rintro _ rfl; rintro _ rfl; rintro _ rfl; rintro _ rfl; rintro _ rfl; rintro _ rfl; rintro _ rfl; rintro _ rfl; rintro _ rfl; rintro _ rfl; rintro _ rfl; rintro _ rfl; rintro _ rfl; rintro _ rfl; rintro _ rfl; rintro _ rfl; rintro _ rfl; refine depsThen_nil ?_; dsimp only; simp only [Act.put, List.setIfInBounds_toArray, List.set_cons_zero, List.set_cons_succ]
                    have HB2 := Lib.hid (block_later HB.out hx1)
                    have HX2 := Lib.hid (HX.out.trans hx1)
                    clear hx1
                    have e0 := cell_of_row _ _ 0 _ _ _ HB2.out
                    have e1 := cell_of_row _ _ 1 _ _ _ HB2.out
                    have e2 := cell_of_row _ _ 2 _ _ _ HB2.out
                    have e3 := cell_of_row _ _ 3 _ _ _ HB2.out
                    have e4 := cell_of_row _ _ 4 _ _ _ HB2.out
                    have e5 := cell_of_row _ _ 5 _ _ _ HB2.out
                    go_wp2_with (go_at_call 16; (with_reducible refine (CN.out _).mono ?_); rintro e w10 ⟨rfl, hx10⟩)
                    go_roundw
                    case rel => exact ⟨j + 1, m, rfl, by rw [Int.natCast_add]; rfl, by omega, HXQ.out.trans (HX2.out.trans hx10), HRZ.out⟩
                    case measure => simp only [intOf]; omega
              · have hJ : decide ((j : Int) < (n : Int)) = false := decide_eq_false (by omega)
                have hr := HRQ.out
                have hn := HO.out.2.2.2
                rw [List.drop_eq_nil_of_le (by omega)] at hr
                have hr' : la3 + 1 ≤ nx := hr
                have d1 : decide ((nx : Int) ≤ (la3 : Int)) = false := decide_eq_false (by omega)
                have HS3 := Lib.hid (HS2.out.later HXQ.out)
                clear hr hn HRQ
                go_wp2_with (go_at_call 12; (with_reducible refine (snext_any _ bs _ nx st2 cnt2 HS3.out.sp).mono ?_); rintro e w6 ⟨rfl, rfl⟩)
                go_roundw
                case rel => exact ⟨i + 1, la3, rfl, by rw [Int.natCast_add]; rfl, by omega, by omega, _, _, _, HS3.out, by omega⟩
                case measure => simp only [intOf]; omega
      · have hI : decide ((i : Int) < (us.length : Int)) = false := decide_eq_false (by omega)
        obtain ⟨nk, st, cnt, hS, hla⟩ := hst.out
        have hxw := HX0.out.trans hS.hx
        clear hst
        go_wp2_with (go_at_call 8; (with_reducible refine (awake26_any _).mono ?_); rintro e w2 ⟨rfl, hx2⟩)
        go_ret
        exact ⟨rfl, hxw.trans hx2⟩
  · obtain ⟨e0, he, C⟩ : ∃ e0 : Int, ((e0 != 0) = true) ∧ Calls Tryz.prog 7 #[.slice pa p.length pc, .int .u64 next] w fun e w' => e = .returned (.tuple #[.pointer none, .int .i64 e0]) ∧ Ext w w' := by
      by_cases hm : mayP p = true
      · refine ⟨1, rfl, new_arg w _ p hp hm next ?_⟩
        by_cases h1 : 1 ≤ next
        · by_cases h2 : next ≤ 1099511627777
          · exact absurd ⟨hm, h1, h2⟩ hgood
          · right; omega
        · left; omega
      · exact ⟨30, rfl, new_may w _ p hp (by simpa using hm) next⟩
    have CN := Lib.hid C
    clear C hp hu hok hgood
    go_enter Tryz.func3, Tryz.ntmps3
    go_wp2_with (first | (go_at_call 7; (with_reducible refine CN.out.mono ?_); rintro e w1 ⟨rfl, hx1⟩; have HX1 := Lib.hid hx1; clear hx1) | (go_at_call 8; (with_reducible refine (awake26_any _).mono ?_); rintro e w2 ⟨rfl, hx2⟩))
    go_ret
    exact ⟨rfl, HX1.out.trans hx2⟩
end Go.Proofs.YtaklnpjpndkccaaGreat
