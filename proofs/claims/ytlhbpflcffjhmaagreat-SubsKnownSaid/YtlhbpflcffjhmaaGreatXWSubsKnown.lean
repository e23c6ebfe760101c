/- The walk through SubsKnown. -/
import Derived.Laws.OwnMore
import Derived.Test.YtlhbpflcffjhmaaGreatPk16
import Derived.Test.YtlhbpflcffjhmaaGreatPk17
namespace Go.Proofs.YtlhbpflcffjhmaaGreat
open Go.RowKit Go.Sort

def bdC : C := ⟨[], 0, ⟨0, 0, [], false⟩, []⟩
def m0 : TbS := ⟨[zS 1], []⟩
def m1 : TbS := ownTS m0 [bdC]
def m2 : TbS := disTS m1 [geC 1]
def m3 : TbS := learnTS m2 2 [geC 1]
def m4 : TbS := learnTS m3 1 [bdC]
def m5 : TbS := forgetTS m4 1 [geC 1]
def m6 : TbS := forgetTS m5 2 [geC 1]
def m7 : TbS := adsTS m6 2 []
def m8 : TbS := adsTS m7 1 [[bdC]]
def m9 : TbS := resetTS m8 2
def m10 : TbS := ownTS m9 [geC 1]
def m11 : TbS := ownTS m10 [geC 1]
def m12 : TbS := disTS m11 [geC 1]
def m13 : TbS := adsTS m12 1 [[]]
def m14 : TbS := chTS m13 1
def m15 : TbS := disTS m14 [geC 1]
def m16 : TbS := chTS m15 1
theorem mL13 : lkF m13 1 = some (kX m13 1) := by kernel_rfl
theorem mL15 : lkF m15 1 = some (kX m15 1) := by kernel_rfl
theorem mC13 : lessF (wantF m13 (kX m13 1)) (kX m13 1).sent = [[geC 1]] := by kernel_rfl
theorem mC15 : lessF (kX m15 1).sent (wantF m15 (kX m15 1)) = [[geC 1]] := by kernel_rfl
theorem noOk : ∀ c ∈ ([] : List C), okC c := fun _ h => by cases h
theorem kOkB : ∀ c ∈ [bdC], okC c := fun c hc => by
  rw [List.mem_singleton.1 hc]
  refine ⟨(by show 0 ≤ maxLen; omega), (by show okN 0; unfold okN; omega), ⟨(by show okN 0; unfold okN; omega), (by show okN 0; unfold okN; omega), (by show 0 ≤ maxLen; omega)⟩, (fun _ h => by cases h)⟩
section
variable {w0 w w' : World} {bt : Nat} {F : List Nat} {S : TbS}
theorem gOwn (k : AtS w0 w bt F S) (hs : smallB S = true) (v : Value) (p : List C) (hp : PredR w v p) (kp : ∀ c ∈ p, okC c) (c : Int) (hc : ownTE p = c) :
    Calls Tryz.prog 14 #[.pointer (some ⟨bt, 0, none⟩), v] w fun e w' => e = .returned (.int .i64 c) ∧ LeftS w0 w w' bt F (ownTS S p) := by
  subst hc
  exact k.own (by have := (small_of hs).own; omega) v p hp kp
theorem gDis (k : AtS w0 w bt F S) (hs : smallB S = true) (v : Value) (p : List C) (hp : PredR w v p) (c : Int) (hc : disTE S p = c) :
    Calls Tryz.prog 15 #[.pointer (some ⟨bt, 0, none⟩), v] w fun e w' => e = .returned (.int .i64 c) ∧ LeftS w0 w w' bt F (disTS S p) := by
  subst hc
  exact k.disown (by have := (small_of hs).own; omega) v p hp
theorem gLearn (k : AtS w0 w bt F S) (hs : smallB S = true) (n : Int) (v : Value) (p : List C) (hp : PredR w v p) (kp : ∀ c ∈ p, okC c) (c : Int) (hc : atTE S n p = c) :
    Calls Tryz.prog 16 #[.pointer (some ⟨bt, 0, none⟩), .int .i64 n, v] w fun e w' => e = .returned (.int .i64 c) ∧ LeftS w0 w w' bt F (learnTS S n p) := by
  subst hc
  exact k.learn (fun x hx => by have := (small_of hs).came x hx; omega) n v p hp kp
theorem gForget (k : AtS w0 w bt F S) (hs : smallB S = true) (n : Int) (v : Value) (p : List C) (hp : PredR w v p) (c : Int) (hc : forgetTE S n p = c) :
    Calls Tryz.prog 17 #[.pointer (some ⟨bt, 0, none⟩), .int .i64 n, v] w fun e w' => e = .returned (.int .i64 c) ∧ LeftS w0 w w' bt F (forgetTS S n p) := by
  subst hc
  exact k.forget (fun x hx => by have := (small_of hs).came x hx; omega) n v p hp
theorem gAds0 (k : AtS w0 w bt F S) (n : Int) (c : Int) (hc : adsTE S n [] = c) :
    Calls Tryz.prog 18 #[.pointer (some ⟨bt, 0, none⟩), .int .i64 n, .slice none 0 0] w fun e w' => e = .returned (.int .i64 c) ∧ LeftS w0 w w' bt F (adsTS S n []) := by
  subst hc
  exact k.ads n _ [] (RowQ.nil 0 w).preds (fun _ h => by cases h) (by show 0 ≤ 100000; omega)
theorem gAds1 (k : AtS w0 w bt F S) (n : Int) (h : Value) (p : List C) (hp : PredR w h p) (kp : ∀ c ∈ p, okC c) (c : Int) (hc : adsTE S n [p] = c) :
    Calls Tryz.prog 18 #[.pointer (some ⟨bt, 0, none⟩), .int .i64 n, .slice (some ⟨w.heap.size, 0, none⟩) 1 1] (w.alloc (.cells #[h] 25)) fun e w' => e = .returned (.int .i64 c) ∧ LeftS w0 (w.alloc (.cells #[h] 25)) w' bt F (adsTS S n [p]) := by
  subst hc
  exact (k.later ((Ext.refl w).alloc (.cells #[h] 25))).ads n _ _ (preds1 w h p hp) (fun x hx => by rw [List.mem_singleton.1 hx]; exact kp) (by show 1 ≤ 100000; omega)
theorem gReset (k : AtS w0 w bt F S) (n : Int) (c : Int) (hc : linkTE S n = c) :
    Calls Tryz.prog 19 #[.pointer (some ⟨bt, 0, none⟩), .int .i64 n] w fun e w' => e = .returned (.int .i64 c) ∧ LeftS w0 w w' bt F (resetTS S n) := by
  subst hc
  exact k.reset n
theorem gChNone (k : AtS w0 w bt F S) (n : Int) (hn : lkF S n = none) :
    Calls Tryz.prog 20 #[.pointer (some ⟨bt, 0, none⟩), .int .i64 n] w fun e w' => e = .returned (.tuple #[.slice none 0 0, .slice none 0 0, .int .i64 6]) ∧ Ext w w' := by
  obtain ⟨ok, ⟨b, h1, h2, h3⟩, h4⟩ := k
  exact changesT_none w b bt F S h3 n hn
theorem AnsQ.len {v : Value} {p : List C} (h : AnsQ w0 w v [p]) : ∃ a c, v = .slice a 1 c := by
  obtain ⟨a, n, c, us, rfl, h1, h2⟩ := h
  have hu : us.length = 1 := by rw [← psP_len, h1]; rfl
  obtain ⟨b, d, e, _, _⟩ := own_shape h2.own
  simp only [Value.slice.injEq, hu] at e
  exact ⟨a, c, by rw [e.2.1]⟩
theorem AnsQ.shape {v : Value} {L : List (List C)} (h : AnsQ w0 w v L) : ∃ a n c, v = .slice a n c := by
  obtain ⟨a, n, c, us, rfl, h1, h2⟩ := h
  exact ⟨a, n, c, rfl⟩
theorem gCh13 (k : AtS w0 w bt F m13) : Calls Tryz.prog 20 #[.pointer (some ⟨bt, 0, none⟩), .int .i64 1] w fun e w' => ∃ a1 c1 a2 n2 c2, e = .returned (.tuple #[.slice a1 1 c1, .slice a2 n2 c2, .int .i64 0]) ∧ LeftS w0 w w' bt F m14 := by
  refine (k.changes (small_of (by kernel_rfl)) 1 _ mL13).mono ?_
  rintro e w' ⟨v1, v2, rfl, h1, h2, h3⟩
  rw [mC13] at h1
  obtain ⟨a1, c1, rfl⟩ := h1.len
  obtain ⟨a2, n2, c2, rfl⟩ := h2.shape
  exact ⟨_, _, _, _, _, rfl, h3⟩
theorem gCh15 (k : AtS w0 w bt F m15) : Calls Tryz.prog 20 #[.pointer (some ⟨bt, 0, none⟩), .int .i64 1] w fun e w' => ∃ a1 n1 c1 a2 c2, e = .returned (.tuple #[.slice a1 n1 c1, .slice a2 1 c2, .int .i64 0]) ∧ LeftS w0 w w' bt F m16 := by
  refine (k.changes (small_of (by kernel_rfl)) 1 _ mL15).mono ?_
  rintro e w' ⟨v1, v2, rfl, h1, h2, h3⟩
  rw [mC15] at h2
  obtain ⟨a1, n1, c1, rfl⟩ := h1.shape
  obtain ⟨a2, c2, rfl⟩ := h2.len
  exact ⟨_, _, _, _, _, rfl, h3⟩
theorem PredT.turnL {b : Nat} {h : Value} {p : List C} {G : List Nat} {ct : Nat} {T' : TbS} (k : PredT b w h p) (g : LeftS w0 w w' ct G T') : PredT b w' h p := k.turnF g.tbb g.turns
end
theorem infoI : (Tryz.prog.info? 3).map (fun i => (i.zero, i.size, i.bytes)) = some (some (.int .i64 0), 1, 8) := by kernel_rfl
theorem makeBd {ops : Array Oper} {Q : Exit → Act → World → Prop} {a : Act} {w : World} {rest : List Oper} {o : Oper}
    (l c : Operand) (ho : o.op = .makeSlice 25 l c) (hw : Region.wanted o (yielded ops a.tmps) = true) (hl : a.eval l = .int .i64 1) (hc : a.eval c = .int .i64 1)
    (h : ∀ w' bb, PredT w.heap.size w' (.slice (some ⟨bb, 0, none⟩) 1 1) [bdC] → Ext w w' → wpList Tryz.prog ops Q rest (a.put o.dst (.slice (some ⟨bb, 0, none⟩) 1 1)) w') : wpList Tryz.prog ops Q (o :: rest) a w := by
  obtain ⟨i5, hi5, z5, s5, b5⟩ := info_parts info31t
  obtain ⟨w', hr, h1, h2⟩ := run_makeSlice_full (P := Tryz.prog) (w := w) w.heap.size 25 64 i5 _ 7 Tryz.underlying25 hi5 z5 s5 .i64 .i64 1 (by omega) (by rw [b5]; omega) (by simp only [maxLen]; omega) (Nat.le_refl _)
  have hr' : (Instr.makeSlice 25 (.int .i64 1) (.int .i64 1)).run Tryz.prog w = .ok (.slice (some ⟨w.heap.size, 0, none⟩) 1 1) w' := hr
  refine wpList_val hw (by simp [execOp, ho, hl, hc, hr']) (h w' w.heap.size ?_ ((Ext.refl w).grown_none (v := .slice none 0 0) h2 (fun q hq => by cases hq)))
  have e : (madeCells (Value.agg #[.string ⟨#[]⟩, .int .i64 0, .int .i64 0, .int .i64 0, .string ⟨#[]⟩, .bool false, .slice none 0 0]).cells (1 * 7)).toList = [(⟨bdC, .slice none 0 0⟩ : CS)].flatMap csC := by kernel_rfl
  rw [e] at h1
  exact ⟨[⟨bdC, .slice none 0 0⟩], rfl, h1, fun x hx => by rw [List.mem_singleton.1 hx]; exact own_none _ _ _ _⟩
theorem make65 {ops : Array Oper} {Q : Exit → Act → World → Prop} {a : Act} {w : World} {rest : List Oper} {o : Oper}
    (l c : Operand) (ho : o.op = .makeSlice 37 l c) (hw : Region.wanted o (yielded ops a.tmps) = true) (hl : a.eval l = .int .i64 65) (hc : a.eval c = .int .i64 65)
    (h : ∀ w' bb, Row w' 1 (.slice (some ⟨bb, 0, none⟩) 65 65) 65 ((List.replicate 65 (0 : Int)).map (Value.int .i64)) → Ext w w' → wpList Tryz.prog ops Q rest (a.put o.dst (.slice (some ⟨bb, 0, none⟩) 65 65)) w') : wpList Tryz.prog ops Q (o :: rest) a w := by
  obtain ⟨i5, hi5, z5, s5, b5⟩ := info_parts infoI
  obtain ⟨w', hr, h1, h2⟩ := run_makeSlice_full (P := Tryz.prog) (w := w) w.heap.size 37 3 i5 _ 1 Tryz.underlying37 hi5 z5 s5 .i64 .i64 65 (by omega) (by rw [b5]; omega) (by simp only [maxLen]; omega) (Nat.le_refl _)
  have hr' : (Instr.makeSlice 37 (.int .i64 65) (.int .i64 65)).run Tryz.prog w = .ok (.slice (some ⟨w.heap.size, 0, none⟩) 65 65) w' := hr
  refine wpList_val hw (by simp [execOp, ho, hl, hc, hr']) (h w' w.heap.size ?_ ((Ext.refl w).grown_none (v := .slice none 0 0) h2 (fun q hq => by cases hq)))
  have h3 := Row.of_own h1
  have e : (madeCells (Value.int .i64 0).cells (65 * 1)).toList = (List.replicate 65 (0 : Int)).map (Value.int .i64) := by kernel_rfl
  rw [e] at h3
  exact h3
theorem k_newC (w : World) (bb : Nat) (h : Row w 1 (.slice (some ⟨bb, 0, none⟩) 65 65) 65 ((List.replicate 65 (0 : Int)).map (Value.int .i64))) : Calls Tryz.prog 13 #[.slice (some ⟨bb, 0, none⟩) 65 65] w fun e w' => e = .returned (.tuple #[.pointer none, .int .i64 1]) ∧ Ext w w' :=
  newS_no w _ (List.replicate 65 (0 : Int)) (by rw [List.length_replicate]; exact h) (fun n hn => by rw [(List.mem_replicate.1 hn).2]; decide) (fun h => absurd h.2 (by rw [List.length_replicate]; decide)) (by rw [List.length_replicate]; decide)
theorem max_nil (w : World) : Calls Tryz.prog 7 #[.slice none 0 0] w fun e w' => ∃ a c, e = .returned (.slice a 0 c) ∧ Ext w w' := by
  refine (maximal_any w (.slice none 0 0) [] (RowQ.nil 0 w).preds (fun _ h => by cases h) (Nat.zero_le _)).mono ?_
  rintro e w' ⟨v', us', rfl, h1, h2, hx⟩
  have hu : us' = [] := by
    have : us'.map PP.p = [] := h1
    exact List.map_eq_nil_iff.1 this
  subst hu
  obtain ⟨a, c, rfl, _, _⟩ := own_shape h2.own
  exact ⟨a, c, rfl, hx⟩
theorem k_new1 (w0 w : World) (hx : Ext w0 w) : Calls Tryz.prog 13 #[.slice (some ⟨w.heap.size, 0, none⟩) 1 1] (w.alloc (.cells #[.int .i64 1] 3)) fun e w' => ∃ bt F, e = .returned (.tuple #[.pointer (some ⟨bt, 0, none⟩), .int .i64 0]) ∧ AtS w0 w' bt F m0 := by
  refine (newS_yes w0 _ (hx.trans ((Ext.refl w).alloc _)) _ [1] (Row.of_own (World.ownsRow_lit (base := w.heap.size) (e := 3) (size := 1) w #[.int .i64 1] 1 (Nat.le_refl _) (by decide) rfl)) (by decide) ⟨by decide, by decide⟩ (by decide)).mono ?_
  rintro e w' ⟨bt, F, rfl, h, _⟩
  exact ⟨bt, F, rfl, h⟩
theorem k_newA (w : World) : Calls Tryz.prog 13 #[.slice (some ⟨w.heap.size, 0, none⟩) 1 1] (w.alloc (.cells #[.int .i64 (-1)] 3)) fun e w' => e = .returned (.tuple #[.pointer none, .int .i64 1]) ∧ Ext (w.alloc (.cells #[.int .i64 (-1)] 3)) w' :=
  newS_no _ _ [-1] (Row.of_own (World.ownsRow_lit (base := w.heap.size) (e := 3) (size := 1) w #[.int .i64 (-1)] 1 (Nat.le_refl _) (by decide) rfl)) (by decide) (fun h => absurd (h.1.1 (-1) (by simp)) (by decide)) (by decide)
theorem k_newB (w : World) : Calls Tryz.prog 13 #[.slice (some ⟨w.heap.size, 0, none⟩) 2 2] (w.alloc (.cells #[.int .i64 1, .int .i64 1] 3)) fun e w' => e = .returned (.tuple #[.pointer none, .int .i64 1]) ∧ Ext (w.alloc (.cells #[.int .i64 1, .int .i64 1] 3)) w' :=
  newS_no _ _ [1, 1] (Row.of_own (World.ownsRow_lit (base := w.heap.size) (e := 3) (size := 1) w #[.int .i64 1, .int .i64 1] 2 (Nat.le_refl _) (by decide) rfl)) (by decide) (fun h => absurd h.1.2 (by decide)) (by decide)

set_option maxRecDepth 100000 in
set_option maxHeartbeats 16000000 in
theorem subsKnown_walk (W : World) : Calls Tryz.prog 6 #[] W fun e W' => e = .returned (.bool true) ∧ Ext W W' := by
  go_enter Tryz.func6, Tryz.ntmps6
  go_upto_region 3 with (go_at_call 11; (with_reducible refine (awake24_any _).mono ?_); rintro e wa ⟨rfl, hx⟩; have HXA := Lib.hid hx; clear hx)
  go_upto_region 4 with (go_at_call 13; (with_reducible refine (k_new1 W _ HXA.out).mono ?_); rintro e wb ⟨bt, F, rfl, hi⟩; have HI := Lib.hid hi; clear hi HXA)
  go_upto_region 5 with (refine makeBd (.const (.int .i64 1)) (.const (.int .i64 1)) rfl rfl rfl rfl ?_; intro wc bb hT hx; have HB := Lib.hid (hT.low HI.out.ext.size); have HI0 := Lib.hid (HI.out.later hx); clear hT hx HI)
  go_upto_region 6 with (first
    | (go_at_call 14; (with_reducible refine (gOwn HI0.out (by kernel_rfl) _ [bdC] HB.out.pred kOkB 30 (by kernel_rfl)).mono ?_); rintro e wl1 ⟨rfl, hl⟩; have HI1_1 : Hid (AtS W wl1 bt F m1) := hl.at_; have HB1 := Lib.hid (HB.out.turnL hl); clear hl HI0 HB)
    | (go_at_call 26; (with_reducible refine (ge_any _ 1).mono ?_); rintro e wg2 ⟨gx2, rfl, hp, hx⟩; have HI1_2 := Lib.hid (HI1_1.out.later hx); have HP2 := Lib.hid hp; have HB2 := Lib.hid (HB1.out.ext hx); clear hp hx HI1_1 HB1)
    | (go_at_call 15; (with_reducible refine (gDis HI1_2.out (by kernel_rfl) _ [geC 1] HP2.out 6 (by kernel_rfl)).mono ?_); rintro e wl3 ⟨rfl, hl⟩; have HI2_3 : Hid (AtS W wl3 bt F m2) := hl.at_; have HB3 := Lib.hid (HB2.out.turnL hl); clear hl HI1_2 HB2))
  go_upto_region 7 with (first
    | (go_at_call 26; (with_reducible refine (ge_any _ 1).mono ?_); rintro e wg4 ⟨gx4, rfl, hp, hx⟩; have HI2_4 := Lib.hid (HI2_3.out.later hx); have HP4 := Lib.hid hp; have HB4 := Lib.hid (HB3.out.ext hx); clear hp hx HI2_3 HB3)
    | (go_at_call 16; (with_reducible refine (gLearn HI2_4.out (by kernel_rfl) 2 _ [geC 1] HP4.out kOk1 6 (by kernel_rfl)).mono ?_); rintro e wl5 ⟨rfl, hl⟩; have HI3_5 : Hid (AtS W wl5 bt F m3) := hl.at_; have HB5 := Lib.hid (HB4.out.turnL hl); clear hl HI2_4 HB4)
    | (go_at_call 16; (with_reducible refine (gLearn HI3_5.out (by kernel_rfl) 1 _ [bdC] HB5.out.pred kOkB 30 (by kernel_rfl)).mono ?_); rintro e wl6 ⟨rfl, hl⟩; have HI4_6 : Hid (AtS W wl6 bt F m4) := hl.at_; have HB6 := Lib.hid (HB5.out.turnL hl); clear hl HI3_5 HB5))
  go_upto_region 8 with (first
    | (go_at_call 26; (with_reducible refine (ge_any _ 1).mono ?_); rintro e wg7 ⟨gx7, rfl, hp, hx⟩; have HI4_7 := Lib.hid (HI4_6.out.later hx); have HP7 := Lib.hid hp; have HB7 := Lib.hid (HB6.out.ext hx); clear hp hx HI4_6 HB6)
    | (go_at_call 17; (with_reducible refine (gForget HI4_7.out (by kernel_rfl) 1 _ [geC 1] HP7.out 6 (by kernel_rfl)).mono ?_); rintro e wl8 ⟨rfl, hl⟩; have HI5_8 : Hid (AtS W wl8 bt F m5) := hl.at_; have HB8 := Lib.hid (HB7.out.turnL hl); clear hl HI4_7 HB7)
    | (go_at_call 26; (with_reducible refine (ge_any _ 1).mono ?_); rintro e wg9 ⟨gx9, rfl, hp, hx⟩; have HI5_9 := Lib.hid (HI5_8.out.later hx); have HP9 := Lib.hid hp; have HB9 := Lib.hid (HB8.out.ext hx); clear hp hx HI5_8 HB8)
    | (go_at_call 17; (with_reducible refine (gForget HI5_9.out (by kernel_rfl) 2 _ [geC 1] HP9.out 6 (by kernel_rfl)).mono ?_); rintro e wl10 ⟨rfl, hl⟩; have HI6_10 : Hid (AtS W wl10 bt F m6) := hl.at_; have HB10 := Lib.hid (HB9.out.turnL hl); clear hl HI5_9 HB9))
  go_upto_region 9 with (first
    | (go_at_call 18; (with_reducible refine (gAds0 HI6_10.out 2 6 (by kernel_rfl)).mono ?_); rintro e wl11 ⟨rfl, hl⟩; have HI7_11 : Hid (AtS W wl11 bt F m7) := hl.at_; have HB11 := Lib.hid (HB10.out.turnL hl); clear hl HI6_10 HB10)
    | (go_at_call 18; (with_reducible refine (gAds1 HI7_11.out 1 _ [bdC] HB11.out.pred kOkB 30 (by kernel_rfl)).mono ?_); rintro e wl12 ⟨rfl, hl⟩; have HI8_12 : Hid (AtS W wl12 bt F m8) := hl.at_; clear hl HI7_11 HB11))
  go_upto_region 10 with (first
    | (go_at_call 19; (with_reducible refine (gReset HI8_12.out 2 6 (by kernel_rfl)).mono ?_); rintro e wl13 ⟨rfl, hl⟩; have HI9_13 : Hid (AtS W wl13 bt F m9) := hl.at_; clear hl HI8_12))
  go_upto_region 11 with (first
    | (go_at_call 20; (with_reducible refine (gChNone HI9_13.out 2 (by kernel_rfl)).mono ?_); rintro e wl14 ⟨rfl, hx⟩; have HI9_14 := Lib.hid (HI9_13.out.later hx); clear hx HI9_13))
  go_upto_region 12 with (first
    | (go_at_call 26; (with_reducible refine (ge_any _ 1).mono ?_); rintro e wg15 ⟨gx15, rfl, hp, hx⟩; have HI9_15 := Lib.hid (HI9_14.out.later hx); have HP15 := Lib.hid hp; clear hp hx HI9_14)
    | (go_at_call 14; (with_reducible refine (gOwn HI9_15.out (by kernel_rfl) _ [geC 1] HP15.out kOk1 0 (by kernel_rfl)).mono ?_); rintro e wl16 ⟨rfl, hl⟩; have HI10_16 : Hid (AtS W wl16 bt F m10) := hl.at_; clear hl HI9_15))
  go_upto_region 13 with (first
    | (go_at_call 26; (with_reducible refine (ge_any _ 1).mono ?_); rintro e wg17 ⟨gx17, rfl, hp, hx⟩; have HI10_17 := Lib.hid (HI10_16.out.later hx); have HP17 := Lib.hid hp; clear hp hx HI10_16)
    | (go_at_call 14; (with_reducible refine (gOwn HI10_17.out (by kernel_rfl) _ [geC 1] HP17.out kOk1 0 (by kernel_rfl)).mono ?_); rintro e wl18 ⟨rfl, hl⟩; have HI11_18 : Hid (AtS W wl18 bt F m11) := hl.at_; clear hl HI10_17))
  go_upto_region 14 with (first
    | (go_at_call 26; (with_reducible refine (ge_any _ 1).mono ?_); rintro e wg19 ⟨gx19, rfl, hp, hx⟩; have HI11_19 := Lib.hid (HI11_18.out.later hx); have HP19 := Lib.hid hp; clear hp hx HI11_18)
    | (go_at_call 15; (with_reducible refine (gDis HI11_19.out (by kernel_rfl) _ [geC 1] HP19.out 0 (by kernel_rfl)).mono ?_); rintro e wl20 ⟨rfl, hl⟩; have HI12_20 : Hid (AtS W wl20 bt F m12) := hl.at_; clear hl HI11_19))
  go_upto_region 15 with (first
    | (go_at_call 18; (with_reducible refine (gAds1 HI12_20.out 1 (.slice none 0 0) [] (PredR.nil _) noOk 0 (by kernel_rfl)).mono ?_); rintro e wl21 ⟨rfl, hl⟩; have HI13_21 : Hid (AtS W wl21 bt F m13) := hl.at_; clear hl HI12_20))
  go_upto_region 16 with (first
    | (go_at_call 20; (with_reducible refine (gCh13 HI13_21.out).mono ?_); rintro e wl22 ⟨ya, yb, yc, yd, ye, rfl, hl⟩; have HI14_22 : Hid (AtS W wl22 bt F m14) := hl.at_; clear hl HI13_21))
  go_upto_region 17 with (first
    | (go_at_call 26; (with_reducible refine (ge_any _ 1).mono ?_); rintro e wg23 ⟨gx23, rfl, hp, hx⟩; have HI14_23 := Lib.hid (HI14_22.out.later hx); have HP23 := Lib.hid hp; clear hp hx HI14_22)
    | (go_at_call 15; (with_reducible refine (gDis HI14_23.out (by kernel_rfl) _ [geC 1] HP23.out 0 (by kernel_rfl)).mono ?_); rintro e wl24 ⟨rfl, hl⟩; have HI15_24 : Hid (AtS W wl24 bt F m15) := hl.at_; clear hl HI14_23))
  go_upto_region 18 with (first
    | (go_at_call 20; (with_reducible refine (gCh15 HI15_24.out).mono ?_); rintro e wl25 ⟨yf, yg, yh, yi, yj, rfl, hl⟩; have HX0 := Lib.hid hl.at_.ext; clear hl HI15_24))
  go_upto_region 19 with (first
    | (go_at_call 13; (with_reducible refine (k_newA _).mono ?_); rintro e x1 ⟨rfl, hx⟩; have HX1 := Lib.hid (HX0.out.trans (((Ext.refl _).alloc _).trans hx)); clear hx HX0))
  go_upto_region 20 with (first
    | (go_at_call 13; (with_reducible refine (k_newB _).mono ?_); rintro e x2 ⟨rfl, hx⟩; have HX2 := Lib.hid (HX1.out.trans (((Ext.refl _).alloc _).trans hx)); clear hx HX1))
  go_upto_region 21 with (first
    | (at_make; refine make65 (.const (.int .i64 65)) (.const (.int .i64 65)) rfl rfl rfl rfl ?_; intro x3 bc hr hx; have HR3 := Lib.hid hr; have HX3 := Lib.hid (HX2.out.trans hx); clear hr hx HX2)
    | (go_at_call 13; (with_reducible refine (k_newC _ _ HR3.out).mono ?_); rintro e x4 ⟨rfl, hx⟩; have HX4 := Lib.hid (HX3.out.trans hx); clear hx HX3 HR3))
  go_wp2_with (first
    | (go_at_call 20; (with_reducible refine (nilS_changes _).mono ?_); rintro e x5 ⟨rfl, hx⟩; have HX5 := Lib.hid (HX4.out.trans hx); clear hx HX4)
    | (go_at_call 14; (with_reducible refine (nilS_own _).mono ?_); rintro e x6 ⟨rfl, hx⟩; have HX6 := Lib.hid (HX5.out.trans hx); clear hx HX5)
    | (go_at_call 15; (with_reducible refine (nilS_disown _).mono ?_); rintro e x7 ⟨rfl, hx⟩; have HX7 := Lib.hid (HX6.out.trans hx); clear hx HX6)
    | (go_at_call 16; (with_reducible refine (nilS_learn _).mono ?_); rintro e x8 ⟨rfl, hx⟩; have HX8 := Lib.hid (HX7.out.trans hx); clear hx HX7)
    | (go_at_call 17; (with_reducible refine (nilS_forget _).mono ?_); rintro e x9 ⟨rfl, hx⟩; have HX9 := Lib.hid (HX8.out.trans hx); clear hx HX8)
    | (go_at_call 18; (with_reducible refine (nilS_ads _).mono ?_); rintro e x10 ⟨rfl, hx⟩; have HX10 := Lib.hid (HX9.out.trans hx); clear hx HX9)
    | (go_at_call 19; (with_reducible refine (nilS_reset _).mono ?_); rintro e x11 ⟨rfl, hx⟩; have HX11 := Lib.hid (HX10.out.trans hx); clear hx HX10)
    | (go_at_call 22; (with_reducible refine (nilS_sent _).mono ?_); rintro e x12 ⟨rfl, hx⟩; have HX12 := Lib.hid (HX11.out.trans hx); clear hx HX11)
    | (go_at_call 21; (with_reducible refine (nilS_came _).mono ?_); rintro e x13 ⟨rfl, hx⟩; have HX13 := Lib.hid (HX12.out.trans hx); clear hx HX12)
    | (go_at_call 25; (with_reducible refine (nilS_wants _).mono ?_); rintro e x14 ⟨rfl, hx⟩; have HX14 := Lib.hid (HX13.out.trans hx); clear hx HX13)
    | (go_at_call 7; (with_reducible refine (max_nil _).mono ?_); rintro e x15 ⟨za, zc, rfl, hx⟩; have HX15 := Lib.hid (HX14.out.trans hx); clear hx HX14))
  go_ret
  exact ⟨rfl, HX15.out⟩
end Go.Proofs.YtlhbpflcffjhmaaGreat
