/- Disk: Truncate. -/
import Derived.Test.YtdfnfmanpdafpaaDoorD17
import Derived.Test.YtdfnfmanpdafpaaDoorK5
namespace Go.Proofs.YtdfnfmanpdafpaaDoor
open Go.RowKit Go.MapKept

section
variable (gp : Nat) (B : List UInt8) (z f0 N : Nat) (ob : Option Nat)
/-- A file's box as its bytes and its number of lasting bytes are stored, in whatever order. -/
def TP (A : List UInt8 → Prop) (D : Nat → Prop) (w : World) : Prop :=
  ∃ (sl : Value) (f : Nat) (c : List UInt8), w.heap[gp]? = some (.cells #[sl, .int .i64 (f : Nat)] 70 (0, 0)) ∧ w.ownsRow 0 5 1 sl c.length (bV c) ∧ (∀ k, sl.ownBlock = some k → ob = some k ∨ N ≤ k) ∧ A c ∧ D f
def eB (c : List UInt8) : Prop := c = B ∨ c = B.take z
def eF (f : Nat) : Prop := f = f0 ∨ f = min f0 z
def TG (w : World) : Prop := TP gp N ob (eB B z) (eF z f0) w
def TN0 (w : World) : Prop := TP gp N ob (fun c => c = B.take z) (eF z f0) w
def TN1 (w : World) : Prop := TP gp N ob (eB B z) (fun f => f = min f0 z) w
def TN2 (w : World) : Prop := TP gp N ob (fun c => c = B.take z) (fun f => f = min f0 z) w
structure TrR (w w' : World) : Prop where
  ts : Turns [gp] w w'
  g : TG gp B z f0 N ob w → TG gp B z f0 N ob w'
  n0 : TN0 gp B z f0 N ob w → TN0 gp B z f0 N ob w'
  n1 : TN1 gp B z f0 N ob w → TN1 gp B z f0 N ob w'
variable {gp B z f0 N ob}
theorem TP.ext {A : List UInt8 → Prop} {D : Nat → Prop} {w w' : World} (h : TP gp N ob A D w) (hx : Ext w w') : TP gp N ob A D w' := by
  obtain ⟨sl, f, c, h1, h2, h3⟩ := h
  exact ⟨sl, f, c, block_later h1 hx, own_ext h2 hx, h3⟩
theorem TrR.of_ext {w w' : World} (h : Ext w w') : TrR gp B z f0 N ob w w' := ⟨Turns.of_ext h, fun k => TP.ext k h, fun k => TP.ext k h, fun k => TP.ext k h⟩
theorem TrR.same (w : World) : TrR gp B z f0 N ob w w := TrR.of_ext (Ext.refl w)
theorem TrR.trans {x y w : World} (h : TrR gp B z f0 N ob x y) (k : TrR gp B z f0 N ob y w) : TrR gp B z f0 N ob x w :=
  ⟨h.ts.trans k.ts fun _ hi => .inl hi, fun a => k.g (h.g a), fun a => k.n0 (h.n0 a), fun a => k.n1 (h.n1 a)⟩
theorem TP.store0 {A : List UInt8 → Prop} {D : Nat → Prop} {w : World} (h : TP gp N ob A D w) {v : Value} {c : List UInt8} (hv : w.ownsRow N 5 1 v c.length (bV c)) : TP gp N ob (fun x => x = c) D (w.setCell ⟨gp, 0, none⟩ v) := by
  obtain ⟨sl, f, c', h1, h2, h3, h4, h5⟩ := h
  refine ⟨v, f, c, setCell_row (i := 0) h1 v, (turns_cell w gp 0 v).own (own_low hv (Nat.zero_le _)) fun q hq e => ?_, fun k hk => .inr (own_base hv k hk), rfl, h5⟩
  simp at e; subst e
  exact own_ne hv h1 (by decide) hq
theorem TP.store1 {A : List UInt8 → Prop} {D : Nat → Prop} {w : World} (h : TP gp N ob A D w) (m : Nat) : TP gp N ob A (fun x => x = m) (w.setCell ⟨gp, 1, none⟩ (.int .i64 (m : Nat))) := by
  obtain ⟨sl, f, c', h1, h2, h3, h4, h5⟩ := h
  refine ⟨sl, m, c', setCell_row (i := 1) h1 _, (turns_cell w gp 1 _).own h2 fun q hq e => ?_, h3, h4, rfl⟩
  simp at e; subst e
  exact own_ne h2 h1 (by decide) hq
theorem TP.imp {A A' : List UInt8 → Prop} {D D' : Nat → Prop} {w : World} (h : TP gp N ob A D w) (h1 : ∀ c, A c → A' c) (h2 : ∀ f, D f → D' f) : TP gp N ob A' D' w := by
  obtain ⟨sl, f, c, a, b, c', d, e⟩ := h; exact ⟨sl, f, c, a, b, c', h1 _ d, h2 _ e⟩
theorem TrR.store0 {w : World} {v : Value} (hv : w.ownsRow N 5 1 v (B.take z).length (bV (B.take z))) : TrR gp B z f0 N ob w (w.setCell ⟨gp, 0, none⟩ v) :=
  ⟨turns_cell w gp 0 v, fun h => (TP.store0 h hv).imp (fun _ e => .inr e) fun _ e => e, fun h => TP.store0 h hv, fun h => (TP.store0 h hv).imp (fun _ e => .inr e) fun _ e => e⟩
theorem TrR.store1 {w : World} : TrR gp B z f0 N ob w (w.setCell ⟨gp, 1, none⟩ (.int .i64 ((min f0 z : Nat) : Int))) :=
  ⟨turns_cell w gp 1 _, fun h => (TP.store1 h _).imp (fun _ e => e) fun _ e => .inr e, fun h => (TP.store1 h _).imp (fun _ e => e) fun _ e => .inr e, fun h => TP.store1 h _⟩
variable (gp B z f0 N ob)
def StepT : Rg.Step := ⟨TrR gp B z f0 N ob, fun w => TrR.of_ext (Ext.refl w), fun h k => h.trans k, fun w => TrR.of_ext (Ext.refl w).drew⟩
def fOld : Rs.Fact (StepT gp B z f0 N ob) := ⟨fun v w => TG gp B z f0 N ob w ∧ ∃ c, eB B z c ∧ w.ownsRow 0 5 1 v c.length (bV c), fun _ _ _ hx ⟨h1, c, h2, h3⟩ => ⟨hx.g h1, c, h2, hx.ts.own h3 fun q hq e => by
  obtain ⟨_, _, _, a, _⟩ := h1
  simp at e; subst e
  exact own_ne h3 a (by decide) hq⟩⟩
def fCut : Rs.Fact (StepT gp B z f0 N ob) := ⟨fun v w => TG gp B z f0 N ob w ∧ Row w 1 v z (bV (B.take z)) ∧ ApartD [gp] v, fun _ _ _ hx ⟨h1, h2, h3⟩ => ⟨hx.g h1, h2.turnD hx.ts h3, h3⟩⟩
def fNew : Rs.Fact (StepT gp B z f0 N ob) := ⟨fun v w => TG gp B z f0 N ob w ∧ w.ownsRow N 5 1 v z (bV (B.take z)), fun _ _ _ hx ⟨h1, h3⟩ => ⟨hx.g h1, hx.ts.own h3 fun q hq e => by
  obtain ⟨_, _, _, a, _⟩ := h1
  simp at e; subst e
  exact own_ne h3 a (by decide) hq⟩⟩
def fFst : Rs.Fact (StepT gp B z f0 N ob) := ⟨fun v _ => ∃ f : Nat, v = .int .i64 (f : Nat) ∧ eF z f0 f, fun _ _ _ _ h => h⟩
def fN0 : Rs.Fact (StepT gp B z f0 N ob) := ⟨fun _ w => TN0 gp B z f0 N ob w, fun _ _ _ hx h => hx.n0 h⟩
def fN1 : Rs.Fact (StepT gp B z f0 N ob) := ⟨fun _ w => TN1 gp B z f0 N ob w, fun _ _ _ hx h => hx.n1 h⟩
end
theorem asksT (w w1 : World) (b bm b1 b2 c1 c2 bz bn bx : Nat) (gs : List FG) (S : DS) (n : List UInt8) (z : Int) (hx : Ext w w1) (h1 : SBox w1 b1 n) (h2 : PBox w1 b2 b) (h3 : w1.heap[c1]? = some (.cells #[.bool (decide (z < 0))] 4 (0, 0))) (h4 : w1.heap[c2]? = some (.cells #[.int .i64 1] 26 (0, 0))) (h5 : w1.heap[bz]? = some (.cells #[.int .i64 z] 3 (0, 0))) (h6 : SBox w1 bn n) (h7 : PBox w1 bx b) (hd : DkR w b bm gs S.q S.fz S.off) (hg : gs.map FG.fl = S.fs) (f0 : -1 ≤ S.fz) (f1 : S.fz < 9223372036854775808) :
    Calls Tryd.prog 33 #[.slice (some ⟨w1.heap.size, 0, none⟩) 5 5] (w1.alloc (.cells #[.func (.func 30) #[.pointer (some ⟨b, 0, none⟩)] #[], wqV c1 c2, tqV b1 b2, .func (.func 40) #[] #[.pointer (some ⟨bz, 0, none⟩), .pointer (some ⟨bx, 0, none⟩), .pointer (some ⟨bn, 0, none⟩)], .func (.func 39) #[.pointer (some ⟨b, 0, none⟩)] #[]] 61)) fun e w' =>
      e = .returned (.int .i64 (askdE S (truncL S n z))) ∧ DkR w' b bm gs (askdS S (truncL S n z) id).q (askdS S (truncL S n z) id).fz (askdS S (truncL S n z) id).off ∧ ∃ w0, Ext w1 w0 ∧ Turns [b] w0 w' := by
  obtain ⟨hxa, hra⟩ := boxes1 w1 (.cells #[.func (.func 30) #[.pointer (some ⟨b, 0, none⟩)] #[], wqV c1 c2, tqV b1 b2, .func (.func 40) #[] #[.pointer (some ⟨bz, 0, none⟩), .pointer (some ⟨bx, 0, none⟩), .pointer (some ⟨bn, 0, none⟩)], .func (.func 39) #[.pointer (some ⟨b, 0, none⟩)] #[]] 61)
  have hda := hd.ext (hx.trans hxa)
  have hcs : [offE S, errB (decide (z < 0)) 1, thereG gs n, errB (decide ((lenF S n : Int) < z)) 1] = truncL S n z := by unfold truncL; rw [thereG_S hg]
  have hF := firstq_dk _ w1.heap.size b bm gs S [(_, offE S), (_, errB (decide (z < 0)) 1), (_, thereG gs n), (.func (.func 40) #[] #[.pointer (some ⟨bz, 0, none⟩), .pointer (some ⟨bx, 0, none⟩), .pointer (some ⟨bn, 0, none⟩)], errB (decide ((lenF S n : Int) < z)) 1)] hra (by simp) ⟨answersQ hda, fun _ => ⟨wrongQ (block_later h3 hxa) (block_later h4 hxa), fun _ => ⟨therQ (h1.ext hxa) (h2.ext hxa) hda, fun ht => ⟨by
    obtain ⟨g, hgg⟩ := thereG_zero ht
    have e : lenF S n = g.b.length := by unfold lenF; rw [dkG_get hg n, hgg]; rfl
    rw [e]
    exact trunc1Q hgg (block_later h5 hxa) (h6.ext hxa) (h7.ext hxa) hda, fun _ => trivial⟩⟩⟩⟩ hda f0 f1
  simp only [List.map_cons, List.map_nil] at hF
  rw [hcs] at hF
  refine hF.mono ?_
  rintro e w' ⟨rfl, hd', ht⟩
  exact ⟨rfl, hd', _, hxa, ht⟩
theorem cut_le {B cc : List UInt8} {z : Nat} (h : eB B z cc) (hz : z ≤ B.length) : z ≤ cc.length := by
  rcases h with rfl | rfl
  · exact hz
  · rw [List.length_take]; omega
theorem eB_take {B cc : List UInt8} {z : Nat} (h : eB B z cc) : cc.take z = B.take z := by
  rcases h with rfl | rfl
  · rfl
  · rw [List.take_take, Nat.min_self]
theorem row_take {w : World} {base : Nat} {a : Option Addr} {n c : Nat} {cc : List UInt8} (h : w.ownsRow base 5 1 (.slice a n c) cc.length (bV cc)) {z : Nat} (hz : z ≤ cc.length) : Row w 1 (.slice a z c) z (bV (cc.take z)) := by
  obtain ⟨h1, a', c', e, h3, h4, h5, h6, h7⟩ := Row.of_own h
  simp only [Value.slice.injEq] at e
  obtain ⟨rfl, -, rfl⟩ := e
  refine ⟨by rw [bV_len, List.length_take]; omega, a, c, rfl, by omega, h4, h5, h6, fun j u hj => h7 j u ?_⟩
  have e2 : bV (cc.take z) = (bV cc).take z := by unfold bV; rw [List.map_take]
  rw [e2, List.getElem?_take] at hj
  split at hj
  · exact hj
  · cases hj
theorem own_apartD {gp : Nat} {B : List UInt8} {z f0 N : Nat} {ob : Option Nat} {w : World} (h : TG gp B z f0 N ob w) {base : Nat} {a : Option Addr} {n c : Nat} {cc : List UInt8} (k : w.ownsRow base 5 1 (.slice a n c) cc.length (bV cc)) (m : Nat) : ApartD [gp] (.slice a m c) := by
  intro B' o k' c' e hm
  obtain ⟨_, _, _, hc, _⟩ := h
  simp only [Value.slice.injEq] at e
  obtain ⟨rfl, -, -⟩ := e
  simp at hm
  subst hm
  exact own_ne k hc (by decide) rfl
theorem wpList_minD {P : Program} {ops : Array Oper} {Q : Exit → Act → World → Prop} {a : Act} {w : World} {rest : List Oper} {o : Oper} (x y : Operand) (ts : Array TypeId)
    (ho : o.op = .call { callee := .builtin .min, args := #[x, y], argTypes := ts }) (hw : Region.wanted o (yielded ops a.tmps) = true) (p q : Int) (r : Nat)
    (hx : a.eval x = .int .i64 p) (hy : a.eval y = .int .i64 q) (hr : min p q = r)
    (h : wpList P ops Q rest (a.put o.dst (.int .i64 r)) w) : wpList P ops Q (o :: rest) a w := by
  refine wpList_val hw ?_ h
  have hr2 := run_min_int2 (P := P) (w := w) ts o.type .i64 .i64 p q
  have e : (if q < p then q else p) = (r : Int) := by rw [← hr]; split <;> omega
  rw [e] at hr2
  simp [execOp, ho, resolve, invoke, builtin, hx, hy, hr2, Result.andThen]
theorem boxes3D (w : World) (a b c : Obj) : Ext w (((w.alloc a).alloc b).alloc c) ∧ (((w.alloc a).alloc b).alloc c).heap[w.heap.size]? = some a ∧ (((w.alloc a).alloc b).alloc c).heap[w.heap.size + 1]? = some b ∧ (((w.alloc a).alloc b).alloc c).heap[w.heap.size + 2]? = some c := boxes3 w a b c
theorem trunc_none {S : DS} {n : List UInt8} {z : Int} (h : firstE (truncL S n z) = 0) : 0 ≤ z ∧ z ≤ lenF S n := by
  have hz := firstE_zero h
  have h1 := errB_zero (by decide) (hz _ (by simp [truncL] : errB (decide (z < 0)) 1 ∈ _))
  have h2 := errB_zero (by decide) (hz _ (by simp [truncL] : errB (decide ((lenF S n : Int) < z)) 1 ∈ _))
  have h1 := of_decide_eq_false h1
  have h2 := of_decide_eq_false h2
  omega
set_option maxRecDepth 100000 in
set_option maxHeartbeats 16000000 in
theorem trunc_any (w : World) (b : Nat) (F : List Nat) (S : DS) (n : List UInt8) (zi : Int) (hd : Dk w b F S) (ok : OkD S) :
    Calls Tryd.prog 21 #[.pointer (some ⟨b, 0, none⟩), .string (strOf n), .int .i64 zi] w fun e w' => e = .returned (.int .i64 (askdE S (truncL S n zi))) ∧ LeftD w b F (askdS S (truncL S n zi) (truncA n zi)) w' := by
  obtain ⟨bm, gs, hd, hgs, rfl⟩ := hd
  obtain ⟨hx0, hb1, hb2, hb3⟩ := boxes3D w (.cells #[.pointer (some ⟨b, 0, none⟩)] 25) (.cells #[.string (strOf n)] 9) (.cells #[.int .i64 zi] 3)
  obtain ⟨c, hc⟩ : ∃ c, c = askdE S (truncL S n zi) := ⟨_, rfl⟩
  rw [← hc]
  have HC := Lib.hid hc
  have HGS := Lib.hid hgs
  have HD := Lib.hid hd
  have HX0 := Lib.hid hx0
  have HB1 := Lib.hid hb1
  have HB2 := Lib.hid hb2
  have HB3 := Lib.hid hb3
  have HBL : Hid (b < w.heap.size) := (Array.getElem?_eq_some_iff.1 hd.box).1
  have HOK := Lib.hid ok
  clear hgs hd hx0 hb1 hb2 hb3 ok hc
  go_enter Tryd.func21, Tryd.ntmps21
  go_upto_region 1 with fail
  generalize (((w.alloc (.cells #[.pointer (some ⟨b, 0, none⟩)] 25)).alloc (.cells #[.string (strOf n)] 9)).alloc (.cells #[.int .i64 zi] 3)) = w2 at *
  obtain ⟨x1, hx1⟩ : ∃ x1, x1 = w.heap.size := ⟨_, rfl⟩
  rw [← hx1] at HB1 HB2 HB3 HBL ⊢
  clear hx1
  have n1 := cell_of_row _ _ 0 _ _ _ HB1.out
  have n2 := cell_of_row _ _ 0 _ _ _ HB2.out
  have n3 := cell_of_row _ _ 0 _ _ _ HB3.out
  refine wp_region_chain 11 [Fact.eq (.pointer (some ⟨b, 0, none⟩)),
      Fact.eq (.func (.func 30) #[.pointer (some ⟨b, 0, none⟩)] #[]),
      Fact.eq (.int .i64 zi),
      Fact.eq (.bool (decide (zi < 0))),
      Fact.wqF (decide (zi < 0)) 1,
      Fact.eq (.pointer (some ⟨b, 0, none⟩)),
      Fact.eq (.string (strOf n)),
      Fact.tqF n b,
      Fact.eq (.func (.func 40) #[] #[.pointer (some ⟨x1 + 1 + 1, 0, none⟩), .pointer (some ⟨x1, 0, none⟩), .pointer (some ⟨x1 + 1, 0, none⟩)]),
      Fact.eq (.pointer (some ⟨b, 0, none⟩)),
      Fact.eq (.func (.func 39) #[.pointer (some ⟨b, 0, none⟩)] #[])]
    [[], [(0, 9)], [], [(2, 11)], [(3, 12)], [], [], [(5, 14), (6, 15)], [], [], [(9, 18)]]
    [(0, 9), (1, 10), (2, 11), (3, 12), (4, 13), (5, 14), (6, 15), (7, 16), (8, 17), (9, 18), (10, 19)] (by kernel_rfl) (by kernel_rfl) ?_ ?_
  · refine ⟨?_, ?_, ?_, ?_, ?_, ?_, ?_, ?_, ?_, ?_, ?_, trivial⟩
    · intro w1 hx1; change wpList _ _ _ _ _ _; have m0 := hx1.cell n1; go_wp2_with fail; exact ⟨rfl, Ext.refl _, rfl, rfl⟩
    · intro w1 hx1; rintro _ rfl; change wpList _ _ _ _ _ _; go_wp2_with fail; exact ⟨rfl, Ext.refl _, rfl, rfl⟩
    · intro w1 hx1; change wpList _ _ _ _ _ _; have m0 := hx1.cell n3; go_wp2_with fail; exact ⟨rfl, Ext.refl _, rfl, rfl⟩
    · intro w1 hx1; rintro _ rfl; change wpList _ _ _ _ _ _; go_wp2_with fail; exact ⟨rfl, Ext.refl _, rfl, rfl⟩
    · intro w1 hx1; rintro _ rfl; change wpList _ _ _ _ _ _; go_wp2_with ((with_reducible refine (wrong_fact _ (decide (zi < 0)) 1).mono ?_); rintro e w2 ⟨c1, c2, rfl, g1, g2, hx2⟩); exact ⟨rfl, hx2, rfl, c1, c2, rfl, g1, g2⟩
    · intro w1 hx1; change wpList _ _ _ _ _ _; have m0 := hx1.cell n1; go_wp2_with fail; exact ⟨rfl, Ext.refl _, rfl, rfl⟩
    · intro w1 hx1; change wpList _ _ _ _ _ _; have m0 := hx1.cell n2; go_wp2_with fail; exact ⟨rfl, Ext.refl _, rfl, rfl⟩
    · intro w1 hx1; rintro _ rfl; rintro _ rfl; change wpList _ _ _ _ _ _; go_wp2_with ((with_reducible refine (there_fact _ b n).mono ?_); rintro e w2 ⟨c1, c2, rfl, g1, g2, hx2⟩); exact ⟨rfl, hx2, rfl, c1, c2, rfl, g1, g2⟩
    · intro w1 hx1; change wpList _ _ _ _ _ _; go_wp2_with fail; exact ⟨rfl, Ext.refl _, rfl, rfl⟩
    · intro w1 hx1; change wpList _ _ _ _ _ _; have m0 := hx1.cell n1; go_wp2_with fail; exact ⟨rfl, Ext.refl _, rfl, rfl⟩
    · intro w1 hx1; rintro _ rfl; change wpList _ _ _ _ _ _; go_wp2_with fail; exact ⟨rfl, Ext.refl _, rfl, rfl⟩
  · intro w1 hx1; rintro _ rfl; rintro _ rfl; rintro _ rfl; rintro _ rfl; intro v13 h13; rintro _ rfl; rintro _ rfl; intro v16 h16; rintro _ rfl; rintro _ rfl; rintro _ rfl; refine depsThen_nil ?_; dsimp only; simp only [Act.put, List.setIfInBounds_toArray, List.set_cons_zero, List.set_cons_succ, List.drop_succ_cons, List.drop_zero]
    replace h13 : (Fact.wqF (decide (zi < 0)) 1).p v13 w1 := h13
    replace h16 : (Fact.tqF n b).p v16 w1 := h16
    obtain ⟨c1, c2, rfl, g1, g2⟩ : ∃ c1 c2, v13 = wqV c1 c2 ∧ w1.heap[c1]? = some (.cells #[.bool (decide (zi < 0))] 4 (0, 0)) ∧ w1.heap[c2]? = some (.cells #[.int .i64 1] 26 (0, 0)) := h13
    obtain ⟨c3, c4, rfl, g3, g4⟩ : ∃ c1 c2, v16 = tqV c1 c2 ∧ SBox w1 c1 n ∧ PBox w1 c2 b := h16
    have hF := asksT w w1 b bm c3 c4 c1 c2 (x1 + 1 + 1) (x1 + 1) x1 gs S n zi (HX0.out.trans hx1) g3 g4 g1 g2 (block_later HB3.out hx1) (block_later HB2.out hx1) (block_later HB1.out hx1) HD.out HGS.out HOK.out.f0 HOK.out.f1
    rw [← HC.out] at hF
    have HFQ := Lib.hid hF
    have HX1 := Lib.hid hx1
    clear hF g1 g2 g3 g4 hx1 n1 n2 n3
    go_upto_region 2 with (go_at_call 33; (with_reducible refine HFQ.out.mono ?_); rintro e w3 ⟨rfl, hd3, w0, hx3, ht3⟩; have HD3 := Lib.hid hd3; have HT3 := Lib.hid ht3; have HX3 := Lib.hid (HX0.out.trans (HX1.out.trans hx3)); have HX4 := Lib.hid (HX1.out.trans hx3); clear hd3 ht3 hx3)
    clear HFQ
    by_cases hc0 : c = 0
    · have hyes := askd_yes (S := S) (l := truncL S n zi) (by rw [← HC.out]; exact hc0) (truncA n zi)
      subst hc0
      have HY := Lib.hid hyes
      obtain ⟨g, hg⟩ := thereG_zero (gs := gs) (n := n) (by rw [thereG_S HGS.out]; exact firstE_zero hyes.1 _ (by simp [truncL]))
      obtain ⟨hz0, hz1⟩ := trunc_none hyes.1
      have hlf : lenF S n = g.b.length := by unfold lenF; rw [dkG_get HGS.out n, hg]; rfl
      rw [hlf] at hz1
      obtain ⟨z, rfl⟩ : ∃ z : Nat, zi = (z : Int) := ⟨zi.toNat, by omega⟩
      clear hyes hlf hz0
      have hzl : z ≤ g.b.length := by omega
      have hmem := (nget_some hg).1
      have hbl : g.b.length ≤ 4194304 := Nat.le_trans (mem_used (mem_fl HGS.out hmem)) HOK.out.used
      have hfl : g.fast ≤ g.b.length := HOK.out.fast _ (mem_fl HGS.out hmem)
      have hf := HD3.out.files g hmem
      have htg : TG g.p g.b z g.fast w3.heap.size g.h.ownBlock w3 := ⟨g.h, g.fast, g.b, hf.cell, hf.row, fun k hk => .inl hk, .inl rfl, .inl rfl⟩
      obtain ⟨fa, fc, hfh, hfc, hlk⟩ := HD3.out.file hg
      have n0 := cell_of_row _ _ 0 _ _ _ HD3.out.box
      have n1 := cell_of_row _ _ 0 _ _ _ (show PBox w3 x1 b from HT3.out.at (block_later HB1.out HX4.out) (by have := HBL.out; simp; omega))
      have n2 := cell_of_row _ _ 0 _ _ _ (show SBox w3 (x1 + 1) n from HT3.out.at (block_later HB2.out HX4.out) (by have := HBL.out; simp; omega))
      have hq3 : w3.heap[x1 + 1 + 1]? = some (.cells #[.int .i64 (z : Int)] 3 (0, 0)) := HT3.out.at (block_later HB3.out HX4.out) (by have := HBL.out; simp; omega)
      have HQ3 := Lib.hid hq3
      have HTG := Lib.hid htg
      have HLK := Lib.hid hlk
      have HG := Lib.hid hg
      have HZL := Lib.hid hzl
      have HBLE := Lib.hid hbl
      have HFL := Lib.hid hfl
      have HNE : Hid (x1 + 1 + 1 ≠ g.p) := fun e => by
        have h1 := hq3
        rw [e] at h1
        have := h1.symm.trans hf.cell
        injection this with this
        injection this with _ ht
        exact absurd ht (by decide)
      clear hzl hmem hbl hfl hf htg hfh hfc hlk hq3 hg hz1
      obtain ⟨gp, hgp⟩ : ∃ gp, gp = g.p := ⟨_, rfl⟩
      have HGP := Lib.hid hgp
      rw [← hgp] at HTG HLK HNE
      clear hgp
      go_upto_region 3 with fail
      refine wp_region_facts [Fact.eq (.pointer (some ⟨b, 0, none⟩)),
          Fact.eq (.pointer (some ⟨b, 0, none⟩)),
          Fact.eq (.pointer (some ⟨b, 0, none⟩)),
          Fact.eq (.map (some bm)),
          Fact.eq (.string (strOf n)),
          Fact.eq (.pointer (some ⟨gp, 0, none⟩)),
          Fact.eq (.pointer (some ⟨gp, 0, none⟩))]
        [[], [(0, 24)], [(1, 25)], [(2, 26)], [], [(3, 27), (4, 28)], [(5, 29)]]
        [(0, 24), (1, 25), (2, 26), (3, 27), (4, 28), (5, 29), (6, 8)] (by kernel_rfl) (by kernel_rfl) ?_ ?_
      · refine ⟨?_, ?_, ?_, ?_, ?_, ?_, ?_, trivial⟩
        · intro w1 hx1; change wpList _ _ _ _ _ _; have m0 := hx1.cell n1; go_wp2_with fail; exact ⟨rfl, Ext.refl _, rfl, rfl⟩
        · intro w1 hx1; rintro _ rfl; change wpList _ _ _ _ _ _; go_wp2_with fail; exact ⟨rfl, Ext.refl _, rfl, rfl⟩
        · intro w1 hx1; rintro _ rfl; change wpList _ _ _ _ _ _; go_wp2_with fail; exact ⟨rfl, Ext.refl _, rfl, rfl⟩
        · intro w1 hx1; rintro _ rfl; change wpList _ _ _ _ _ _; have m0 := hx1.cell n0; go_wp2_with fail; exact ⟨rfl, Ext.refl _, rfl, rfl⟩
        · intro w1 hx1; change wpList _ _ _ _ _ _; have m0 := hx1.cell n2; go_wp2_with fail; exact ⟨rfl, Ext.refl _, rfl, rfl⟩
        · intro w1 hx1; rintro _ rfl; rintro _ rfl; change wpList _ _ _ _ _ _; have k1 := HLK.out w1 hx1; go_wp2_with fail; exact ⟨rfl, Ext.refl _, rfl, rfl⟩
        · intro w1 hx1; rintro _ rfl; change wpList _ _ _ _ _ _; exact ob_assign rfl rfl rfl rfl rfl
      · intro w1 hx1; rintro _ rfl; rintro _ rfl; rintro _ rfl; rintro _ rfl; rintro _ rfl; rintro _ rfl; rintro _ rfl; refine depsThen_nil ?_; dsimp only; simp only [Act.put, List.setIfInBounds_toArray, List.set_cons_zero, List.set_cons_succ]
        have HX5 := Lib.hid hx1
        have HTG1 : Hid (TG gp g.b z g.fast w3.heap.size g.h.ownBlock w1) := TP.ext HTG.out hx1
        have HQ4 := Lib.hid (block_later HQ3.out hx1)
        clear hx1 n0 n1 n2
        obtain ⟨wq, hwq⟩ : ∃ wq, wq = w1 := ⟨_, rfl⟩
        rw [← hwq] at HX5 HTG1 HQ4 ⊢
        clear hwq
        go_upto_region 4 with fail
        have HCLONE : Hid (∀ (W : World) (v : Value), TrR gp g.b z g.fast w3.heap.size g.h.ownBlock wq W → Bytes W v (g.b.take z) → Calls Tryd.prog 35 #[v] W fun e w' => ∃ v', e = .returned v' ∧ w'.ownsRow w3.heap.size 5 1 v' (g.b.take z).length (bV (g.b.take z)) ∧ Ext W w') := fun W v hW hv => by
          refine (bclone_dk W v _ hv (by rw [List.length_take]; have := HBLE.out; omega)).mono ?_
          rintro e w' ⟨v', rfl, h1, h2⟩
          exact ⟨v', rfl, own_low h1 (Nat.le_trans HX5.out.size hW.ts.size), h2⟩
        have HG1 : Hid (∀ W, TrR gp g.b z g.fast w3.heap.size g.h.ownBlock wq W → TG gp g.b z g.fast w3.heap.size g.h.ownBlock W) := fun W hW => hW.g HTG1.out
        have HZC : Hid (∀ W, TrR gp g.b z g.fast w3.heap.size g.h.ownBlock wq W → W.cell? ⟨x1 + 1 + 1, 0, none⟩ = some (.int .i64 (z : Int))) := fun W hW => cell_of_row _ _ 0 _ _ _ (hW.ts.at HQ4.out (by simp; exact HNE.out))
        have HLT : Hid ((g.b.take z).length = z) := by show (g.b.take z).length = z; rw [List.length_take]; have := HZL.out; omega
        refine Rs.wp_region_facts (StepT gp g.b z g.fast w3.heap.size g.h.ownBlock) [Rs.Fact.eq _ (.pointer (some ⟨gp, 0, none⟩)),
            Rs.Fact.eq _ (.pointer (some ⟨gp, 0, none⟩)),
            Rs.Fact.eq _ (.pointer (some ⟨gp, 0, none⟩)),
            Rs.Fact.eq _ (.pointer (some ⟨gp, 0, none⟩)),
            Rs.Fact.eq _ (.pointer (some ⟨gp, 0, none⟩)),
            fOld gp g.b z g.fast w3.heap.size g.h.ownBlock,
            Rs.Fact.eq _ (.int .i64 (z : Int)),
            fCut gp g.b z g.fast w3.heap.size g.h.ownBlock,
            fNew gp g.b z g.fast w3.heap.size g.h.ownBlock,
            Rs.Fact.eq _ (.pointer (some ⟨gp, 0, none⟩)),
            Rs.Fact.eq _ (.pointer (some ⟨gp, 0, none⟩)),
            Rs.Fact.eq _ (.pointer (some ⟨gp, 1, none⟩)),
            fFst gp g.b z g.fast w3.heap.size g.h.ownBlock,
            Rs.Fact.eq _ (.int .i64 (z : Int)),
            Rs.Fact.eq _ (.int .i64 ((min g.fast z : Nat) : Int)),
            Rs.Fact.eq _ (.pointer (some ⟨gp, 0, none⟩)),
            Rs.Fact.eq _ (.pointer (some ⟨gp, 0, none⟩)),
            fN0 gp g.b z g.fast w3.heap.size g.h.ownBlock,
            Rs.Fact.eq _ (.pointer (some ⟨gp, 0, none⟩)),
            Rs.Fact.eq _ (.pointer (some ⟨gp, 1, none⟩)),
            fN1 gp g.b z g.fast w3.heap.size g.h.ownBlock]
          [[], [], [], [(2, 32)], [(3, 33)], [(4, 34)], [], [(5, 35), (6, 36)], [(7, 37)], [], [(9, 39)], [(10, 40)], [(11, 41)], [], [(12, 42), (13, 43)], [(0, 30)], [(15, 45)], [(16, 46), (8, 38)], [(1, 31)], [(18, 47)], [(19, 48), (14, 44)]]
          [(0, 30), (1, 31), (2, 32), (3, 33), (4, 34), (5, 35), (6, 36), (7, 37), (8, 38), (9, 39), (10, 40), (11, 41), (12, 42), (13, 43), (14, 44), (15, 45), (16, 46), (18, 47), (19, 48)] (by kernel_rfl) (by kernel_rfl) ?_ ?_
        · refine ⟨?_, ?_, ?_, ?_, ?_, ?_, ?_, ?_, ?_, ?_, ?_, ?_, ?_, ?_, ?_, ?_, ?_, ?_, ?_, ?_, ?_, trivial⟩
          · intro w1 hx1; change wpList _ _ _ _ _ _; exact Rs.ob_move _ rfl rfl rfl rfl rfl
          · intro w1 hx1; change wpList _ _ _ _ _ _; exact Rs.ob_move _ rfl rfl rfl rfl rfl
          · intro w1 hx1; change wpList _ _ _ _ _ _; exact Rs.ob_move _ rfl rfl rfl rfl rfl
          · intro w1 hx1; rintro _ rfl; change wpList _ _ _ _ _ _; go_wp2_with fail; exact ⟨rfl, (StepT gp g.b z g.fast w3.heap.size g.h.ownBlock).refl _, rfl, rfl⟩
          · intro w1 hx1; rintro _ rfl; change wpList _ _ _ _ _ _; go_wp2_with fail; exact ⟨rfl, (StepT gp g.b z g.fast w3.heap.size g.h.ownBlock).refl _, rfl, rfl⟩
          · intro w1 hx1; rintro _ rfl; change wpList _ _ _ _ _ _; have hg1 := HG1.out w1 hx1; obtain ⟨sl, f, cc, q1, q2, q3, q4, q5⟩ := hg1; obtain ⟨sa, sc, rfl, _, _⟩ := own_shape q2; have m0 := cell_of_row _ _ 0 _ _ _ q1; have HK := Lib.hid (And.intro (show TG gp g.b z g.fast w3.heap.size g.h.ownBlock w1 from ⟨_, f, cc, q1, q2, q3, q4, q5⟩) (And.intro q4 q2)); clear q1 q2 q3 q4 q5; go_wp2_with fail; exact ⟨rfl, TrR.same _, rfl, HK.out.1, cc, HK.out.2.1, HK.out.2.2⟩
          · intro w1 hx1; change wpList _ _ _ _ _ _; have m0 := HZC.out w1 hx1; go_wp2_with fail; exact ⟨rfl, (StepT gp g.b z g.fast w3.heap.size g.h.ownBlock).refl _, rfl, rfl⟩
          · intro w1 hx1; intro v35 h35; rintro _ rfl; change wpList _ _ _ _ _ _; obtain ⟨q1, cc, q2, q3⟩ := h35; obtain ⟨sa, sc, rfl, k1, k2⟩ := own_shape q3; have hz := cut_le q2 HZL.out; have hr := row_take q3 hz; rw [eB_take q2] at hr; have HK := Lib.hid (And.intro q1 (And.intro hr (own_apartD q1 q3))); clear q1 q2 q3 hr; generalize cc.length = cl at *; go_wp2_with fail; exact ⟨rfl, TrR.same _, rfl, HK.out.1, HK.out.2.1, HK.out.2.2 _⟩
          · intro w1 hx1; intro v37 h37; change wpList _ _ _ _ _ _; obtain ⟨q1, q2, q3⟩ := h37; have hk := HCLONE.out w1 v37 hx1 (by unfold Bytes; rw [HLT.out]; exact q2); obtain ⟨sa, sc, rfl, _, _⟩ := Row.shape q2; have HK := Lib.hid hk; have HQ := Lib.hid q1; clear hk q1 q2 q3; go_wp2_with ((with_reducible refine HK.out.mono ?_); rintro e w2 ⟨v', rfl, ho, hx2⟩; have HO := Lib.hid ho; have HX2 := Lib.hid hx2; clear ho hx2); exact ⟨rfl, TrR.of_ext HX2.out, rfl, TP.ext HQ.out HX2.out, by have := HO.out; rwa [HLT.out] at this⟩
          · intro w1 hx1; change wpList _ _ _ _ _ _; exact Rs.ob_move _ rfl rfl rfl rfl rfl
          · intro w1 hx1; rintro _ rfl; change wpList _ _ _ _ _ _; go_wp2_with fail; exact ⟨rfl, (StepT gp g.b z g.fast w3.heap.size g.h.ownBlock).refl _, rfl, rfl⟩
          · intro w1 hx1; rintro _ rfl; change wpList _ _ _ _ _ _; go_wp2_with fail; exact ⟨rfl, (StepT gp g.b z g.fast w3.heap.size g.h.ownBlock).refl _, rfl, rfl⟩
          · intro w1 hx1; rintro _ rfl; change wpList _ _ _ _ _ _; have hg1 := HG1.out w1 hx1; obtain ⟨sl, f, cc, q1, q2, q3, q4, q5⟩ := hg1; have m0 := cell_of_row _ _ 1 _ _ _ q1; have HK := Lib.hid q5; clear q1 q2 q3 q4 q5; go_wp2_with fail; exact ⟨rfl, TrR.same _, rfl, f, rfl, HK.out⟩
          · intro w1 hx1; change wpList _ _ _ _ _ _; have m0 := HZC.out w1 hx1; go_wp2_with fail; exact ⟨rfl, (StepT gp g.b z g.fast w3.heap.size g.h.ownBlock).refl _, rfl, rfl⟩
          · intro w1 hx1; intro v42 h42; rintro _ rfl; change wpList _ _ _ _ _ _; obtain ⟨f, rfl, hf⟩ := h42; exact wpList_minD (.tmp 42) (.tmp 43) _ rfl rfl _ _ (min g.fast z) rfl rfl (by rcases hf with rfl | rfl <;> omega) (wpList_nil ⟨rfl, TrR.same _, rfl, rfl⟩)
          · intro w1 hx1; rintro _ rfl; change wpList _ _ _ _ _ _; go_wp2_with fail; exact ⟨rfl, (StepT gp g.b z g.fast w3.heap.size g.h.ownBlock).refl _, rfl, rfl⟩
          · intro w1 hx1; rintro _ rfl; change wpList _ _ _ _ _ _; go_wp2_with fail; exact ⟨rfl, (StepT gp g.b z g.fast w3.heap.size g.h.ownBlock).refl _, rfl, rfl⟩
          · intro w1 hx1; rintro _ rfl; intro v38 h38; change wpList _ _ _ _ _ _; obtain ⟨q1, q2⟩ := h38; obtain ⟨sl, f, cc, r1, r2, r3, r4, r5⟩ := q1; obtain ⟨sa, sc, rfl, _, _⟩ := own_shape q2; have m0 := cell_of_row _ _ 0 _ _ _ r1; have z0 := frozen_of_row _ _ 0 _ _ r1; have HK := Lib.hid (And.intro q2 (show TG gp g.b z g.fast w3.heap.size g.h.ownBlock w1 from ⟨_, f, cc, r1, r2, r3, r4, r5⟩)); clear q2 r1 r2 r3 r4 r5; go_wp2_with fail; exact ⟨rfl, TrR.store0 (by rw [HLT.out]; exact HK.out.1), rfl, TP.store0 HK.out.2 (by rw [HLT.out]; exact HK.out.1)⟩
          · intro w1 hx1; rintro _ rfl; change wpList _ _ _ _ _ _; go_wp2_with fail; exact ⟨rfl, (StepT gp g.b z g.fast w3.heap.size g.h.ownBlock).refl _, rfl, rfl⟩
          · intro w1 hx1; rintro _ rfl; change wpList _ _ _ _ _ _; go_wp2_with fail; exact ⟨rfl, (StepT gp g.b z g.fast w3.heap.size g.h.ownBlock).refl _, rfl, rfl⟩
          · intro w1 hx1; rintro _ rfl; rintro _ rfl; change wpList _ _ _ _ _ _; have hg1 := HG1.out w1 hx1; obtain ⟨sl, f, cc, r1, r2, r3, r4, r5⟩ := hg1; have m0 := cell_of_row _ _ 1 _ _ _ r1; have z0 := frozen_of_row _ _ 1 _ _ r1; have HK := Lib.hid (show TG gp g.b z g.fast w3.heap.size g.h.ownBlock w1 from ⟨_, f, cc, r1, r2, r3, r4, r5⟩); clear r1 r2 r3 r4 r5; go_wp2_with fail; exact ⟨rfl, TrR.store1, rfl, TP.store1 HK.out _⟩
        · intro w1 hx1 hno; rintro _ rfl; rintro _ rfl; rintro _ rfl; rintro _ rfl; rintro _ rfl; intro v35 h35; rintro _ rfl; intro v37 h37; intro v38 h38; rintro _ rfl; rintro _ rfl; rintro _ rfl; intro v42 h42; rintro _ rfl; rintro _ rfl; rintro _ rfl; rintro _ rfl; rintro _ rfl; rintro _ rfl; refine depsThen_nil ?_; dsimp only; simp only [Act.put, List.setIfInBounds_toArray, List.set_cons_zero, List.set_cons_succ]
          replace h35 : (fOld gp g.b z g.fast w3.heap.size g.h.ownBlock).p v35 w1 := h35
          replace h37 : (fCut gp g.b z g.fast w3.heap.size g.h.ownBlock).p v37 w1 := h37
          replace h38 : (fNew gp g.b z g.fast w3.heap.size g.h.ownBlock).p v38 w1 := h38
          replace h42 : (fFst gp g.b z g.fast w3.heap.size g.h.ownBlock).p v42 w1 := h42
          have o17 : (fN0 gp g.b z g.fast w3.heap.size g.h.ownBlock).p undef w1 := hno 17 (by decide) rfl
          have o20 : (fN1 gp g.b z g.fast w3.heap.size g.h.ownBlock).p undef w1 := hno 20 (by decide) rfl
          clear hno
          have hfin : LeftD w b (foot b bm gs) (askdS S (truncL S n z) (truncA n z)) w1 := by
            obtain ⟨sl, f, c', r1, r2, r3, rfl, r5⟩ : TN0 gp g.b z g.fast w3.heap.size g.h.ownBlock w1 := o17
            obtain ⟨sl', f', c2', s1, s2, s3, s4, rfl⟩ : TN1 gp g.b z g.fast w3.heap.size g.h.ownBlock w1 := o20
            have he := r1.symm.trans s1
            have hfe : (f : Int) = ((min g.fast z : Nat) : Int) := by
              injection he with he
              injection he with he
              have := congrArg (fun a : Array Value => a[1]?) he
              simpa using this
            rw [hfe] at r1
            have hmem := (nget_some HG.out).1
            have ht : Turns (ftG g) w3 w1 := (Turns.of_ext HX5.out).trans (F := ftG g) (hx1.ts.wide fun i hi => by simp at hi; subst hi; rw [HGP.out]; simp [ftG]) fun i hi => .inl hi
            have hset := HD3.out.set (g := g) (g' := { g with b := g.b.take z, fast := min g.fast z, h := sl }) (w' := w1) hmem rfl rfl ht ⟨by
                show w1.heap[g.p]? = _
                rw [← HGP.out]; exact r1, r2⟩ (fun k hk => by
              rcases List.mem_cons.1 hk with rfl | hk
              · exact .inl (by simp [ftG])
              · rcases r3 k (by simpa using hk) with h | h
                · exact .inl (by simp [ftG, h])
                · exact .inr h)
            refine leftD_yes HX3.out HT3.out hset.1 hset.2 ?_ ?_ ?_ ?_
            · rw [HY.out.2]
              show _ = truncA n (z : Int) S.fs
              unfold truncA
              rw [dkG_get HGS.out n, HG.out, ← HGS.out]
              show _ = nset Fl.nm (gs.map FG.fl) (FG.fl { g with b := g.b.take z, fast := min g.fast z, h := sl })
              rw [nset_map fl_nm]
            · rw [HY.out.2]
            · rw [HY.out.2]
            · rw [HY.out.2]
          have HFIN := Lib.hid hfin
          clear hfin hx1 o17 o20
          go_wp2_with fail
          exact bodyPost_ret (v := .int .i64 0) (by simp [results, Tryd.results21, go_sem]) rfl ⟨rfl, HFIN.out⟩
    · have hno := askd_no (S := S) (l := truncL S n zi) (by rw [← HC.out]; exact hc0) (truncA n zi)
      have hfin : LeftD w b (foot b bm gs) (askdS S (truncL S n zi) (truncA n zi)) w3 := by
        rw [hno]; exact leftD_no HX3.out HD3.out HT3.out HGS.out (askd_fs _ _)
      have HFIN := Lib.hid hfin
      have hcn : ((c : Int) == 0) = false := by rw [beq_eq_false_iff_ne]; exact hc0
      clear hno hfin hc0
      go_wp2_with fail
      exact bodyPost_ret (v := .int .i64 c) (by simp [results, Tryd.results21, go_sem]) rfl ⟨rfl, HFIN.out⟩
end Go.Proofs.YtdfnfmanpdafpaaDoor
