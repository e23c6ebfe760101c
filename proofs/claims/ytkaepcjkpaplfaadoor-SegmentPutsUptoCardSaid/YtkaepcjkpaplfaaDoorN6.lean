/- The records of frames, walked: the closure of segment.Split. -/
import Derived.Test.YtkaepcjkpaplfaaDoorN5
import Derived.Test.YtkaepcjkpaplfaaDoorN8
import Derived.Test.YtkaepcjkpaplfaaDoorW8
import Derived.Deep.DeepCutAuto
namespace Go.Proofs.YtkaepcjkpaplfaaDoor
open Go.RowKit

/-- A record's value: its number, and where its data lie. -/
structure RS where
  n : Nat
  a : Option Addr
  m : Nat
  c : Nat
def RS.cells (u : RS) : List Value := [.int .u64 u.n, .slice u.a u.m u.c]
def rsC (us : List RS) : List Value := us.flatMap RS.cells
theorem rsC_length (us : List RS) : (rsC us).length = us.length * 2 := by
  induction us with
  | nil => rfl
  | cons u us ih => simp only [rsC, List.flatMap_cons, List.length_append, List.length_cons] at ih ⊢; rw [ih]; simp [RS.cells]; omega
theorem rsC_snoc (us : List RS) (u : RS) : rsC (us ++ [u]) = rsC us ++ u.cells := by simp [rsC]

def RecL (W : World) (base : Nat) (us : List RS) (xs : List (Nat × List UInt8)) : Prop :=
  us.length = xs.length ∧ ∀ (i : Nat) (u : RS) (x : Nat × List UInt8), us[i]? = some u → xs[i]? = some x → x.1 = u.n ∧ OwnB W base (.slice u.a u.m u.c) x.2

theorem RecL.ext {W W' : World} {base : Nat} {us : List RS} {xs : List (Nat × List UInt8)} (h : RecL W base us xs) (hx : Ext W W') : RecL W' base us xs :=
  ⟨h.1, fun i u x h1 h2 => ⟨(h.2 i u x h1 h2).1, (h.2 i u x h1 h2).2.ext hx⟩⟩
theorem RecL.keeps {S : Nat → Prop} {W W' : World} {base : Nat} {us : List RS} {xs : List (Nat × List UInt8)} (h : RecL W base us xs) (hk : Keeps S W W') (hS : ∀ k, S k → ∀ c fr, W.heap[k]? ≠ some (.cells c 5 fr)) : RecL W' base us xs :=
  ⟨h.1, fun i u x h1 h2 => ⟨(h.2 i u x h1 h2).1, OwnB.keeps (h.2 i u x h1 h2).2 hk hS⟩⟩
theorem RecL.snoc {W : World} {base : Nat} {us : List RS} {xs : List (Nat × List UInt8)} (h : RecL W base us xs) {u : RS} {x : Nat × List UInt8} (h1 : x.1 = u.n) (h2 : OwnB W base (.slice u.a u.m u.c) x.2) : RecL W base (us ++ [u]) (xs ++ [x]) := by
  refine ⟨by simp [h.1], fun i v y hv hy => ?_⟩
  by_cases hi : i < us.length
  · rw [List.getElem?_append_left hi] at hv
    rw [List.getElem?_append_left (by rw [← h.1]; exact hi)] at hy
    exact h.2 i v y hv hy
  · have hl := h.1
    rw [List.getElem?_append_right (by omega)] at hv hy
    rw [hl] at hv
    cases hj : i - xs.length with
    | zero =>
      rw [hj] at hv hy
      simp at hv hy
      subst hv; subst hy
      exact ⟨h1, h2⟩
    | succ j => rw [hj] at hv; simp at hv

theorem info40 : (Tryd.prog.info? 40).map (fun i => (i.zero, i.size, i.bytes)) = some (some (.agg #[.int .u64 0, .slice none 0 0]), 2, 32) := by kernel_rfl

/-- What segment.Split keeps: the least number, the records told, how much is whole. -/
structure St (W : World) (kn kl kw base : Nat) (vl : Value) (us : List RS) (xs : List (Nat × List UInt8)) (whole least : Nat) : Prop where
  bn : Boxed W kn 22 (.int .u64 least)
  bl : Boxed W kl 43 vl
  bw : Boxed W kw 3 (.int .i64 whole)
  own : W.ownsRow base 40 2 vl us.length (rsC us)
  recs : RecL W base us xs


theorem appS {ops : Array Oper} {Q : Exit → Act → World → Prop} {a : Act} {w : World} {rest : List Oper} {o : Oper}
    (s x : Operand) (ho : o.op = .call { callee := .builtin .append, args := #[s, x], argTypes := #[43, 43] })
    (hw : Region.wanted o (yielded ops a.tmps) = true) (base n : Nat) {xs news : List Value} (hs : w.ownsRow base 40 2 (a.eval s) n xs) (hx : Row w 2 (a.eval x) 1 news) (h1 : ∀ u ∈ news, u.oneCell' = true)
    (hlen : n ≤ 1000000000000) (hbase : base ≤ w.heap.size)
    (h : ∀ v' w', w'.ownsRow base 40 2 v' (n + 1) (xs ++ news) → w.grownBy w' (a.eval s).ownBlock → wpList Tryd.prog ops Q rest (a.put o.dst v') w') : wpList Tryd.prog ops Q (o :: rest) a w :=
  wpList_append_row 43 40 s x ho base (.agg #[.int .u64 0, .slice none 0 0]) 2 32 Tryd.underlying43 info40 rfl (by decide) hw _ n xs rfl hs 1 news hx h1 (by omega) (by simp only [maxLen]; omega) hbase h
theorem lit_rec (w : World) (u : RS) : Row (w.alloc (.cells #[.int .u64 u.n, .slice u.a u.m u.c] 40)) 2 (.slice (some ⟨w.heap.size, 0, none⟩) 1 1) 1 u.cells := by
  refine ⟨rfl, some ⟨w.heap.size, 0, none⟩, 1, rfl, Nat.le_refl _, by decide, by simp, fun p hp _ => by cases hp; rfl, fun j x hj => ⟨_, rfl, ?_⟩⟩
  simp only [Nat.zero_add]
  rw [cell_of_row _ _ _ _ _ _ (heap_alloc_new _ _)]
  match j, hj with
  | 0, hj => simpa [RS.cells] using hj
  | 1, hj => simpa [RS.cells] using hj
  | j + 2, hj => simp [RS.cells] at hj
theorem own_shape2 {W : World} {base n : Nat} {v : Value} {xs : List Value} (h : W.ownsRow base 40 2 v n xs) (hn : 0 < n) : ∃ g cap cur, v = .slice (some ⟨g, 0, none⟩) n cap ∧ base ≤ g ∧ W.heap[g]? = some (.cells cur 40 (0, 0)) ∧ n ≤ cap ∧ cap ≤ maxLen := by
  rcases h.2 with ⟨_, e⟩ | ⟨g, cap, cur, hv, hg, hh, h1, h2, _⟩
  · omega
  · exact ⟨g, cap, cur, hv, hg, hh, h1, h2⟩
theorem own_slice {W : World} {base n size : Nat} {e : TypeId} {v : Value} {xs : List Value} (h : W.ownsRow base e size v n xs) : ∃ a cap, v = .slice a n cap := by
  rcases h.2 with ⟨rfl, rfl⟩ | ⟨g, cap, cur, hv, _⟩
  · exact ⟨none, 0, rfl⟩
  · exact ⟨_, cap, hv⟩
theorem own_block40 {W : World} {base n : Nat} {v : Value} {xs : List Value} (h : W.ownsRow base 40 2 v n xs) {k : Nat} (hk : v.ownBlock = some k) : ∃ cur, W.heap[k]? = some (.cells cur 40 (0, 0)) := by
  rcases h.2 with ⟨rfl, _⟩ | ⟨g, cap, cur, rfl, _, hh, _⟩
  · cases hk
  · have : g = k := Option.some.inj hk
    subst this
    exact ⟨cur, hh⟩

theorem Keeps.of_ext {S : Nat → Prop} {W W' : World} (h : Ext W W') : Keeps S W W' := ⟨h.os, h.tape, h.output, h.size, fun k hk _ => h.block k hk⟩
theorem Keeps.set {S : Nat → Prop} {W : World} {g : Nat} (h : S g) (x : Value) : Keeps S W (W.setCell ⟨g, 0, none⟩ x) :=
  ⟨rfl, rfl, rfl, by simp, fun k _ hs => Below.heap_setCell _ _ _ _ (by intro e; simp at e; subst e; exact hs h)⟩
theorem boxed_set {W : World} {k : Nat} {t : TypeId} {v : Value} (h : Boxed W k t v) (x : Value) : Boxed (W.setCell ⟨k, 0, none⟩ x) k t x := by
  show (W.setCell ⟨k, 0, none⟩ x).heap[k]? = _
  rw [heap_setCell_same _ _ _ _ _ _ h]; rfl
theorem boxed_other {W : World} {k g : Nat} {t : TypeId} {v : Value} (h : Boxed W k t v) (hk : k ≠ g) (x : Value) : Boxed (W.setCell ⟨g, 0, none⟩ x) k t v := by
  show (W.setCell ⟨g, 0, none⟩ x).heap[k]? = _
  rw [Below.heap_setCell _ _ _ _ (by simpa using hk)]; exact h
theorem boxed_drew {W : World} {k : Nat} {t : TypeId} {v : Value} (h : Boxed W k t v) : Boxed W.drew k t v := h

theorem wrap_sum {a s : Nat} (h : a ≤ 100000000000000) (hs : s ≤ 2056) : IntKind.i64.wrap ((a : Int) + (s : Int)) = ((a + s : Nat) : Int) := by
  simp [IntKind.wrap, IntKind.bits, IntKind.signed]
  omega
theorem own_set5 {W : World} {base kn : Nat} {v u : Value} {l : List UInt8} (h : OwnB W base v l) (hb : Boxed W kn 22 u) (x : Value) : OwnB (W.setCell ⟨kn, 0, none⟩ x) base v l := by
  refine ⟨h.1, ?_⟩
  rcases h.2 with h2 | ⟨g, cap, cur, rfl, hg, hh, r⟩
  · exact .inl h2
  · refine .inr ⟨g, cap, cur, rfl, hg, ?_, r⟩
    rw [Below.heap_setCell _ _ _ _ (by
      intro e; simp at e; subst e
      rw [show W.heap[g]? = _ from hb] at hh; cases hh)]
    exact hh
theorem own_other {W : World} {base n k : Nat} {v : Value} {xs : List Value} (h : W.ownsRow base 40 2 v n xs) (hk : v.ownBlock ≠ some k) (x : Value) : (W.setCell ⟨k, 0, none⟩ x).ownsRow base 40 2 v n xs := by
  refine ⟨h.1, ?_⟩
  rcases h.2 with h2 | ⟨g, cap, cur, rfl, hg, hh, r⟩
  · exact .inl h2
  · refine .inr ⟨g, cap, cur, rfl, hg, ?_, r⟩
    rw [Below.heap_setCell _ _ _ _ (by intro e; simp at e; subst e; exact hk rfl)]
    exact hh

set_option maxRecDepth 100000 in
set_option maxHeartbeats 2000000 in
theorem next_seg (w : World) (kn kl kw base : Nat) (v vl : Value) (f : List UInt8) (us : List RS) (xs : List (Nat × List UInt8)) (whole least fb : Nat) (hfr : Rec w fb v f) (hfl : f.length ≤ 2048) (hs : St w kn kl kw base vl us xs whole least)
    (hd1 : kn ≠ kl) (hd2 : kn ≠ kw) (hd3 : kl ≠ kw) (hb : base ≤ w.heap.size) (hw : whole ≤ 100000000000000) (hu : us.length ≤ 1000000000000) :
    Calls Tryd.prog 33 #[v, .pointer (some ⟨kn, 0, none⟩), .pointer (some ⟨kl, 0, none⟩), .pointer (some ⟨kw, 0, none⟩)] w fun e W =>
      (e = .returned (.bool false) ∧ (∀ x, recF f = some x → x.1 < least) ∧ Ext w W) ∨
      (∃ x u vl', e = .returned (.bool true) ∧ recF f = some x ∧ least ≤ x.1 ∧ St W kn kl kw base vl' (us ++ [u]) (xs ++ [x]) (whole + sizeR f) (x.1 + 1) ∧ Keeps (fun k => k = kn ∨ k = kl ∨ k = kw ∨ some k = vl.ownBlock) w W) := by
  have hf := hfr.bytes
  obtain ⟨af, cf, rfl, hcf, hmf⟩ := hf.shape
  unfold maxLen at hmf
  obtain ⟨al, cl0, rfl⟩ := own_slice hs.own
  go_enter Tryd.func33, Tryd.ntmps33
  go_upto_region 2 with (go_at_call 34; refine (record_any _ _ f hf (by omega)).mono ?_; rintro e w1 ⟨n, a, m, c, rfl, hrec, hn, hx1⟩)
  have hxa : Ext w (w1.alloc (.cells #[.int .u64 n, .slice a m c] 40)) := hx1.alloc _
  have hT : (w1.alloc (.cells #[.int .u64 n, .slice a m c] 40)).heap[w1.heap.size]? = some (.cells #[.int .u64 n, .slice a m c] 40 (0, 0)) := heap_alloc_new _ _
  have hTl : w.heap.size ≤ w1.heap.size := hx1.size
  generalize hTT : w1.heap.size = T at *
  have HTT := Lib.hid hTT
  clear hTT
  have ht0 := cell_of_row _ T 0 _ _ _ hT
  have ht1 := cell_of_row _ T 1 _ _ _ hT
  have hrecA : ∀ x, recF f = some x → x.1 = n ∧ OwnB (w1.alloc (.cells #[.int .u64 n, .slice a m c] 40)) w.heap.size (.slice a m c) x.2 := fun x hx => ⟨(hrec x hx).1, (hrec x hx).2.ext ((Ext.refl w1).alloc _)⟩
  clear hrec
  generalize w1.alloc (.cells #[.int .u64 n, .slice a m c] 40) = wa at *
  have HT := Lib.hid hT
  clear hT
  have hka : ∀ k, k < w.heap.size → wa.heap[k]? = w.heap[k]? := fun k hk => hxa.block k hk
  have lt_of : ∀ {k t v}, Boxed w k t v → k < w.heap.size := fun h => (Array.getElem?_eq_some_iff.1 h).1
  have bna : Boxed wa kn 22 (.int .u64 least) := (hka kn (lt_of hs.bn)).trans hs.bn
  have bla : Boxed wa kl 43 _ := (hka kl (lt_of hs.bl)).trans hs.bl
  have bwa : Boxed wa kw 3 (.int .i64 whole) := (hka kw (lt_of hs.bw)).trans hs.bw
  cases hrf : recF f with
  | none =>
    have HRF := Lib.hid hrf
    clear hrf
    go_wp2_with fail
    go_ret
    exact .inl ⟨rfl, fun x hx => (by rw [HRF.out] at hx; cases hx), hxa⟩
  | some x =>
    obtain ⟨hx1', hox⟩ := hrecA x hrf
    have HRF := Lib.hid hrf
    clear hrf hrecA
    have cn := bna.cell
    simp at ht0 ht1
    by_cases hlt : n < least
    · have hd : decide ((n : Int) < (least : Int)) = true := decide_eq_true (by omega)
      have hdn : decide (n < least) = true := decide_eq_true hlt
      go_wp2_with fail
      go_ret
      exact .inl ⟨rfl, fun y hy => (by rw [HRF.out] at hy; cases hy; omega), hxa⟩
    · have hd : decide ((n : Int) < (least : Int)) = false := decide_eq_false (by omega)
      have hdn : decide (n < least) = false := decide_eq_false hlt
      have cl := bla.cell
      have hown : wa.ownsRow base 40 2 _ us.length (rsC us) := ownsRow_ext hs.own hxa
      have hxl : Ext wa (wa.alloc (.cells #[.int .u64 n, .slice a m c] 40)) := (Ext.refl wa).alloc _
      have hownl := ownsRow_ext hown hxl
      have hlit := lit_rec wa ⟨n, a, m, c⟩
      have hone : ∀ u ∈ (RS.mk n a m c).cells, u.oneCell' = true := by intro u hu; simp [RS.cells] at hu; rcases hu with rfl | rfl <;> rfl
      have hbl : base ≤ (wa.alloc (.cells #[.int .u64 n, .slice a m c] 40)).heap.size := Nat.le_trans hb (hxa.trans hxl).size
      have hnbl : ∀ {W : World} {k t v}, W.ownsRow base 40 2 (.slice al us.length cl0) us.length (rsC us) → Boxed W k t v → t ≠ 40 → (Value.slice al us.length cl0).ownBlock ≠ some k := fun {W k t v} ho hB ht e => by
        obtain ⟨cur, hc⟩ := own_block40 ho e
        rw [show W.heap[k]? = _ from hB] at hc
        cases hc
        exact ht rfl
      have hstay : ∀ {W : World} {k : Nat} {t : TypeId} {v : Value}, (wa.alloc (.cells #[.int .u64 n, .slice a m c] 40)).grownBy W (Value.slice al us.length cl0).ownBlock → k < wa.heap.size → Boxed wa k t v → t ≠ 40 → Boxed W k t v := fun {W k t v} hg hk hB ht => by
        have e1 := hxl.block k hk
        have e2 := hg.block k (Nat.lt_of_lt_of_le hk hxl.size) (fun e => hnbl hown hB ht e.symm)
        exact e2.trans (e1.trans hB)
      have lkl := Nat.lt_of_lt_of_le (lt_of hs.bl) hxa.size
      go_upto_region 5 with (at_builtin; refine appS (.tmp 21) (.tmp 23) rfl rfl base us.length hownl hlit hone hu hbl ?_; intro v2 w2 ho2 hg2; obtain ⟨g, cp, cur, rfl, hg, hgh, hgc, hgm⟩ := own_shape2 ho2 (Nat.succ_pos _); have bl2 := hstay hg2 lkl bla (by decide); have cl2 := bl2.cell; have zl2 := bl2.frozen)
      have hS5 : ∀ k, (k = kn ∨ k = kl ∨ k = kw ∨ some k = (Value.slice al us.length cl0).ownBlock) → ∀ c fr, w.heap[k]? ≠ some (.cells c 5 fr) := fun k hk c fr e => by
        rcases hk with rfl | rfl | rfl | hk
        · rw [show w.heap[k]? = _ from hs.bn] at e; cases e
        · rw [show w.heap[k]? = _ from hs.bl] at e; cases e
        · rw [show w.heap[k]? = _ from hs.bw] at e; cases e
        · obtain ⟨cur', hc'⟩ := own_block40 hs.own hk.symm
          rw [hc'] at e; cases e
      have K3 : Keeps (fun k => k = kn ∨ k = kl ∨ k = kw ∨ some k = (Value.slice al us.length cl0).ownBlock) w (w2.setCell ⟨kl, 0, none⟩ (.slice (some ⟨g, 0, none⟩) (us.length + 1) cp)) :=
        ((Keeps.of_ext hxa).trans (Keeps.of_ext hxl)).trans ((Keeps.of_grown hg2 fun k e => .inr (.inr (.inr e.symm))).trans (Keeps.set (.inr (.inl rfl)) _))
      have hSa : ∀ k, (k = kn ∨ k = kl ∨ k = kw ∨ some k = (Value.slice al us.length cl0).ownBlock) → ∀ c fr, wa.heap[k]? ≠ some (.cells c 5 fr) := fun k hk c fr e => by
        rcases hk with rfl | rfl | rfl | hk
        · rw [show wa.heap[k]? = _ from bna] at e; cases e
        · rw [show wa.heap[k]? = _ from bla] at e; cases e
        · rw [show wa.heap[k]? = _ from bwa] at e; cases e
        · obtain ⟨cur', hc'⟩ := own_block40 hown hk.symm
          rw [hc'] at e; cases e
      have K3a : Keeps (fun k => k = kn ∨ k = kl ∨ k = kw ∨ some k = (Value.slice al us.length cl0).ownBlock) wa (w2.setCell ⟨kl, 0, none⟩ (.slice (some ⟨g, 0, none⟩) (us.length + 1) cp)) :=
        (Keeps.of_ext hxl).trans ((Keeps.of_grown hg2 fun k e => .inr (.inr (.inr e.symm))).trans (Keeps.set (.inr (.inl rfl)) _))
      have bn3 : Boxed (w2.setCell ⟨kl, 0, none⟩ (.slice (some ⟨g, 0, none⟩) (us.length + 1) cp)) kn 22 (.int .u64 least) := (hstay hg2 (Nat.lt_of_lt_of_le (lt_of hs.bn) hxa.size) bna (by decide)) |> fun q => boxed_other q hd1 _
      have bw3 : Boxed (w2.setCell ⟨kl, 0, none⟩ (.slice (some ⟨g, 0, none⟩) (us.length + 1) cp)) kw 3 (.int .i64 whole) := (hstay hg2 (Nat.lt_of_lt_of_le (lt_of hs.bw) hxa.size) bwa (by decide)) |> fun q => boxed_other q (Ne.symm hd3) _
      have bl3 := boxed_set bl2 (.slice (some ⟨g, 0, none⟩) (us.length + 1) cp)
      have hgkl : (Value.slice (some ⟨g, 0, none⟩) (us.length + 1) cp).ownBlock ≠ some kl := fun e => by
        have : g = kl := Option.some.inj e
        subst this
        rw [show w2.heap[g]? = _ from bl2] at hgh; cases hgh
      have hgkn : (Value.slice (some ⟨g, 0, none⟩) (us.length + 1) cp).ownBlock ≠ some kn := fun e => by
        have : g = kn := Option.some.inj e
        subst this
        rw [show w2.heap[g]? = _ from hstay hg2 (Nat.lt_of_lt_of_le (lt_of hs.bn) hxa.size) bna (by decide)] at hgh; cases hgh
      have hgkw : (Value.slice (some ⟨g, 0, none⟩) (us.length + 1) cp).ownBlock ≠ some kw := fun e => by
        have : g = kw := Option.some.inj e
        subst this
        rw [show w2.heap[g]? = _ from hstay hg2 (Nat.lt_of_lt_of_le (lt_of hs.bw) hxa.size) bwa (by decide)] at hgh; cases hgh
      have own3 := own_other ho2 hgkl (.slice (some ⟨g, 0, none⟩) (us.length + 1) cp)
      have hT3 : (w2.setCell ⟨kl, 0, none⟩ (.slice (some ⟨g, 0, none⟩) (us.length + 1) cp)).heap[T]? = some (.cells #[.int .u64 n, .slice a m c] 40 (0, 0)) := by
        have hTa : T < wa.heap.size := (Array.getElem?_eq_some_iff.1 HT.out).1
        have hkT : kl < T := Nat.lt_of_lt_of_le (lt_of hs.bl) hTl
        rw [Below.heap_setCell _ _ _ _ (by intro e; simp at e; omega)]
        refine (hg2.block T (Nat.lt_of_lt_of_le hTa hxl.size) (fun e => ?_)).trans ((hxl.block T hTa).trans HT.out)
        obtain ⟨cur', hc'⟩ := own_block40 hs.own e.symm
        have := (Array.getElem?_eq_some_iff.1 hc').1
        omega
      generalize w2.setCell ⟨kl, 0, none⟩ (.slice (some ⟨g, 0, none⟩) (us.length + 1) cp) = w3 at *
      have hf3 := hfr.keeps K3 fun k hk => .inr (hS5 k hk)
      have recs3 := hs.recs.keeps K3 hS5
      have hd3x := (OwnB.keeps hox K3a hSa).mono hb
      have hs2 : sizeR f ≤ 2056 := by unfold sizeR; split <;> omega
      have hfd := hf3.bytes.ext (Ext.refl w3).drew
      have cw := bw3.cell
      have zw := bw3.frozen
      clear hstay hnbl hlit hownl hown hone
      go_region_with (go_at_call 35; refine (size_any _ _ f hfd).mono ?_; rintro e w4 ⟨rfl, rfl⟩)
      all_goals
        rw [wrap_sum hw hs2]
        have bn5 := boxed_drew (boxed_other bn3 hd2 (.int .i64 ((whole + sizeR f : Nat) : Int)))
        have bl5 := boxed_drew (boxed_other bl3 hd3 (.int .i64 ((whole + sizeR f : Nat) : Int)))
        have bw5 := boxed_drew (boxed_set bw3 (.int .i64 ((whole + sizeR f : Nat) : Int)))
        have own5 := ownsRow_ext (own_other own3 hgkw (.int .i64 ((whole + sizeR f : Nat) : Int))) (Ext.refl _).drew
        have K5 := (K3.trans (Keeps.set (.inr (.inr (.inl rfl))) (.int .i64 ((whole + sizeR f : Nat) : Int)))).trans (Keeps.of_ext (Ext.refl _).drew)
        have hd5 := (OwnB.keeps hox ((K3a.trans (Keeps.set (.inr (.inr (.inl rfl))) (.int .i64 ((whole + sizeR f : Nat) : Int)))).trans (Keeps.of_ext (Ext.refl _).drew)) hSa).mono hb
        have hkwT : kw < T := Nat.lt_of_lt_of_le (lt_of hs.bw) hTl
        have hT5 : ((w3.setCell ⟨kw, 0, none⟩ (.int .i64 ((whole + sizeR f : Nat) : Int))).drew).heap[T]? = some (.cells #[.int .u64 n, .slice a m c] 40 (0, 0)) := by
          show (w3.setCell ⟨kw, 0, none⟩ (.int .i64 ((whole + sizeR f : Nat) : Int))).heap[T]? = _
          rw [Below.heap_setCell _ _ _ _ (by intro e; simp at e; omega)]
          exact hT3
        generalize (w3.setCell ⟨kw, 0, none⟩ (.int .i64 ((whole + sizeR f : Nat) : Int))).drew = w5 at *
        have ct := cell_of_row w5 T 0 _ _ _ hT5
        simp at ct
        have cn5 := bn5.cell
        have zn5 := bn5.frozen
        clear cw zw ht0 ht1 cn cl
        have HT5 := Lib.hid hT5
        clear hT5 hT3
        go_wp2_with fail
        go_ret
        have e6 : ((n : Int) + 1) = ((x.1 + 1 : Nat) : Int) := by rw [hx1']; omega
        rw [e6]
        refine .inr ⟨x, ⟨n, a, m, c⟩, _, rfl, HRF.out, by omega, ⟨boxed_set bn5 _, boxed_other bl5 (Ne.symm hd1) _, boxed_other bw5 (Ne.symm hd2) _, ?_, ?_⟩, K5.trans (Keeps.set (.inl rfl) _)⟩
        · rw [rsC_snoc, List.length_append]; exact own_other own5 hgkn _
        · exact (hs.recs.keeps (K5.trans (Keeps.set (.inl rfl) _)) hS5).snoc hx1' (own_set5 hd5 bn5 _)

end Go.Proofs.YtkaepcjkpaplfaaDoor
