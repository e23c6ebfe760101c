/- Spans that rise: how many there can be. No program is in sight.
The reference's Normal (pneumaticref04).
The law's Own (pneumaticlaw04): a predicate in memory of its own.
slices.Compact at values. -/
import Derived.WalkKit
import Derived.Lib.Hide
import Derived.Deep.CutBlock
import Derived.Deep.QuietTactic
import Derived.BigQuiet
import Derived.Deep.MidRow
import Derived.Outline
import Derived.Test.YtfkemgkbkhacmaaGreatPk6
import Derived.Test.YtfkemgkbkhacmaaGreatPk3
import Derived.Test.YtfkemgkbkhacmaaGreatPk5
namespace Go.Proofs.YtfkemgkbkhacmaaGreat

def Full (l : List Sp) : Prop := ∀ x ∈ l, Cut.lt x.lo x.hi = true
def Rise (l : List Sp) : Prop := Full l ∧ l.Pairwise fun x y => Cut.lt y.lo x.hi = false
theorem cut_asym {x y : Cut} (h : Cut.lt x y = true) : Cut.lt y x = false := by
  cases k : Cut.lt y x with
  | false => rfl
  | true => have := cut_trans h k; rw [cut_irr] at this; cases this
theorem minus1_split {s out : Sp} : minus1 s out = [s] ∨ (Cut.lt out.lo s.hi = true ∧ Cut.lt s.lo out.hi = true ∧ minus1 s out = fullS [⟨s.lo, out.lo⟩, ⟨out.hi, s.hi⟩]) := by
  unfold minus1
  by_cases hd : (!Cut.lt out.lo s.hi || !Cut.lt s.lo out.hi) = true
  · rw [if_pos hd]; exact .inl rfl
  · rw [if_neg hd]
    simp only [Bool.not_eq_true, Bool.or_eq_false_iff, Bool.not_eq_false'] at hd
    rw [if_pos hd.1, if_pos hd.2]
    exact .inr ⟨hd.1, hd.2, rfl⟩
theorem minus1_sub {s out x : Sp} (hs : Cut.lt s.lo s.hi = true) (h : x ∈ minus1 s out) : Cut.lt x.lo s.lo = false ∧ Cut.lt s.hi x.hi = false ∧ Cut.lt x.lo x.hi = true := by
  rcases minus1_split (s := s) (out := out) with e | ⟨h1, h2, e⟩
  · rw [e] at h
    rw [List.mem_singleton.1 h]
    exact ⟨cut_irr _, cut_irr _, hs⟩
  · rw [e] at h
    have h' := List.mem_filter.1 h
    rcases List.mem_cons.1 h'.1 with e | h3
    · subst e; exact ⟨cut_irr _, cut_asym h1, h'.2⟩
    · have e := List.mem_singleton.1 h3
      subst e; exact ⟨cut_asym h2, cut_irr _, h'.2⟩
theorem minus1_rise {s out : Sp} (ho : Cut.lt out.lo out.hi = true) : (minus1 s out).Pairwise fun x y => Cut.lt y.lo x.hi = false := by
  rcases minus1_split (s := s) (out := out) with e | ⟨_, _, e⟩
  · rw [e]; exact List.pairwise_singleton _ _
  · rw [e]
    refine List.Pairwise.filter _ (List.pairwise_cons.2 ⟨fun y hy => ?_, List.pairwise_singleton _ _⟩)
    rw [List.mem_singleton.1 hy]
    exact cut_asym ho
theorem minus1_two {s out : Sp} : (minus1 s out).length ≤ 1 ∨ ((minus1 s out).length = 2 ∧ Cut.lt s.lo out.lo = true ∧ Cut.lt out.hi s.hi = true) := by
  rcases minus1_split (s := s) (out := out) with e | ⟨_, _, e⟩
  · rw [e]; exact .inl (Nat.le_refl _)
  · rw [e]
    unfold fullS
    cases h1 : Cut.lt s.lo out.lo <;> cases h2 : Cut.lt out.hi s.hi <;> simp [h1, h2]
theorem flat_rise {out : Sp} (ho : Cut.lt out.lo out.hi = true) : ∀ {l : List Sp}, Rise l → Rise (l.flatMap fun s => minus1 s out) ∧ (l.flatMap fun s => minus1 s out).length ≤ l.length + 1
  | [], _ => ⟨⟨fun _ h => (by cases h), List.Pairwise.nil⟩, by simp⟩
  | s :: l, h => by
    have hp := List.pairwise_cons.1 h.2
    have hf : Full l := fun x hx => h.1 x (List.mem_cons_of_mem _ hx)
    have hs := h.1 s List.mem_cons_self
    obtain ⟨ih1, ih2⟩ := flat_rise ho ⟨hf, hp.2⟩
    rw [List.flatMap_cons]
    refine ⟨⟨fun x hx => ?_, List.pairwise_append.2 ⟨minus1_rise ho, ih1.2, fun x hx y hy => ?_⟩⟩, ?_⟩
    · rcases List.mem_append.1 hx with hx | hx
      · exact (minus1_sub hs hx).2.2
      · exact ih1.1 x hx
    · obtain ⟨t, ht, hy⟩ := List.mem_flatMap.1 hy
      have a := (minus1_sub (hf t ht) hy).1
      have b := hp.1 t ht
      have c := (minus1_sub hs hx).2.1
      exact cut_ntrans (cut_ntrans a b) c
    · rw [List.length_append, List.length_cons]
      rcases minus1_two (s := s) (out := out) with h1 | ⟨h1, h2, h3⟩
      · omega
      · have hl : ∀ m : List Sp, (∀ t ∈ m, (minus1 t out).length ≤ 1) → (m.flatMap fun s => minus1 s out).length ≤ m.length := fun m => by
          induction m with
          | nil => intro _; simp
          | cons t m ih =>
            intro hm
            have a := hm t List.mem_cons_self
            have b := ih fun u hu => hm u (List.mem_cons_of_mem _ hu)
            rw [List.flatMap_cons, List.length_append, List.length_cons]; omega
        have := hl l fun t ht => by
          rcases minus1_two (s := t) (out := out) with k | ⟨_, k2, k3⟩
          · exact k
          · exfalso
            have b := hp.1 t ht
            have e1 := cut_trans (cut_trans k2 ho) h3
            rw [b] at e1; cases e1
        omega
theorem minusL_rise : ∀ {m l : List Sp}, Full m → Rise l → Rise (minusL l m) ∧ (minusL l m).length ≤ l.length + m.length
  | [], l, _, h => ⟨h, Nat.le_refl _⟩
  | o :: m, l, hm, h => by
    obtain ⟨a, b⟩ := flat_rise (hm o List.mem_cons_self) h
    obtain ⟨c, d⟩ := minusL_rise (m := m) (fun x hx => hm x (List.mem_cons_of_mem _ hx)) a
    refine ⟨c, ?_⟩
    have : (minusL l (o :: m)).length ≤ (l.flatMap fun s => minus1 s o).length + m.length := d
    rw [List.length_cons]; omega

/-- Of no Kind more than n spans. -/
structure Few (n : Nat) (r : Rg) : Prop where
  i : r.i.length ≤ n
  s : r.s.length ≤ n
  b : r.b.length ≤ n
structure Rises (r : Rg) : Prop where
  i : Rise r.i
  s : Rise r.s
  b : Rise r.b
structure Fulls (r : Rg) : Prop where
  i : Full r.i
  s : Full r.s
  b : Full r.b
theorem Rises.full {r : Rg} (h : Rises r) : Fulls r := ⟨h.i.1, h.s.1, h.b.1⟩
theorem Good4.full {r : Rg} (h : Good4 r) : Fulls r := ⟨fun x hx => (h.i x hx).2.2, fun x hx => (h.s x hx).2.2, fun x hx => (h.b x hx).2.2⟩
theorem Few.mono {m n : Nat} {r : Rg} (h : Few m r) (k : m ≤ n) : Few n r := ⟨Nat.le_trans h.i k, Nat.le_trans h.s k, Nat.le_trans h.b k⟩
theorem Rises.minus {r q : Rg} (h : Rises r) (k : Fulls q) : Rises (r.minus q) := ⟨(minusL_rise k.i h.i).1, (minusL_rise k.s h.s).1, (minusL_rise k.b h.b).1⟩
theorem Few.minus {m n : Nat} {r q : Rg} (hr : Rises r) (hq : Fulls q) (h : Few m r) (k : Few n q) : Few (m + n) (r.minus q) := by
  have a := (minusL_rise hq.i hr.i).2
  have b := (minusL_rise hq.s hr.s).2
  have c := (minusL_rise hq.b hr.b).2
  have := h.i; have := h.s; have := h.b; have := k.i; have := k.s; have := k.b
  exact ⟨by show (minusL r.i q.i).length ≤ _; omega, by show (minusL r.s q.s).length ≤ _; omega, by show (minusL r.b q.b).length ≤ _; omega⟩
theorem Rises.and {r q : Rg} (h : Rises r) (k : Fulls q) : Rises (r.and q) := h.minus (h.minus k).full
theorem Few.and {m n : Nat} {r q : Rg} (hr : Rises r) (hq : Fulls q) (h : Few m r) (k : Few n q) : Few (m + (m + n)) (r.and q) := Few.minus hr (hr.minus hq).full h (Few.minus hr hq h k)
theorem rises_all : Rises allR := by
  have hg := good_all.full
  exact ⟨⟨hg.i, List.pairwise_singleton _ _⟩, ⟨hg.s, List.pairwise_singleton _ _⟩, ⟨hg.b, List.pairwise_singleton _ _⟩⟩
theorem few_all : Few 1 allR := ⟨Nat.le_refl _, Nat.le_refl _, Nat.le_refl _⟩
theorem rises_none : Rises noneR := ⟨⟨fun _ h => (by cases h), List.Pairwise.nil⟩, ⟨fun _ h => (by cases h), List.Pairwise.nil⟩, ⟨fun _ h => (by cases h), List.Pairwise.nil⟩⟩
theorem few_none : Few 0 noneR := ⟨Nat.le_refl _, Nat.le_refl _, Nat.le_refl _⟩
theorem few_set {n : Nat} (k : Int) {l : List Sp} (h : l.length ≤ n) : Few n (setR k l) := by
  unfold setR
  (repeat' split) <;> exact ⟨by simp <;> exact h, by simp <;> exact h, by simp <;> exact h⟩
theorem ofL_len (c : C) : (ofL c).length ≤ 2 := by
  unfold ofL fullS
  refine Nat.le_trans (List.length_filter_le _ _) ?_
  (repeat' split) <;> simp
theorem one_len (v : V) : (ofL ⟨[], 2, v, []⟩).length ≤ 1 := by
  unfold ofL fullS
  refine Nat.le_trans (List.length_filter_le _ _) ?_
  rw [if_pos rfl]; simp
theorem fold_few (l : List V) : ∀ (m : Nat) (r : Rg), Rises r → Few m r → Rises (l.foldl (fun r v => r.minus (oneV v)) r) ∧ Few (m + l.length) (l.foldl (fun r v => r.minus (oneV v)) r) := by
  induction l with
  | nil => intro m r h k; exact ⟨h, k⟩
  | cons v l ih =>
    intro m r h k
    have := ih (m + 1) (r.minus (oneV v)) (h.minus (good_one v).full) (Few.minus h (good_one v).full k (few_set _ (one_len v)))
    refine ⟨this.1, this.2.mono ?_⟩
    simp; omega
theorem may_set {c : C} (h : mayC c = true) : c.set.length ≤ 6 := by
  unfold mayC at h
  split at h
  · cases h
  · split at h
    · simp at h; rw [h.2]; simp
    · split at h
      · simp at h; rw [h.2]; simp
      · split at h
        · simp at h; rw [h.2]; simp
        · split at h
          · simp at h; omega
          · cases h
theorem few_of (c : C) : Few 8 (ofR c) := by
  unfold ofR
  by_cases hm : mayC c = true
  · rw [if_neg (by simp [hm])]
    have hs := may_set hm
    split
    · exact few_all.mono (by decide)
    · split
      · have := fold_few c.set 1 allR rises_all few_all
        exact (Few.minus rises_all this.1.full few_all this.2).mono (by omega)
      · exact (few_set _ (ofL_len c)).mono (by decide)
  · rw [if_pos (by simpa using hm)]
    exact few_none.mono (by decide)
theorem few_fold (name : List UInt8) (p : List C) : ∀ (m : Nat) (r : Rg), Rises r → Few m r → Rises (p.foldl (fun r c => if c.name = name then r.and (ofR c) else r) r) ∧ Few ((m + 8) * 2 ^ p.length) (p.foldl (fun r c => if c.name = name then r.and (ofR c) else r) r) := by
  induction p with
  | nil => intro m r h k; exact ⟨h, k.mono (by simp)⟩
  | cons c p ih =>
    intro m r h k
    have hp : (m + m + 8 + 8) * 2 ^ p.length ≤ (m + 8) * 2 ^ (c :: p).length := by
      rw [List.length_cons, Nat.pow_succ, Nat.mul_comm (2 ^ p.length) 2, ← Nat.mul_assoc]
      exact Nat.mul_le_mul_right _ (by omega)
    rw [List.foldl_cons]
    split
    · have := ih (m + m + 8) (r.and (ofR c)) (h.and (good_of c).full) ((Few.and h (good_of c).full k (few_of c)).mono (by omega))
      exact ⟨this.1, this.2.mono hp⟩
    · have := ih (m + m + 8) r h (k.mono (by omega))
      exact ⟨this.1, this.2.mono hp⟩
theorem few_asked (p : List C) (name : List UInt8) : Rises (askedF p name) ∧ Few 576 (askedF p name) := by
  unfold askedF
  by_cases hm : mayP p = true
  · rw [if_neg (by simp [hm])]
    have hl := may_len hm
    have := few_fold name p 1 allR rises_all few_all
    refine ⟨this.1, this.2.mono ?_⟩
    have : 2 ^ p.length ≤ 2 ^ 6 := Nat.pow_le_pow_right (by decide) hl
    omega
  · rw [if_pos (by simpa using hm)]
    exact ⟨rises_none, few_none.mono (by decide)⟩
end Go.Proofs.YtfkemgkbkhacmaaGreat

namespace Go.Proofs.YtfkemgkbkhacmaaGreat
open Go.RowKit

theorem cCut {ops : Array Oper} {Q : Exit → Act → World → Prop} {a : Act} {w : World} {rest : List Oper} {o : Oper}
    (x : Operand) (lo hi : Option Operand) (us : List CS) (n i j : Nat)
    (ho : o.op = .slice 23 x lo hi none)
    (hw : Region.wanted o (yielded ops a.tmps) = true) (hx : Row w 7 (a.eval x) n (us.flatMap csC))
    (hlo : BoundIs a lo 0 i) (hhi : BoundIs a hi n j) (hij : i ≤ j) (hj : j ≤ n)
    (h : ∀ v, Row w 7 v (j - i) (((us.take j).drop i).flatMap csC) → wpList Tryz.prog ops Q rest (a.put o.dst v) w) : wpList Tryz.prog ops Q (o :: rest) a w := by
  refine wpList_cut 23 37 x lo hi 7 n i j _ ho Tryz.underlying23 (by kernel_rfl) hw hx hlo hhi hij hj fun v hv => h v ?_
  rw [flat_take csC 7 csC_len, flat_drop csC 7 csC_len] at hv
  exact hv
theorem grown_setC (w : World) (b j : Nat) (v : Value) : w.grownBy (w.setCell ⟨b, j, none⟩ v) (some b) := by
  have h := Below.setCell (Below.refl b w) (p := ⟨b, j, none⟩) (Nat.le_refl _) v
  refine ⟨h.os, h.tape, h.output, by rw [World.size_setCell]; exact Nat.le_refl _, fun k hk hne => ?_⟩
  show (w.heap.modify b _)[k]? = w.heap[k]?
  rw [Array.getElem?_modify, if_neg (fun e => hne (by rw [← e]))]
theorem setCell_blockC (w : World) (b i : Nat) (v : Value) (c : Array Value) (t : TypeId) (fr : Nat × Nat) (h : w.heap[b]? = some (.cells c t fr)) : (w.setCell ⟨b, i, none⟩ v).heap[b]? = some (.cells (c.setIfInBounds i v) t fr) := by
  unfold World.setCell
  simp [Array.getElem?_modify, h]
theorem c_row (w : World) (x : CS) : Row (w.alloc (.cells (csC x).toArray 37)) 7 (.slice (some ⟨w.heap.size, 0, none⟩) 1 1) 1 (csC x) :=
  Row.of_own (World.ownsRow_lit (base := w.heap.size) (e := 37) (size := 7) w (csC x).toArray 1 (Nat.le_refl _) (by decide) rfl)
theorem cs_atP {w : World} {a : Option Addr} {n cap : Nat} {us : List CS} (h : Row w 7 (.slice a n cap) n (us.flatMap csC)) {k : Nat} (hk : k < us.length) (hn : 0 < n) :
    ∃ B o, a = some ⟨B, o, none⟩ ∧ ∀ j u, (csC us[k])[j]? = some u → j < 7 → w.cell? ⟨B, o + k * 7 + j, none⟩ = some u := by
  obtain ⟨B, o, rfl⟩ := Row.base h hn (by decide)
  refine ⟨B, o, rfl, fun j u hj h7 => ?_⟩
  have g0 := flat_get csC 7 csC_len us k hk j h7
  have := Row.cellAt h (j := k * 7 + j) (u := u) (g0.trans hj) hn
  rwa [← Nat.add_assoc] at this

set_option maxRecDepth 100000 in
set_option maxHeartbeats 2000000 in
theorem rnormal_no (w : World) (v : Value) (p : List C) (hp : PredR w v p) (hm : mayP p = false) : Calls Tryz.prog 6 #[v] w fun e w' => e = .returned (.tuple #[.slice none 0 0, .int .i64 30]) ∧ Ext w w' := by
  have hc := rpmay_any w v p hp
  rw [hm] at hc
  obtain ⟨a, cap, rfl, _, _⟩ := hp.shape
  have HC := Lib.hid hc
  clear hm hp hc
  generalize p.length = n at *
  go_enter Tryz.func6, Tryz.ntmps6
  go_wp2_with (go_at_call 9; (with_reducible refine HC.out.mono ?_); rintro e w1 ⟨rfl, hx1⟩; have HX1 := Lib.hid hx1; clear hx1)
  exact bodyPost_ret (v := .tuple #[.slice none 0 0, .int .i64 30]) (by simp [results, Tryz.results6, go_sem]) rfl ⟨rfl, HX1.out⟩

set_option maxRecDepth 100000 in
set_option maxHeartbeats 32000000 in
theorem rnormal_own (w : World) (v : Value) (p : List C) (hp : PredR w v p) (hm : mayP p = true) :
    Calls Tryz.prog 6 #[v] w fun e w' => ∃ (v' : Value) (us : List CS), e = .returned (.tuple #[v', .int .i64 0]) ∧ us.map CS.c = normP p ∧ w'.ownsRow w.heap.size 37 7 v' us.length (us.flatMap csC) ∧ (∀ x ∈ us, SetO w.heap.size w' x) ∧ Ext w w' := by
  have hmc := rpmay_any w v p hp
  rw [hm] at hmc
  have hl6 := may_len hm
  have hall := Lib.hid (may_all hm)
  obtain ⟨a, cap, rfl, hc, hcm⟩ := hp.shape
  unfold maxLen at hcm
  have HP := Lib.hid hp
  have HMC := Lib.hid hmc
  clear hm hp hmc
  obtain ⟨n, hn⟩ : ∃ n, n = p.length := ⟨_, rfl⟩
  have HN := Lib.hid hn
  rw [← hn] at hc hl6 ⊢ HP HMC
  clear hn
  go_enter Tryz.func6, Tryz.ntmps6
  go_upto_region 3 with (go_at_call 9; (with_reducible refine HMC.out.mono ?_); rintro e wm ⟨rfl, hx1⟩; have HXM := Lib.hid hx1; clear hx1 HMC)
  go_wp2_with fail
  go_loopw [4, 5] (fun vo i wr => ∃ (k : Nat) (us : List CS), k ≤ n ∧ i = .int .i64 k ∧ Hid (us.map CS.c = sortU orderC ((p.take k).map normC)) ∧ Hid (wr.ownsRow w.heap.size 37 7 vo us.length (us.flatMap csC)) ∧ Hid (∀ x ∈ us, SetO w.heap.size wr x) ∧ Hid (Ext w wr)) (fun _ i _ => n - (intOf i).toNat)
  case atStart => exact ⟨0, [], Nat.zero_le _, rfl, rfl, own_none _ _ _ _, (fun _ h => (by cases h)), HXM.out⟩
  case round =>
    clear HXM
    obtain ⟨k, us, hk, rfl, hus, hown, hset, hx⟩ := hrel
    by_cases hlt : k < n
    · have hI : decide ((k : Int) < (n : Int)) = true := decide_eq_true (by omega)
      have hkN : (k : Int) < (n : Int) := by omega
      have hkl : k < p.length := by have := HN.out; omega
      obtain ⟨B, o, sa, sc, rfl, f0, f1, f2, f3, f4, f5, f6, fs⟩ := (HP.out.ext hx.out).at hkl
      have hmk := hall.out p[k] (List.getElem_mem hkl)
      have hst : sortU orderC ((p.take (k + 1)).map normC) = insU orderC (normC p[k]) (us.map CS.c) := by rw [List.take_succ_eq_append_getElem hkl, List.map_append, hus.out]; exact sortU_snoc _ _
      have HST := Lib.hid hst
      have hmlen : us.length ≤ k := by
        have h1 := congrArg List.length hus.out
        rw [List.length_map] at h1
        have h2 := sortU_len (cf := orderC) ((p.take k).map normC)
        rw [List.length_map, List.length_take] at h2
        omega
      clear hst hus
      generalize p[k] = c at *
      have hs6 := may_set hmk
      go_upto_region 8 with fail
      obtain ⟨hxa, hba⟩ := boxes1 wr (.cells #[.string (strOf c.name), .int .i64 c.op, .int .i64 c.v.k, .int .i64 c.v.n, .string (strOf c.v.s), .bool c.v.b, .slice sa c.set.length sc] 37)
      have q6 := cell_of_row _ _ 6 _ _ _ hba
      have hcall := rset_any _ _ c.set (SetR.ext fs hxa) hs6
      have HCALL := Lib.hid hcall
      have HXA := Lib.hid (hx.out.trans hxa)
      have HBA := Lib.hid hba
      have HOA := Lib.hid (own_ext hown.out hxa)
      have HSA : Hid (∀ x ∈ us, SetO w.heap.size (wr.alloc (.cells #[.string (strOf c.name), .int .i64 c.op, .int .i64 c.v.k, .int .i64 c.v.n, .string (strOf c.v.s), .bool c.v.b, .slice sa c.set.length sc] 37)) x) := fun x hm => (hset.out x hm).ext hxa
      have hbx : w.heap.size ≤ wr.heap.size := hx.out.size
      have hsz : (wr.alloc (.cells #[.string (strOf c.name), .int .i64 c.op, .int .i64 c.v.k, .int .i64 c.v.n, .string (strOf c.v.s), .bool c.v.b, .slice sa c.set.length sc] 37)).heap.size = wr.heap.size + 1 := World.size_alloc _ _
      have hbl : ∀ q, u4.ownBlock = some q → q < wr.heap.size := own_lt hown.out
      have HBL := Lib.hid hbl
      clear hcall hxa hba hown hset f0 f1 f2 f3 f4 f5 f6 fs hx hbl
      generalize hbxn : wr.heap.size = bx at *
      clear hbxn
      generalize wr.alloc (.cells #[.string (strOf c.name), .int .i64 c.op, .int .i64 c.v.k, .int .i64 c.v.n, .string (strOf c.v.s), .bool c.v.b, .slice sa c.set.length sc] 37) = wa at *
      go_upto_block 2 with (go_at_call 23; (with_reducible refine HCALL.out.mono ?_); rintro e w4 ⟨v4, rfl, ho4, hx4⟩; obtain ⟨a4, c4, rfl, _, _⟩ := own_shape ho4; have HO4 := Lib.hid ho4; have HX4 := Lib.hid hx4; have hba4 := block_later HBA.out hx4; have z6 := frozen_of_row _ _ 6 _ _ hba4; have z6c := cell_of_row _ _ 6 _ _ _ hba4; have HBA4 := Lib.hid hba4; clear ho4 hx4 hba4)
      have hg5 := grown_setC w4 bx 6 (.slice a4 (sortU cmpV c.set).length c4)
      have hb5 := setCell_blockC w4 bx 6 (.slice a4 (sortU cmpV c.set).length c4) _ _ _ HBA4.out
      have ho5 := own_keep (own_ext HOA.out HX4.out) hg5 (fun q hq e => by have h1 := HBL.out q hq; have h2 : bx = q := Option.some.inj e; omega)
      have hs5 : ∀ x ∈ us, SetO w.heap.size (w4.setCell ⟨bx, 6, none⟩ (.slice a4 (sortU cmpV c.set).length c4)) x := fun x hm => own_keep ((HSA.out x hm).ext HX4.out) hg5 (fun q hq e => own_ne ((HSA.out x hm).ext HX4.out) HBA4.out (by decide) (hq.trans e.symm))
      have hx5 : SetO w.heap.size (w4.setCell ⟨bx, 6, none⟩ (.slice a4 (sortU cmpV c.set).length c4)) ⟨normC c, .slice a4 (sortU cmpV c.set).length c4⟩ := own_keep (own_low HO4.out (by have := HXA.out.size; omega)) hg5 (fun q hq e => own_ne HO4.out HBA4.out (by decide) (hq.trans e.symm))
      have hxx5 : Ext w (w4.setCell ⟨bx, 6, none⟩ (.slice a4 (sortU cmpV c.set).length c4)) := (HXA.out.trans HX4.out).setCell hbx _
      have HB5 : Hid ((w4.setCell ⟨bx, 6, none⟩ (.slice a4 (sortU cmpV c.set).length c4)).heap[bx]? = some (.cells #[.string (strOf c.name), .int .i64 c.op, .int .i64 c.v.k, .int .i64 c.v.n, .string (strOf c.v.s), .bool c.v.b, .slice a4 (sortU cmpV c.set).length c4] 37 (0, 0))) := hb5
      have HOUT := Lib.hid ho5
      have HSETS := Lib.hid hs5
      have HXSET := Lib.hid hx5
      have HX5 := Lib.hid hxx5
      clear hg5 hb5 ho5 hs5 hx5 hxx5 HBA4 HX4 HO4 HOA HSA HXA HBA z6 z6c q6
      generalize w4.setCell ⟨bx, 6, none⟩ (.slice a4 (sortU cmpV c.set).length c4) = w5 at *
      obtain ⟨x, hxd⟩ : ∃ x : CS, x = ⟨normC c, .slice a4 (sortU cmpV c.set).length c4⟩ := ⟨_, rfl⟩
      have HXD := Lib.hid hxd
      have hxc : x.c = normC c := by rw [hxd]
      rw [← hxd] at HXSET
      rw [← hxc] at HST
      have HXC := Lib.hid hxc
      clear hxd hxc
      obtain ⟨ao, co, hvo, hco, hmo⟩ := own_shape HOUT.out
      obtain ⟨m, hm'⟩ : ∃ m, m = us.length := ⟨_, rfl⟩
      have HM := Lib.hid hm'
      rw [hvo, ← hm'] at HOUT
      rw [hvo]
      rw [← hm'] at hmlen hco ⊢
      have hm6 : m ≤ 6 := by omega
      clear hvo hm'
      unfold maxLen at hmo
      have b0 := cell_of_row _ _ 0 _ _ _ HB5.out
      have b1 := cell_of_row _ _ 1 _ _ _ HB5.out
      have b2 := cell_of_row _ _ 2 _ _ _ HB5.out
      have b3 := cell_of_row _ _ 3 _ _ _ HB5.out
      have b4 := cell_of_row _ _ 4 _ _ _ HB5.out
      have b5 := cell_of_row _ _ 5 _ _ _ HB5.out
      have b6 := cell_of_row _ _ 6 _ _ _ HB5.out
      have hord : ∀ (W : World) (y : CS), Ext w5 W → y ∈ us → ∀ ya yc, y.h = .slice ya y.c.set.length yc → Calls Tryz.prog 15 #[.agg #[.string (strOf y.c.name), .int .i64 y.c.op, .int .i64 y.c.v.k, .int .i64 y.c.v.n, .string (strOf y.c.v.s), .bool y.c.v.b, .slice ya y.c.set.length yc], .agg #[.string (strOf c.name), .int .i64 c.op, .int .i64 c.v.k, .int .i64 c.v.n, .string (strOf c.v.s), .bool c.v.b, .slice a4 (sortU cmpV c.set).length c4]] W fun e w' => e = .returned (.int .i64 (orderC y.c x.c)) ∧ Ext W w' := fun W y hW hy ya yc hyh => by
        have h1 := ((HSETS.out y hy).ext hW).set
        rw [hyh] at h1
        have h2 := (HXSET.out.ext hW).set
        rw [HXD.out] at h2
        rw [HXC.out]
        exact rorder_any W y.c (normC c) ya yc a4 c4 h1 h2
      have HORD := Lib.hid hord
      clear hord
      go_cut [7] from 26 to 40 (fun v7 wx => ∃ j : Nat, v7 = .int .i64 j ∧ j ≤ m ∧ Hid (∀ q (hq : q < us.length), q < j → orderC us[q].c x.c < 0) ∧ Hid (∀ hq : j < us.length, ¬ orderC us[j].c x.c < 0) ∧ Hid (Ext w5 wx))
      case first =>
        go_wp2_with fail
        go_loopw [7] (fun i wq => ∃ j : Nat, j ≤ m ∧ i = .int .i64 j ∧ Hid (∀ q (hq : q < us.length), q < j → orderC us[q].c x.c < 0) ∧ Hid (Ext w5 wq)) (fun i _ => m - (intOf i).toNat)
        case atStart => exact ⟨0, Nat.zero_le _, rfl, fun q _ h => absurd h (Nat.not_lt_zero _), Ext.refl _⟩
        case round =>
          obtain ⟨j, hj, rfl, hlow, hxq⟩ := hrel
          by_cases hjm : j < m
          · have hJ : decide ((j : Int) < (m : Int)) = true := decide_eq_true (by omega)
            have hjM : (j : Int) < (m : Int) := by omega
            have hjl : j < us.length := by have := HM.out; omega
            have hro : Row wr 7 (.slice ao m co) m (us.flatMap csC) := Row.ext (Row.of_own HOUT.out) hxq.out
            obtain ⟨B1, o1, rfl, gg⟩ := cs_atP hro hjl (by omega)
            have hup : orderC us[j].c x.c < 0 → ∀ q (hq : q < us.length), q < j + 1 → orderC us[q].c x.c < 0 := fun e q hq h => by
              by_cases hqj : q = j
              · subst hqj; exact e
              · exact hlow.out q hq (by omega)
            have HUP := Lib.hid hup
            have hym : us[j] ∈ us := List.getElem_mem hjl
            obtain ⟨y, hy⟩ : ∃ y, y = us[j] := ⟨_, rfl⟩
            have HY := Lib.hid hy
            rw [← hy] at gg HUP hym
            obtain ⟨ya, yc, hyh, _, _⟩ := Row.shape (HSETS.out y hym).set
            have HC := Lib.hid (fun (W : World) (hW : Ext w5 W) => HORD.out W y hW hym ya yc hyh)
            have g0 := gg 0 _ rfl (by decide)
            have g1 := gg 1 _ rfl (by decide)
            have g2 := gg 2 _ rfl (by decide)
            have g3 := gg 3 _ rfl (by decide)
            have g4 := gg 4 _ rfl (by decide)
            have g5 := gg 5 _ rfl (by decide)
            have g6 := gg 6 _ rfl (by decide)
            rw [hyh] at g6
            rw [Nat.add_zero] at g0
            clear hro hup hy gg hym hyh
            generalize hr : orderC y.c x.c = r at *
            have HRR := Lib.hid hr
            clear hr
            by_cases hneg : r < 0
            · have hd : decide (r < 0) = true := decide_eq_true hneg
              go_upto_region 10 with fail
              refine wp_region_facts [Fact.eq (.int .i64 j),
                  Fact.eq (.slice (some ⟨B1, o1, none⟩) m co),
                  Fact.eq (.int .i64 m),
                  Fact.eq (.bool true),
                  Fact.eq (.bool true),
                  Fact.eq (.slice (some ⟨B1, o1, none⟩) m co),
                  Fact.eq (.int .i64 j),
                  Fact.eq (.pointer (some ⟨B1, o1 + j * 7, none⟩)),
                  Fact.eq (.agg #[.string (strOf y.c.name), .int .i64 y.c.op, .int .i64 y.c.v.k, .int .i64 y.c.v.n, .string (strOf y.c.v.s), .bool y.c.v.b, .slice ya y.c.set.length yc]),
                  Fact.eq (.agg #[.string (strOf c.name), .int .i64 c.op, .int .i64 c.v.k, .int .i64 c.v.n, .string (strOf c.v.s), .bool c.v.b, .slice a4 (sortU cmpV c.set).length c4]),
                  Fact.eq (.int .i64 r),
                  Fact.eq (.bool true),
                  Fact.eq (.bool true)]
                [[], [], [(1, 27)], [(0, 26), (2, 28)], [(3, 29)], [(4, 30)], [(4, 30)], [(5, 31), (6, 32), (4, 30)], [(7, 33), (4, 30)], [(4, 30)], [(8, 34), (9, 35), (4, 30)], [(10, 36), (4, 30)], [(4, 30), (11, 37)]]
                [(0, 26), (1, 27), (2, 28), (3, 29), (4, 30), (5, 31), (6, 32), (7, 33), (8, 34), (9, 35), (10, 36), (11, 37), (12, 38)] (by kernel_rfl) (by kernel_rfl) ?_ ?_
              · refine ⟨?_, ?_, ?_, ?_, ?_, ?_, ?_, ?_, ?_, ?_, ?_, ?_, ?_, trivial⟩
                · intro w1 hx1; change wpList _ _ _ _ _ _; exact ob_move rfl rfl rfl rfl rfl
                · intro w1 hx1; change wpList _ _ _ _ _ _; exact ob_move rfl rfl rfl rfl rfl
                · intro w1 hx1; rintro _ rfl; change wpList _ _ _ _ _ _; go_wp2_with fail; exact ⟨rfl, Ext.refl _, rfl, rfl⟩
                · intro w1 hx1; rintro _ rfl; rintro _ rfl; change wpList _ _ _ _ _ _; go_wp2_with fail; exact ⟨rfl, Ext.refl _, rfl, rfl⟩
                · intro w1 hx1; rintro _ rfl; change wpList _ _ _ _ _ _; exact ob_move rfl rfl rfl rfl rfl
                · intro w1 hx1; rintro _ rfl; change wpList _ _ _ _ _ _; exact ob_move rfl rfl rfl rfl rfl
                · intro w1 hx1; rintro _ rfl; change wpList _ _ _ _ _ _; exact ob_move rfl rfl rfl rfl rfl
                · intro w1 hx1; rintro _ rfl; rintro _ rfl; rintro _ rfl; change wpList _ _ _ _ _ _; go_wp2_with fail; exact ⟨rfl, Ext.refl _, rfl, rfl⟩
                · intro w1 hx1; rintro _ rfl; rintro _ rfl; change wpList _ _ _ _ _ _; have m0 := hx1.cell g0; have m1 := hx1.cell g1; have m2 := hx1.cell g2; have m3 := hx1.cell g3; have m4 := hx1.cell g4; have m5 := hx1.cell g5; have m6 := hx1.cell g6; go_wp2_with fail; exact ⟨rfl, Ext.refl _, rfl, rfl⟩
                · intro w1 hx1; rintro _ rfl; change wpList _ _ _ _ _ _; have hxx := hxq.out.trans hx1; have m0 := hxx.cell b0; have m1 := hxx.cell b1; have m2 := hxx.cell b2; have m3 := hxx.cell b3; have m4 := hxx.cell b4; have m5 := hxx.cell b5; have m6 := hxx.cell b6; go_wp2_with fail; exact ⟨rfl, Ext.refl _, rfl, rfl⟩
                · intro w1 hx1; rintro _ rfl; rintro _ rfl; rintro _ rfl; change wpList _ _ _ _ _ _; go_wp2_with fail; (with_reducible refine (HC.out _ (hxq.out.trans hx1)).mono ?_); rintro e w7 ⟨rfl, hx2⟩; go_wp2_with fail; exact ⟨rfl, hx2, rfl, rfl⟩
                · intro w1 hx1; rintro _ rfl; rintro _ rfl; change wpList _ _ _ _ _ _; go_wp2_with fail; exact ⟨rfl, Ext.refl _, rfl, rfl⟩
                · intro w1 hx1; rintro _ rfl; rintro _ rfl; change wpList _ _ _ _ _ _; exact ob_pick rfl rfl rfl rfl rfl rfl
              · intro w1 hx1; rintro _ rfl; rintro _ rfl; rintro _ rfl; rintro _ rfl; rintro _ rfl; rintro _ rfl; rintro _ rfl; rintro _ rfl; rintro _ rfl; rintro _ rfl; rintro _ rfl; rintro _ rfl; rintro _ rfl; refine depsThen_nil ?_; dsimp only; simp only [Act.put, List.setIfInBounds_toArray, List.set_cons_zero, List.set_cons_succ]
                have HXQ := Lib.hid (hxq.out.trans hx1)
                clear g0 g1 g2 g3 g4 g5 g6 hx1 hxq
                go_wp2_with fail
                go_roundw
                case rel => exact ⟨j + 1, hjm, by go_num, HUP.out hneg, HXQ.out⟩
                case measure => simp [intOf]; omega
            · have hd : decide (r < 0) = false := decide_eq_false hneg
              go_upto_region 10 with fail
              refine wp_region_facts [Fact.eq (.int .i64 j),
                  Fact.eq (.slice (some ⟨B1, o1, none⟩) m co),
                  Fact.eq (.int .i64 m),
                  Fact.eq (.bool true),
                  Fact.eq (.bool true),
                  Fact.eq (.slice (some ⟨B1, o1, none⟩) m co),
                  Fact.eq (.int .i64 j),
                  Fact.eq (.pointer (some ⟨B1, o1 + j * 7, none⟩)),
                  Fact.eq (.agg #[.string (strOf y.c.name), .int .i64 y.c.op, .int .i64 y.c.v.k, .int .i64 y.c.v.n, .string (strOf y.c.v.s), .bool y.c.v.b, .slice ya y.c.set.length yc]),
                  Fact.eq (.agg #[.string (strOf c.name), .int .i64 c.op, .int .i64 c.v.k, .int .i64 c.v.n, .string (strOf c.v.s), .bool c.v.b, .slice a4 (sortU cmpV c.set).length c4]),
                  Fact.eq (.int .i64 r),
                  Fact.eq (.bool false),
                  Fact.eq (.bool false)]
                [[], [], [(1, 27)], [(0, 26), (2, 28)], [(3, 29)], [(4, 30)], [(4, 30)], [(5, 31), (6, 32), (4, 30)], [(7, 33), (4, 30)], [(4, 30)], [(8, 34), (9, 35), (4, 30)], [(10, 36), (4, 30)], [(4, 30), (11, 37)]]
                [(0, 26), (1, 27), (2, 28), (3, 29), (4, 30), (5, 31), (6, 32), (7, 33), (8, 34), (9, 35), (10, 36), (11, 37), (12, 38)] (by kernel_rfl) (by kernel_rfl) ?_ ?_
              · refine ⟨?_, ?_, ?_, ?_, ?_, ?_, ?_, ?_, ?_, ?_, ?_, ?_, ?_, trivial⟩
                · intro w1 hx1; change wpList _ _ _ _ _ _; exact ob_move rfl rfl rfl rfl rfl
                · intro w1 hx1; change wpList _ _ _ _ _ _; exact ob_move rfl rfl rfl rfl rfl
                · intro w1 hx1; rintro _ rfl; change wpList _ _ _ _ _ _; go_wp2_with fail; exact ⟨rfl, Ext.refl _, rfl, rfl⟩
                · intro w1 hx1; rintro _ rfl; rintro _ rfl; change wpList _ _ _ _ _ _; go_wp2_with fail; exact ⟨rfl, Ext.refl _, rfl, rfl⟩
                · intro w1 hx1; rintro _ rfl; change wpList _ _ _ _ _ _; exact ob_move rfl rfl rfl rfl rfl
                · intro w1 hx1; rintro _ rfl; change wpList _ _ _ _ _ _; exact ob_move rfl rfl rfl rfl rfl
                · intro w1 hx1; rintro _ rfl; change wpList _ _ _ _ _ _; exact ob_move rfl rfl rfl rfl rfl
                · intro w1 hx1; rintro _ rfl; rintro _ rfl; rintro _ rfl; change wpList _ _ _ _ _ _; go_wp2_with fail; exact ⟨rfl, Ext.refl _, rfl, rfl⟩
                · intro w1 hx1; rintro _ rfl; rintro _ rfl; change wpList _ _ _ _ _ _; have m0 := hx1.cell g0; have m1 := hx1.cell g1; have m2 := hx1.cell g2; have m3 := hx1.cell g3; have m4 := hx1.cell g4; have m5 := hx1.cell g5; have m6 := hx1.cell g6; go_wp2_with fail; exact ⟨rfl, Ext.refl _, rfl, rfl⟩
                · intro w1 hx1; rintro _ rfl; change wpList _ _ _ _ _ _; have hxx := hxq.out.trans hx1; have m0 := hxx.cell b0; have m1 := hxx.cell b1; have m2 := hxx.cell b2; have m3 := hxx.cell b3; have m4 := hxx.cell b4; have m5 := hxx.cell b5; have m6 := hxx.cell b6; go_wp2_with fail; exact ⟨rfl, Ext.refl _, rfl, rfl⟩
                · intro w1 hx1; rintro _ rfl; rintro _ rfl; rintro _ rfl; change wpList _ _ _ _ _ _; go_wp2_with fail; (with_reducible refine (HC.out _ (hxq.out.trans hx1)).mono ?_); rintro e w7 ⟨rfl, hx2⟩; go_wp2_with fail; exact ⟨rfl, hx2, rfl, rfl⟩
                · intro w1 hx1; rintro _ rfl; rintro _ rfl; change wpList _ _ _ _ _ _; go_wp2_with fail; exact ⟨rfl, Ext.refl _, rfl, rfl⟩
                · intro w1 hx1; rintro _ rfl; rintro _ rfl; change wpList _ _ _ _ _ _; exact ob_pick rfl rfl rfl rfl rfl rfl
              · intro w1 hx1; rintro _ rfl; rintro _ rfl; rintro _ rfl; rintro _ rfl; rintro _ rfl; rintro _ rfl; rintro _ rfl; rintro _ rfl; rintro _ rfl; rintro _ rfl; rintro _ rfl; rintro _ rfl; rintro _ rfl; refine depsThen_nil ?_; dsimp only; simp only [Act.put, List.setIfInBounds_toArray, List.set_cons_zero, List.set_cons_succ]
                have HXQ := Lib.hid (hxq.out.trans hx1)
                clear g0 g1 g2 g3 g4 g5 g6 hx1 hxq
                go_wp2_with fail
                go_meet
                case rel => exact ⟨j, rfl, hj, hlow.out, fun hq => by have h1 := HRR.out; rw [HY.out] at h1; rw [h1]; exact hneg, HXQ.out⟩
          · obtain rfl : j = m := by omega
            have hJ : decide ((j : Int) < (j : Int)) = false := decide_eq_false (by omega)
            go_upto_region 10 with fail
            refine wp_region_facts [Fact.eq (.int .i64 j),
                Fact.eq (.slice ao j co),
                Fact.eq (.int .i64 j),
                Fact.eq (.bool false),
                Fact.eq (.bool false),
                Fact.eq undef,
                Fact.eq undef,
                Fact.eq undef,
                Fact.eq undef,
                Fact.eq undef,
                Fact.eq undef,
                Fact.eq undef,
                Fact.eq (.bool false)]
              [[], [], [(1, 27)], [(0, 26), (2, 28)], [(3, 29)], [(4, 30)], [(4, 30)], [(5, 31), (6, 32), (4, 30)], [(7, 33), (4, 30)], [(4, 30)], [(8, 34), (9, 35), (4, 30)], [(10, 36), (4, 30)], [(4, 30), (11, 37)]]
              [(0, 26), (1, 27), (2, 28), (3, 29), (4, 30), (5, 31), (6, 32), (7, 33), (8, 34), (9, 35), (10, 36), (11, 37), (12, 38)] (by kernel_rfl) (by kernel_rfl) ?_ ?_
            · refine ⟨?_, ?_, ?_, ?_, ?_, ?_, ?_, ?_, ?_, ?_, ?_, ?_, ?_, trivial⟩
              · intro w1 hx1; change wpList _ _ _ _ _ _; exact ob_move rfl rfl rfl rfl rfl
              · intro w1 hx1; change wpList _ _ _ _ _ _; exact ob_move rfl rfl rfl rfl rfl
              · intro w1 hx1; rintro _ rfl; change wpList _ _ _ _ _ _; go_wp2_with fail; exact ⟨rfl, Ext.refl _, rfl, rfl⟩
              · intro w1 hx1; rintro _ rfl; rintro _ rfl; change wpList _ _ _ _ _ _; go_wp2_with fail; exact ⟨rfl, Ext.refl _, rfl, rfl⟩
              · intro w1 hx1; rintro _ rfl; change wpList _ _ _ _ _ _; exact ob_move rfl rfl rfl rfl rfl
              · intro w1 hx1; rintro _ rfl; change wpList _ _ _ _ _ _; exact ob_skip rfl rfl rfl rfl
              · intro w1 hx1; rintro _ rfl; change wpList _ _ _ _ _ _; exact ob_skip rfl rfl rfl rfl
              · intro w1 hx1; rintro _ rfl; rintro _ rfl; rintro _ rfl; change wpList _ _ _ _ _ _; exact ob_skip rfl rfl rfl rfl
              · intro w1 hx1; rintro _ rfl; rintro _ rfl; change wpList _ _ _ _ _ _; exact ob_skip rfl rfl rfl rfl
              · intro w1 hx1; rintro _ rfl; change wpList _ _ _ _ _ _; exact ob_skip rfl rfl rfl rfl
              · intro w1 hx1; rintro _ rfl; rintro _ rfl; rintro _ rfl; change wpList _ _ _ _ _ _; exact ob_skip rfl rfl rfl rfl
              · intro w1 hx1; rintro _ rfl; rintro _ rfl; change wpList _ _ _ _ _ _; exact ob_skip rfl rfl rfl rfl
              · intro w1 hx1; rintro _ rfl; rintro _ rfl; change wpList _ _ _ _ _ _; exact ob_pick rfl rfl rfl rfl rfl rfl
            · intro w1 hx1; rintro _ rfl; rintro _ rfl; rintro _ rfl; rintro _ rfl; rintro _ rfl; rintro _ rfl; rintro _ rfl; rintro _ rfl; rintro _ rfl; rintro _ rfl; rintro _ rfl; rintro _ rfl; rintro _ rfl; refine depsThen_nil ?_; dsimp only; simp only [Act.put, List.setIfInBounds_toArray, List.set_cons_zero, List.set_cons_succ]
              have HXQ := Lib.hid (hxq.out.trans hx1)
              go_wp2_with fail
              go_meet
              case rel => exact ⟨j, rfl, Nat.le_refl _, hlow.out, fun hq => absurd hq (by rw [← HM.out]; exact Nat.lt_irrefl _), HXQ.out⟩
      case rest =>
        obtain ⟨j, rfl, hj, hlow, hhi, hxc⟩ := hcut
        have hlowm : ∀ q (hq : q < (us.map CS.c).length), q < j → orderC (us.map CS.c)[q] x.c < 0 := fun q hq h => by rw [List.getElem_map]; exact hlow.out q (by rwa [List.length_map] at hq) h
        have HLOWM := Lib.hid hlowm
        have hhere : (∀ h : j < us.length, 0 < orderC us[j].c x.c) → (us.take j ++ x :: us.drop j).map CS.c = sortU orderC ((p.take (k + 1)).map normC) := fun h => by
          rw [HST.out, insU_here orderC x.c (l := us.map CS.c) (k := j) (by rw [List.length_map, ← HM.out]; exact hj) hlowm (fun hq => by rw [List.getElem_map]; exact h (by rwa [List.length_map] at hq))]
          rw [List.map_append, List.map_cons, List.map_take, List.map_drop]
        have HHERE0 := Lib.hid hhere
        clear hlowm hhere
        by_cases hjm : j < m
        · have hJ : decide ((j : Int) < (m : Int)) = true := decide_eq_true (by omega)
          have hjM : (j : Int) < (m : Int) := by omega
          have hjl : j < us.length := by have := HM.out; omega
          have hro : Row wc 7 (.slice ao m co) m (us.flatMap csC) := Row.ext (Row.of_own HOUT.out) hxc.out
          obtain ⟨B1, o1, rfl, gg⟩ := cs_atP hro hjl (by omega)
          have hym : us[j] ∈ us := List.getElem_mem hjl
          have hnl := hhi.out hjl
          have hstop : orderC us[j].c x.c = 0 → us.map CS.c = sortU orderC ((p.take (k + 1)).map normC) := fun e => by
            rw [HST.out, insU_stop orderC x.c (l := us.map CS.c) (k := j) (by rw [List.length_map]; exact hjl) HLOWM.out (by rw [List.getElem_map]; exact e)]
          have hgo : orderC us[j].c x.c ≠ 0 → (us.take j ++ x :: us.drop j).map CS.c = sortU orderC ((p.take (k + 1)).map normC) := fun e => HHERE0.out fun _ => by omega
          have HSTOP := Lib.hid hstop
          have HGO := Lib.hid hgo
          clear hstop hgo
          obtain ⟨y, hy⟩ : ∃ y, y = us[j] := ⟨_, rfl⟩
          rw [← hy] at gg hym hnl HSTOP HGO
          obtain ⟨ya, yc, hyh, _, _⟩ := Row.shape (HSETS.out y hym).set
          have HC := Lib.hid (fun (W : World) (hW : Ext w5 W) => HORD.out W y hW hym ya yc hyh)
          have g0 := gg 0 _ rfl (by decide)
          have g1 := gg 1 _ rfl (by decide)
          have g2 := gg 2 _ rfl (by decide)
          have g3 := gg 3 _ rfl (by decide)
          have g4 := gg 4 _ rfl (by decide)
          have g5 := gg 5 _ rfl (by decide)
          have g6 := gg 6 _ rfl (by decide)
          rw [hyh] at g6
          rw [Nat.add_zero] at g0
          clear hro hy gg hym hyh
          generalize orderC y.c x.c = r at *
          by_cases hz : r = 0
          · have hd : (r == 0) = true := beq_iff_eq.2 hz
            have HEQ := Lib.hid (HSTOP.out hz)
            clear hz hnl
            go_upto_region 12 with fail
            refine wp_region_facts [Fact.eq (.int .i64 j),
                Fact.eq (.slice (some ⟨B1, o1, none⟩) m co),
                Fact.eq (.int .i64 m),
                Fact.eq (.bool true),
                Fact.eq (.bool true),
                Fact.eq (.slice (some ⟨B1, o1, none⟩) m co),
                Fact.eq (.int .i64 j),
                Fact.eq (.pointer (some ⟨B1, o1 + j * 7, none⟩)),
                Fact.eq (.agg #[.string (strOf y.c.name), .int .i64 y.c.op, .int .i64 y.c.v.k, .int .i64 y.c.v.n, .string (strOf y.c.v.s), .bool y.c.v.b, .slice ya y.c.set.length yc]),
                Fact.eq (.agg #[.string (strOf c.name), .int .i64 c.op, .int .i64 c.v.k, .int .i64 c.v.n, .string (strOf c.v.s), .bool c.v.b, .slice a4 (sortU cmpV c.set).length c4]),
                Fact.eq (.int .i64 r),
                Fact.eq (.bool true),
                Fact.eq (.bool true)]
              [[], [], [(1, 42)], [(0, 41), (2, 43)], [(3, 44)], [(4, 45)], [(4, 45)], [(5, 46), (6, 47), (4, 45)], [(7, 48), (4, 45)], [(4, 45)], [(8, 49), (9, 50), (4, 45)], [(10, 51), (4, 45)], [(4, 45), (11, 52)]]
              [(0, 41), (1, 42), (2, 43), (3, 44), (4, 45), (5, 46), (6, 47), (7, 48), (8, 49), (9, 50), (10, 51), (11, 52), (12, 53)] (by kernel_rfl) (by kernel_rfl) ?_ ?_
            · refine ⟨?_, ?_, ?_, ?_, ?_, ?_, ?_, ?_, ?_, ?_, ?_, ?_, ?_, trivial⟩
              · intro w1 hx1; change wpList _ _ _ _ _ _; exact ob_move rfl rfl rfl rfl rfl
              · intro w1 hx1; change wpList _ _ _ _ _ _; exact ob_move rfl rfl rfl rfl rfl
              · intro w1 hx1; rintro _ rfl; change wpList _ _ _ _ _ _; go_wp2_with fail; exact ⟨rfl, Ext.refl _, rfl, rfl⟩
              · intro w1 hx1; rintro _ rfl; rintro _ rfl; change wpList _ _ _ _ _ _; go_wp2_with fail; exact ⟨rfl, Ext.refl _, rfl, rfl⟩
              · intro w1 hx1; rintro _ rfl; change wpList _ _ _ _ _ _; exact ob_move rfl rfl rfl rfl rfl
              · intro w1 hx1; rintro _ rfl; change wpList _ _ _ _ _ _; exact ob_move rfl rfl rfl rfl rfl
              · intro w1 hx1; rintro _ rfl; change wpList _ _ _ _ _ _; exact ob_move rfl rfl rfl rfl rfl
              · intro w1 hx1; rintro _ rfl; rintro _ rfl; rintro _ rfl; change wpList _ _ _ _ _ _; go_wp2_with fail; exact ⟨rfl, Ext.refl _, rfl, rfl⟩
              · intro w1 hx1; rintro _ rfl; rintro _ rfl; change wpList _ _ _ _ _ _; have m0 := hx1.cell g0; have m1 := hx1.cell g1; have m2 := hx1.cell g2; have m3 := hx1.cell g3; have m4 := hx1.cell g4; have m5 := hx1.cell g5; have m6 := hx1.cell g6; go_wp2_with fail; exact ⟨rfl, Ext.refl _, rfl, rfl⟩
              · intro w1 hx1; rintro _ rfl; change wpList _ _ _ _ _ _; have hxx := hxc.out.trans hx1; have m0 := hxx.cell b0; have m1 := hxx.cell b1; have m2 := hxx.cell b2; have m3 := hxx.cell b3; have m4 := hxx.cell b4; have m5 := hxx.cell b5; have m6 := hxx.cell b6; go_wp2_with fail; exact ⟨rfl, Ext.refl _, rfl, rfl⟩
              · intro w1 hx1; rintro _ rfl; rintro _ rfl; rintro _ rfl; change wpList _ _ _ _ _ _; go_wp2_with fail; (with_reducible refine (HC.out _ (hxc.out.trans hx1)).mono ?_); rintro e w7 ⟨rfl, hx2⟩; go_wp2_with fail; exact ⟨rfl, hx2, rfl, rfl⟩
              · intro w1 hx1; rintro _ rfl; rintro _ rfl; change wpList _ _ _ _ _ _; go_wp2_with fail; exact ⟨rfl, Ext.refl _, rfl, rfl⟩
              · intro w1 hx1; rintro _ rfl; rintro _ rfl; change wpList _ _ _ _ _ _; exact ob_pick rfl rfl rfl rfl rfl rfl
            · intro w1 hx1; rintro _ rfl; rintro _ rfl; rintro _ rfl; rintro _ rfl; rintro _ rfl; rintro _ rfl; rintro _ rfl; rintro _ rfl; rintro _ rfl; rintro _ rfl; rintro _ rfl; rintro _ rfl; rintro _ rfl; refine depsThen_nil ?_; dsimp only; simp only [Act.put, List.setIfInBounds_toArray, List.set_cons_zero, List.set_cons_succ]
              have HXQ := Lib.hid (HX5.out.trans (hxc.out.trans hx1))
              have HOW := Lib.hid (own_ext HOUT.out (hxc.out.trans hx1))
              have HSE : Hid (∀ z ∈ us, SetO w.heap.size w1 z) := fun z hm => (HSETS.out z hm).ext (hxc.out.trans hx1)
              clear g0 g1 g2 g3 g4 g5 g6 hx1 hxc
              go_wp2_with fail
              go_roundw
              case rel => exact ⟨k + 1, us, hlt, by go_num, HEQ.out, by rw [← HM.out]; exact HOW.out, HSE.out, HXQ.out⟩
              case measure => simp [intOf]; omega
          · have hd : (r == 0) = false := beq_eq_false_iff_ne.2 hz
            have HEQ := Lib.hid (HGO.out hz)
            clear hz hnl
            go_upto_region 12 with fail
            refine wp_region_facts [Fact.eq (.int .i64 j),
                Fact.eq (.slice (some ⟨B1, o1, none⟩) m co),
                Fact.eq (.int .i64 m),
                Fact.eq (.bool true),
                Fact.eq (.bool true),
                Fact.eq (.slice (some ⟨B1, o1, none⟩) m co),
                Fact.eq (.int .i64 j),
                Fact.eq (.pointer (some ⟨B1, o1 + j * 7, none⟩)),
                Fact.eq (.agg #[.string (strOf y.c.name), .int .i64 y.c.op, .int .i64 y.c.v.k, .int .i64 y.c.v.n, .string (strOf y.c.v.s), .bool y.c.v.b, .slice ya y.c.set.length yc]),
                Fact.eq (.agg #[.string (strOf c.name), .int .i64 c.op, .int .i64 c.v.k, .int .i64 c.v.n, .string (strOf c.v.s), .bool c.v.b, .slice a4 (sortU cmpV c.set).length c4]),
                Fact.eq (.int .i64 r),
                Fact.eq (.bool false),
                Fact.eq (.bool false)]
              [[], [], [(1, 42)], [(0, 41), (2, 43)], [(3, 44)], [(4, 45)], [(4, 45)], [(5, 46), (6, 47), (4, 45)], [(7, 48), (4, 45)], [(4, 45)], [(8, 49), (9, 50), (4, 45)], [(10, 51), (4, 45)], [(4, 45), (11, 52)]]
              [(0, 41), (1, 42), (2, 43), (3, 44), (4, 45), (5, 46), (6, 47), (7, 48), (8, 49), (9, 50), (10, 51), (11, 52), (12, 53)] (by kernel_rfl) (by kernel_rfl) ?_ ?_
            · refine ⟨?_, ?_, ?_, ?_, ?_, ?_, ?_, ?_, ?_, ?_, ?_, ?_, ?_, trivial⟩
              · intro w1 hx1; change wpList _ _ _ _ _ _; exact ob_move rfl rfl rfl rfl rfl
              · intro w1 hx1; change wpList _ _ _ _ _ _; exact ob_move rfl rfl rfl rfl rfl
              · intro w1 hx1; rintro _ rfl; change wpList _ _ _ _ _ _; go_wp2_with fail; exact ⟨rfl, Ext.refl _, rfl, rfl⟩
              · intro w1 hx1; rintro _ rfl; rintro _ rfl; change wpList _ _ _ _ _ _; go_wp2_with fail; exact ⟨rfl, Ext.refl _, rfl, rfl⟩
              · intro w1 hx1; rintro _ rfl; change wpList _ _ _ _ _ _; exact ob_move rfl rfl rfl rfl rfl
              · intro w1 hx1; rintro _ rfl; change wpList _ _ _ _ _ _; exact ob_move rfl rfl rfl rfl rfl
              · intro w1 hx1; rintro _ rfl; change wpList _ _ _ _ _ _; exact ob_move rfl rfl rfl rfl rfl
              · intro w1 hx1; rintro _ rfl; rintro _ rfl; rintro _ rfl; change wpList _ _ _ _ _ _; go_wp2_with fail; exact ⟨rfl, Ext.refl _, rfl, rfl⟩
              · intro w1 hx1; rintro _ rfl; rintro _ rfl; change wpList _ _ _ _ _ _; have m0 := hx1.cell g0; have m1 := hx1.cell g1; have m2 := hx1.cell g2; have m3 := hx1.cell g3; have m4 := hx1.cell g4; have m5 := hx1.cell g5; have m6 := hx1.cell g6; go_wp2_with fail; exact ⟨rfl, Ext.refl _, rfl, rfl⟩
              · intro w1 hx1; rintro _ rfl; change wpList _ _ _ _ _ _; have hxx := hxc.out.trans hx1; have m0 := hxx.cell b0; have m1 := hxx.cell b1; have m2 := hxx.cell b2; have m3 := hxx.cell b3; have m4 := hxx.cell b4; have m5 := hxx.cell b5; have m6 := hxx.cell b6; go_wp2_with fail; exact ⟨rfl, Ext.refl _, rfl, rfl⟩
              · intro w1 hx1; rintro _ rfl; rintro _ rfl; rintro _ rfl; change wpList _ _ _ _ _ _; go_wp2_with fail; (with_reducible refine (HC.out _ (hxc.out.trans hx1)).mono ?_); rintro e w7 ⟨rfl, hx2⟩; go_wp2_with fail; exact ⟨rfl, hx2, rfl, rfl⟩
              · intro w1 hx1; rintro _ rfl; rintro _ rfl; change wpList _ _ _ _ _ _; go_wp2_with fail; exact ⟨rfl, Ext.refl _, rfl, rfl⟩
              · intro w1 hx1; rintro _ rfl; rintro _ rfl; change wpList _ _ _ _ _ _; exact ob_pick rfl rfl rfl rfl rfl rfl
            · intro w1 hx1; rintro _ rfl; rintro _ rfl; rintro _ rfl; rintro _ rfl; rintro _ rfl; rintro _ rfl; rintro _ rfl; rintro _ rfl; rintro _ rfl; rintro _ rfl; rintro _ rfl; rintro _ rfl; rintro _ rfl; refine depsThen_nil ?_; dsimp only; simp only [Act.put, List.setIfInBounds_toArray, List.set_cons_zero, List.set_cons_succ]
              clear g0 g1 g2 g3 g4 g5 g6
              have HXQ := Lib.hid (HX5.out.trans (hxc.out.trans hx1))
              have HOW := Lib.hid (own_ext HOUT.out (hxc.out.trans hx1))
              have HW58 := Lib.hid (hxc.out.trans hx1)
              have s0 := HW58.out.cell b0
              have s1 := HW58.out.cell b1
              have s2 := HW58.out.cell b2
              have s3 := HW58.out.cell b3
              have s4 := HW58.out.cell b4
              have s5 := HW58.out.cell b5
              have s6 := HW58.out.cell b6
              clear hx1 hxc
              go_upto_region 14 with fail
              obtain ⟨w8, hw8⟩ : ∃ z : World, z = w1 := ⟨_, rfl⟩
              subst hw8
              have hbase : w.heap.size ≤ w8.heap.size := HXQ.out.size
              have hone : ∀ u ∈ (us.take j).flatMap csC, u.oneCell' = true := csC_one _ fun z hz => (HSETS.out z (List.mem_of_mem_take hz)).one
              have HONE := Lib.hid hone
              have hone2 : ∀ u ∈ ((us.take m).drop j).flatMap csC, u.oneCell' = true := csC_one _ fun z hz => (HSETS.out z (List.mem_of_mem_take (List.mem_of_mem_drop hz))).one
              have HONE2 := Lib.hid hone2
              clear hone hone2
              go_upto_region 15 with (first
                | (refine cCut (.tmp 55) none (some (.tmp 56)) us m 0 j rfl rfl (Row.of_own HOW.out) rfl ⟨_, _, rfl, by omega, by omega⟩ (Nat.zero_le _) (by omega) ?_; intro v57 h57; rw [List.drop_zero, Nat.sub_zero] at h57; obtain ⟨a57, c57, rfl, _, _⟩ := Row.shape h57; have H57 := Lib.hid h57; clear h57)
                | (at_builtin; refine wpList_append_row 23 37 (.tmp 54) (.tmp 57) rfl w8.heap.size _ 7 88 Tryz.underlying23 info31t rfl (by decide) rfl (.slice none 0 0) 0 [] rfl (own_none _ _ _ _) j ((us.take j).flatMap csC) H57.out HONE.out (by omega) (by unfold maxLen; omega) (Nat.le_refl _) ?_; intro v58 w9 hown9 hg9; have HO9 := Lib.hid hown9; have HX9 := Lib.hid ((Ext.refl w8).grown_none (v := .slice none 0 0) hg9 (fun q hq => by cases hq)); clear hown9 hg9))
              have hown9 : w9.ownsRow w8.heap.size 37 7 v58 j ((us.take j).flatMap csC) := by have h := HO9.out; rw [Nat.zero_add, List.nil_append] at h; exact h
              obtain ⟨a58, c58, rfl, _, _⟩ := own_shape hown9
              have t0 := HX9.out.cell s0
              have t1 := HX9.out.cell s1
              have t2 := HX9.out.cell s2
              have t3 := HX9.out.cell s3
              have t4 := HX9.out.cell s4
              have t5 := HX9.out.cell s5
              have t6 := HX9.out.cell s6
              have hcx : csC x = [.string (strOf c.name), .int .i64 c.op, .int .i64 c.v.k, .int .i64 c.v.n, .string (strOf c.v.s), .bool c.v.b, .slice a4 (sortU cmpV c.set).length c4] := by rw [HXD.out]; rfl
              have hxb : Ext w9 (w9.alloc (.cells #[.string (strOf c.name), .int .i64 c.op, .int .i64 c.v.k, .int .i64 c.v.n, .string (strOf c.v.s), .bool c.v.b, .slice a4 (sortU cmpV c.set).length c4] 37)) := (Ext.refl w9).alloc _
              have hrow : Row (w9.alloc (.cells #[.string (strOf c.name), .int .i64 c.op, .int .i64 c.v.k, .int .i64 c.v.n, .string (strOf c.v.s), .bool c.v.b, .slice a4 (sortU cmpV c.set).length c4] 37)) 7 (.slice (some ⟨w9.heap.size, 0, none⟩) 1 1) 1 (csC x) := by have h := c_row w9 x; rw [hcx] at h ⊢; exact h
              have HROW := Lib.hid hrow
              have hone3 : ∀ u ∈ csC x, u.oneCell' = true := fun u hu => csC_one [x] (fun z hz => by rw [List.mem_singleton.1 hz]; exact HXSET.out.one) u (by rw [List.flatMap_singleton]; exact hu)
              have HONE3 := Lib.hid hone3
              have HO10 := Lib.hid (own_ext hown9 hxb)
              have HOWb := Lib.hid (own_ext HOW.out (HX9.out.trans hxb))
              have HX10 := Lib.hid (HX9.out.trans hxb)
              have hb10 : w8.heap.size ≤ (w9.alloc (.cells #[.string (strOf c.name), .int .i64 c.op, .int .i64 c.v.k, .int .i64 c.v.n, .string (strOf c.v.s), .bool c.v.b, .slice a4 (sortU cmpV c.set).length c4] 37)).heap.size := HX10.out.size
              clear hown9 HO9 HX9 hxb H57 s0 s1 s2 s3 s4 s5 s6 hcx hrow hone3
              go_upto_region 16 with (at_builtin; refine wpList_append_row 23 37 (.tmp 59) (.tmp 61) rfl w8.heap.size _ 7 88 Tryz.underlying23 info31t rfl (by decide) rfl _ j ((us.take j).flatMap csC) rfl HO10.out 1 (csC x) HROW.out HONE3.out (by omega) (by unfold maxLen; omega) hb10 ?_; intro v62 w11 hown11 hg11; have HO11 := Lib.hid hown11; have HG11 := Lib.hid hg11; clear hown11 hg11)
              obtain ⟨a62, c62, rfl, _, _⟩ := own_shape HO11.out
              have hkeep1 : ∀ q, (Value.slice (some ⟨B1, o1, none⟩) m co).ownBlock = some q → (Value.slice a58 j c58).ownBlock ≠ some q := fun q hq => own_later HO10.out (Nat.le_refl _) (own_lt HOW.out q hq)
              have HOWc := Lib.hid (own_keep HOWb.out HG11.out (fun q hq e => hkeep1 q hq e))
              have HX11 := Lib.hid (HX10.out.grown_none HG11.out (own_base HO10.out))
              have hb11 : w8.heap.size ≤ w11.heap.size := HX11.out.size
              clear HO10 HROW HOWb HX10 HG11 hkeep1 t0 t1 t2 t3 t4 t5 t6
              go_upto_region 6 with (first
                | (refine cCut (.tmp 64) (some (.tmp 65)) none us m j m rfl rfl (Row.of_own HOWc.out) ⟨_, _, rfl, by omega, by omega⟩ rfl (by omega) (Nat.le_refl _) ?_; intro v66 h66; obtain ⟨a66, c66, rfl, _, _⟩ := Row.shape h66; have H66 := Lib.hid h66; clear h66)
                | (at_builtin; refine wpList_append_row 23 37 (.tmp 63) (.tmp 66) rfl w8.heap.size _ 7 88 Tryz.underlying23 info31t rfl (by decide) rfl _ (j + 1) ((us.take j).flatMap csC ++ csC x) rfl HO11.out (m - j) (((us.take m).drop j).flatMap csC) H66.out HONE2.out (by omega) (by unfold maxLen; omega) hb11 ?_; intro v67 w12 hown12 hg12; have HO12 := Lib.hid hown12; have HX12 := Lib.hid (HX11.out.grown_none hg12 (own_base HO11.out)); clear hown12 hg12))
              have hfin : w12.ownsRow w.heap.size 37 7 v67 (us.take j ++ x :: us.drop j).length ((us.take j ++ x :: us.drop j).flatMap csC) := by
                have h := own_low HO12.out hbase
                have e1 : us.take m = us := List.take_of_length_le (by rw [← HM.out]; exact Nat.le_refl _)
                rw [e1] at h
                have e2 : (us.take j ++ x :: us.drop j).length = j + 1 + (m - j) := by rw [List.length_append, List.length_cons, List.length_take, List.length_drop, ← HM.out]; omega
                have e3 : (us.take j ++ x :: us.drop j).flatMap csC = (us.take j).flatMap csC ++ csC x ++ (us.drop j).flatMap csC := by rw [List.flatMap_append, List.flatMap_cons, List.append_assoc]
                rw [e2, e3]; first | exact h | (rw [e1]; exact h)
              have HFIN := Lib.hid hfin
              have hext := HW58.out.trans HX12.out
              have HSF : Hid (∀ z ∈ us.take j ++ x :: us.drop j, SetO w.heap.size w12 z) := fun z hz => by
                rcases List.mem_append.1 hz with hz | hz
                · exact (HSETS.out z (List.mem_of_mem_take hz)).ext hext
                · rcases List.mem_cons.1 hz with rfl | hz
                  · exact HXSET.out.ext hext
                  · exact (HSETS.out z (List.mem_of_mem_drop hz)).ext hext
              have HXF := Lib.hid (HXQ.out.trans HX12.out)
              clear hfin hext HO12 HO11 HOWc HX11 H66 HX12 HXQ
              go_wp2_with fail
              go_roundw
              case rel => exact ⟨k + 1, us.take j ++ x :: us.drop j, hlt, by go_num, HEQ.out, HFIN.out, HSF.out, HXF.out⟩
              case measure => simp [intOf]; omega
        · obtain rfl : j = m := by omega
          have hJ : decide ((j : Int) < (j : Int)) = false := decide_eq_false (by omega)
          have HEQ := Lib.hid (HHERE0.out fun h => absurd h (by rw [← HM.out]; exact Nat.lt_irrefl _))
          go_upto_region 12 with fail
          refine wp_region_facts [Fact.eq (.int .i64 j),
              Fact.eq (.slice ao j co),
              Fact.eq (.int .i64 j),
              Fact.eq (.bool false),
              Fact.eq (.bool false),
              Fact.eq undef,
              Fact.eq undef,
              Fact.eq undef,
              Fact.eq undef,
              Fact.eq undef,
              Fact.eq undef,
              Fact.eq undef,
              Fact.eq (.bool false)]
            [[], [], [(1, 42)], [(0, 41), (2, 43)], [(3, 44)], [(4, 45)], [(4, 45)], [(5, 46), (6, 47), (4, 45)], [(7, 48), (4, 45)], [(4, 45)], [(8, 49), (9, 50), (4, 45)], [(10, 51), (4, 45)], [(4, 45), (11, 52)]]
            [(0, 41), (1, 42), (2, 43), (3, 44), (4, 45), (5, 46), (6, 47), (7, 48), (8, 49), (9, 50), (10, 51), (11, 52), (12, 53)] (by kernel_rfl) (by kernel_rfl) ?_ ?_
          · refine ⟨?_, ?_, ?_, ?_, ?_, ?_, ?_, ?_, ?_, ?_, ?_, ?_, ?_, trivial⟩
            · intro w1 hx1; change wpList _ _ _ _ _ _; exact ob_move rfl rfl rfl rfl rfl
            · intro w1 hx1; change wpList _ _ _ _ _ _; exact ob_move rfl rfl rfl rfl rfl
            · intro w1 hx1; rintro _ rfl; change wpList _ _ _ _ _ _; go_wp2_with fail; exact ⟨rfl, Ext.refl _, rfl, rfl⟩
            · intro w1 hx1; rintro _ rfl; rintro _ rfl; change wpList _ _ _ _ _ _; go_wp2_with fail; exact ⟨rfl, Ext.refl _, rfl, rfl⟩
            · intro w1 hx1; rintro _ rfl; change wpList _ _ _ _ _ _; exact ob_move rfl rfl rfl rfl rfl
            · intro w1 hx1; rintro _ rfl; change wpList _ _ _ _ _ _; exact ob_skip rfl rfl rfl rfl
            · intro w1 hx1; rintro _ rfl; change wpList _ _ _ _ _ _; exact ob_skip rfl rfl rfl rfl
            · intro w1 hx1; rintro _ rfl; rintro _ rfl; rintro _ rfl; change wpList _ _ _ _ _ _; exact ob_skip rfl rfl rfl rfl
            · intro w1 hx1; rintro _ rfl; rintro _ rfl; change wpList _ _ _ _ _ _; exact ob_skip rfl rfl rfl rfl
            · intro w1 hx1; rintro _ rfl; change wpList _ _ _ _ _ _; exact ob_skip rfl rfl rfl rfl
            · intro w1 hx1; rintro _ rfl; rintro _ rfl; rintro _ rfl; change wpList _ _ _ _ _ _; exact ob_skip rfl rfl rfl rfl
            · intro w1 hx1; rintro _ rfl; rintro _ rfl; change wpList _ _ _ _ _ _; exact ob_skip rfl rfl rfl rfl
            · intro w1 hx1; rintro _ rfl; rintro _ rfl; change wpList _ _ _ _ _ _; exact ob_pick rfl rfl rfl rfl rfl rfl
          · intro w1 hx1; rintro _ rfl; rintro _ rfl; rintro _ rfl; rintro _ rfl; rintro _ rfl; rintro _ rfl; rintro _ rfl; rintro _ rfl; rintro _ rfl; rintro _ rfl; rintro _ rfl; rintro _ rfl; rintro _ rfl; refine depsThen_nil ?_; dsimp only; simp only [Act.put, List.setIfInBounds_toArray, List.set_cons_zero, List.set_cons_succ]
            have HXQ := Lib.hid (HX5.out.trans (hxc.out.trans hx1))
            have HOW := Lib.hid (own_ext HOUT.out (hxc.out.trans hx1))
            have HW58 := Lib.hid (hxc.out.trans hx1)
            have s0 := HW58.out.cell b0
            have s1 := HW58.out.cell b1
            have s2 := HW58.out.cell b2
            have s3 := HW58.out.cell b3
            have s4 := HW58.out.cell b4
            have s5 := HW58.out.cell b5
            have s6 := HW58.out.cell b6
            clear hx1 hxc
            go_upto_region 14 with fail
            obtain ⟨w8, hw8⟩ : ∃ z : World, z = w1 := ⟨_, rfl⟩
            subst hw8
            have hbase : w.heap.size ≤ w8.heap.size := HXQ.out.size
            have hone : ∀ u ∈ (us.take j).flatMap csC, u.oneCell' = true := csC_one _ fun z hz => (HSETS.out z (List.mem_of_mem_take hz)).one
            have HONE := Lib.hid hone
            have hone2 : ∀ u ∈ ((us.take j).drop j).flatMap csC, u.oneCell' = true := csC_one _ fun z hz => (HSETS.out z (List.mem_of_mem_take (List.mem_of_mem_drop hz))).one
            have HONE2 := Lib.hid hone2
            clear hone hone2
            go_upto_region 15 with (first
              | (refine cCut (.tmp 55) none (some (.tmp 56)) us j 0 j rfl rfl (Row.of_own HOW.out) rfl ⟨_, _, rfl, by omega, by omega⟩ (Nat.zero_le _) (by omega) ?_; intro v57 h57; rw [List.drop_zero, Nat.sub_zero] at h57; obtain ⟨a57, c57, rfl, _, _⟩ := Row.shape h57; have H57 := Lib.hid h57; clear h57)
              | (at_builtin; refine wpList_append_row 23 37 (.tmp 54) (.tmp 57) rfl w8.heap.size _ 7 88 Tryz.underlying23 info31t rfl (by decide) rfl (.slice none 0 0) 0 [] rfl (own_none _ _ _ _) j ((us.take j).flatMap csC) H57.out HONE.out (by omega) (by unfold maxLen; omega) (Nat.le_refl _) ?_; intro v58 w9 hown9 hg9; have HO9 := Lib.hid hown9; have HX9 := Lib.hid ((Ext.refl w8).grown_none (v := .slice none 0 0) hg9 (fun q hq => by cases hq)); clear hown9 hg9))
            have hown9 : w9.ownsRow w8.heap.size 37 7 v58 j ((us.take j).flatMap csC) := by have h := HO9.out; rw [Nat.zero_add, List.nil_append] at h; exact h
            obtain ⟨a58, c58, rfl, _, _⟩ := own_shape hown9
            have t0 := HX9.out.cell s0
            have t1 := HX9.out.cell s1
            have t2 := HX9.out.cell s2
            have t3 := HX9.out.cell s3
            have t4 := HX9.out.cell s4
            have t5 := HX9.out.cell s5
            have t6 := HX9.out.cell s6
            have hcx : csC x = [.string (strOf c.name), .int .i64 c.op, .int .i64 c.v.k, .int .i64 c.v.n, .string (strOf c.v.s), .bool c.v.b, .slice a4 (sortU cmpV c.set).length c4] := by rw [HXD.out]; rfl
            have hxb : Ext w9 (w9.alloc (.cells #[.string (strOf c.name), .int .i64 c.op, .int .i64 c.v.k, .int .i64 c.v.n, .string (strOf c.v.s), .bool c.v.b, .slice a4 (sortU cmpV c.set).length c4] 37)) := (Ext.refl w9).alloc _
            have hrow : Row (w9.alloc (.cells #[.string (strOf c.name), .int .i64 c.op, .int .i64 c.v.k, .int .i64 c.v.n, .string (strOf c.v.s), .bool c.v.b, .slice a4 (sortU cmpV c.set).length c4] 37)) 7 (.slice (some ⟨w9.heap.size, 0, none⟩) 1 1) 1 (csC x) := by have h := c_row w9 x; rw [hcx] at h ⊢; exact h
            have HROW := Lib.hid hrow
            have hone3 : ∀ u ∈ csC x, u.oneCell' = true := fun u hu => csC_one [x] (fun z hz => by rw [List.mem_singleton.1 hz]; exact HXSET.out.one) u (by rw [List.flatMap_singleton]; exact hu)
            have HONE3 := Lib.hid hone3
            have HO10 := Lib.hid (own_ext hown9 hxb)
            have HOWb := Lib.hid (own_ext HOW.out (HX9.out.trans hxb))
            have HX10 := Lib.hid (HX9.out.trans hxb)
            have hb10 : w8.heap.size ≤ (w9.alloc (.cells #[.string (strOf c.name), .int .i64 c.op, .int .i64 c.v.k, .int .i64 c.v.n, .string (strOf c.v.s), .bool c.v.b, .slice a4 (sortU cmpV c.set).length c4] 37)).heap.size := HX10.out.size
            clear hown9 HO9 HX9 hxb H57 s0 s1 s2 s3 s4 s5 s6 hcx hrow hone3
            go_upto_region 16 with (at_builtin; refine wpList_append_row 23 37 (.tmp 59) (.tmp 61) rfl w8.heap.size _ 7 88 Tryz.underlying23 info31t rfl (by decide) rfl _ j ((us.take j).flatMap csC) rfl HO10.out 1 (csC x) HROW.out HONE3.out (by omega) (by unfold maxLen; omega) hb10 ?_; intro v62 w11 hown11 hg11; have HO11 := Lib.hid hown11; have HG11 := Lib.hid hg11; clear hown11 hg11)
            obtain ⟨a62, c62, rfl, _, _⟩ := own_shape HO11.out
            have hkeep1 : ∀ q, (Value.slice ao j co).ownBlock = some q → (Value.slice a58 j c58).ownBlock ≠ some q := fun q hq => own_later HO10.out (Nat.le_refl _) (own_lt HOW.out q hq)
            have HOWc := Lib.hid (own_keep HOWb.out HG11.out (fun q hq e => hkeep1 q hq e))
            have HX11 := Lib.hid (HX10.out.grown_none HG11.out (own_base HO10.out))
            have hb11 : w8.heap.size ≤ w11.heap.size := HX11.out.size
            clear HO10 HROW HOWb HX10 HG11 hkeep1 t0 t1 t2 t3 t4 t5 t6
            go_upto_region 6 with (first
              | (refine cCut (.tmp 64) (some (.tmp 65)) none us j j j rfl rfl (Row.of_own HOWc.out) ⟨_, _, rfl, by omega, by omega⟩ rfl (by omega) (Nat.le_refl _) ?_; intro v66 h66; obtain ⟨a66, c66, rfl, _, _⟩ := Row.shape h66; have H66 := Lib.hid h66; clear h66)
              | (at_builtin; refine wpList_append_row 23 37 (.tmp 63) (.tmp 66) rfl w8.heap.size _ 7 88 Tryz.underlying23 info31t rfl (by decide) rfl _ (j + 1) ((us.take j).flatMap csC ++ csC x) rfl HO11.out (j - j) (((us.take j).drop j).flatMap csC) H66.out HONE2.out (by omega) (by unfold maxLen; omega) hb11 ?_; intro v67 w12 hown12 hg12; have HO12 := Lib.hid hown12; have HX12 := Lib.hid (HX11.out.grown_none hg12 (own_base HO11.out)); clear hown12 hg12))
            have hfin : w12.ownsRow w.heap.size 37 7 v67 (us.take j ++ x :: us.drop j).length ((us.take j ++ x :: us.drop j).flatMap csC) := by
              have h := own_low HO12.out hbase
              have e1 : us.take j = us := List.take_of_length_le (by rw [← HM.out]; exact Nat.le_refl _)
              rw [e1] at h
              have e2 : (us.take j ++ x :: us.drop j).length = j + 1 + (j - j) := by rw [List.length_append, List.length_cons, List.length_take, List.length_drop, ← HM.out]; omega
              have e3 : (us.take j ++ x :: us.drop j).flatMap csC = (us.take j).flatMap csC ++ csC x ++ (us.drop j).flatMap csC := by rw [List.flatMap_append, List.flatMap_cons, List.append_assoc]
              rw [e2, e3]; first | exact h | (rw [e1]; exact h)
            have HFIN := Lib.hid hfin
            have hext := HW58.out.trans HX12.out
            have HSF : Hid (∀ z ∈ us.take j ++ x :: us.drop j, SetO w.heap.size w12 z) := fun z hz => by
              rcases List.mem_append.1 hz with hz | hz
              · exact (HSETS.out z (List.mem_of_mem_take hz)).ext hext
              · rcases List.mem_cons.1 hz with rfl | hz
                · exact HXSET.out.ext hext
                · exact (HSETS.out z (List.mem_of_mem_drop hz)).ext hext
            have HXF := Lib.hid (HXQ.out.trans HX12.out)
            clear hfin hext HO12 HO11 HOWc HX11 H66 HX12 HXQ
            go_wp2_with fail
            go_roundw
            case rel => exact ⟨k + 1, us.take j ++ x :: us.drop j, hlt, by go_num, HEQ.out, HFIN.out, HSF.out, HXF.out⟩
            case measure => simp [intOf]; omega
    · obtain rfl : k = n := by omega
      have hI : decide ((k : Int) < (k : Int)) = false := decide_eq_false (by omega)
      have hall2 : p.take k = p := List.take_of_length_le (by have := HN.out; omega)
      rw [hall2] at hus
      go_wp2_with fail
      exact bodyPost_ret (v := .tuple #[u4, .int .i64 0]) (by simp [results, Tryz.results6, go_sem]) rfl ⟨_, us, rfl, by unfold normP; rw [← hus.out], hown.out, hset.out, hx.out⟩
theorem rnormal_yes (w : World) (v : Value) (p : List C) (hp : PredR w v p) (hm : mayP p = true) :
    Calls Tryz.prog 6 #[v] w fun e w' => ∃ v', e = .returned (.tuple #[v', .int .i64 0]) ∧ PredR w' v' (normP p) ∧ Ext w w' := by
  refine (rnormal_own w v p hp hm).mono ?_
  rintro e w' ⟨v', us, rfl, h1, h2, h3, h4⟩
  exact ⟨v', rfl, by rw [← h1]; exact PredR.mk us (Row.of_own h2) fun x hm => (h3 x hm).set, h4⟩
end Go.Proofs.YtfkemgkbkhacmaaGreat

namespace Go.Proofs.YtfkemgkbkhacmaaGreat
open Go.RowKit

set_option maxRecDepth 100000 in
set_option maxHeartbeats 16000000 in
theorem own04_any (w : World) (v : Value) (p : List C) (hp : PredR w v p) (hb : ∀ c ∈ p, c.set.length * 40 ≤ 140737488355328) (hl : p.length ≤ 100) :
    Calls Tryz.prog 4 #[v] w fun e w' => ∃ v', e = .returned v' ∧ PredR w' v' p ∧ Ext w w' := by
  obtain ⟨a, cap, rfl, hc, hcm⟩ := hp.shape
  unfold maxLen at hcm
  have HP := Lib.hid hp
  have HB := Lib.hid hb
  clear hp hb
  obtain ⟨n, hn⟩ : ∃ n, n = p.length := ⟨_, rfl⟩
  have HN := Lib.hid hn
  rw [← hn] at hc hl ⊢ HP
  clear hn
  go_enter Tryz.func4, Tryz.ntmps4
  go_wp2_with fail
  go_loopw [3, 8] (fun vo i wr => ∃ (k : Nat) (us : List CS), k ≤ n ∧ i = .int .i64 k ∧ Hid (us.map CS.c = p.take k) ∧ Hid (us.length = k) ∧ Hid (wr.ownsRow w.heap.size 37 7 vo us.length (us.flatMap csC)) ∧ Hid (∀ x ∈ us, SetO w.heap.size wr x) ∧ Hid (Ext w wr)) (fun _ i _ => n - (intOf i).toNat)
  case atStart => exact ⟨0, [], Nat.zero_le _, rfl, rfl, rfl, own_none _ _ _ _, (fun _ h => (by cases h)), Ext.refl _⟩
  case round =>
    obtain ⟨k, us, hk, rfl, hus, hul, hown, hset, hx⟩ := hrel
    by_cases hlt : k < n
    · have hI : decide ((k : Int) < (n : Int)) = true := decide_eq_true (by omega)
      have hkN : (k : Int) < (n : Int) := by omega
      have hkl : k < p.length := by have := HN.out; omega
      obtain ⟨B, o, sa, sc, rfl, f0, f1, f2, f3, f4, f5, f6, fs⟩ := (HP.out.ext hx.out).at hkl
      have hbk := HB.out p[k] (List.getElem_mem hkl)
      have htk : p.take (k + 1) = p.take k ++ [p[k]] := List.take_succ_eq_append_getElem hkl
      have HTK := Lib.hid htk
      clear htk
      generalize p[k] = c at *
      go_upto_region 5 with fail
      obtain ⟨hxa, hba⟩ := boxes1 wr (.cells #[.string (strOf c.name), .int .i64 c.op, .int .i64 c.v.k, .int .i64 c.v.n, .string (strOf c.v.s), .bool c.v.b, .slice sa c.set.length sc] 37)
      have q6 := cell_of_row _ _ 6 _ _ _ hba
      have z6 := frozen_of_row _ _ 6 _ _ hba
      have HXA := Lib.hid (hx.out.trans hxa)
      have HBA := Lib.hid hba
      have FS := Lib.hid (SetR.ext fs hxa)
      have HOA := Lib.hid (own_ext hown.out hxa)
      have HSA : Hid (∀ x ∈ us, SetO w.heap.size (wr.alloc (.cells #[.string (strOf c.name), .int .i64 c.op, .int .i64 c.v.k, .int .i64 c.v.n, .string (strOf c.v.s), .bool c.v.b, .slice sa c.set.length sc] 37)) x) := fun x hm => (hset.out x hm).ext hxa
      have hbx : w.heap.size ≤ wr.heap.size := hx.out.size
      have hsz : (wr.alloc (.cells #[.string (strOf c.name), .int .i64 c.op, .int .i64 c.v.k, .int .i64 c.v.n, .string (strOf c.v.s), .bool c.v.b, .slice sa c.set.length sc] 37)).heap.size = wr.heap.size + 1 := World.size_alloc _ _
      have HBL := Lib.hid (own_lt hown.out)
      have hbytes : (0 + c.set.length) * 40 ≤ 140737488355328 := by rw [Nat.zero_add]; exact hbk
      have h63 : 0 + c.set.length ≤ maxLen := by unfold maxLen; omega
      obtain ⟨uo, huo⟩ : ∃ x, x = u3 := ⟨_, rfl⟩
      subst huo
      clear hxa hba hown hset f0 f1 f2 f3 f4 f5 f6 fs hx
      generalize hbxn : wr.heap.size = bx at *
      clear hbxn
      generalize wr.alloc (.cells #[.string (strOf c.name), .int .i64 c.op, .int .i64 c.v.k, .int .i64 c.v.n, .string (strOf c.v.s), .bool c.v.b, .slice sa c.set.length sc] 37) = wa at *
      go_upto_region 6 with (at_builtin; refine wpList_append_row 35 34 (.const (.slice none 0 0)) (.tmp 13) rfl wa.heap.size _ 4 40 Tryz.underlying35 info28t rfl (by decide) rfl (.slice none 0 0) 0 [] rfl (own_none _ _ _ _) c.set.length (c.set.flatMap vC) FS.out (vC_one _) hbytes h63 (Nat.le_refl _) ?_; intro v4 w4 hown4 hg4; obtain ⟨a4, c4, e4, _, _⟩ := own_shape hown4; rw [Nat.zero_add] at e4; subst e4; have HX4 := Lib.hid ((Ext.refl wa).grown_none (v := .slice none 0 0) hg4 (fun q hq => by cases hq)); have HO4 : Hid (w4.ownsRow wa.heap.size 34 4 (.slice a4 c.set.length c4) c.set.length (c.set.flatMap vC)) := (by have h := hown4; rw [Nat.zero_add, List.nil_append] at h; exact h); have hba4 := block_later HBA.out HX4.out; have z64 := frozen_of_row _ _ 6 _ _ hba4; have z6c := cell_of_row _ _ 6 _ _ _ hba4; have HBA4 := Lib.hid hba4; clear hown4 hg4 hba4)
      have hg5 := grown_setC w4 bx 6 (.slice a4 c.set.length c4)
      have hb5 := setCell_blockC w4 bx 6 (.slice a4 c.set.length c4) _ _ _ HBA4.out
      have ho5 := own_keep (own_ext HOA.out HX4.out) hg5 (fun q hq e => by have h1 := HBL.out q hq; have h2 : bx = q := Option.some.inj e; omega)
      have hs5 : ∀ x ∈ us, SetO w.heap.size (w4.setCell ⟨bx, 6, none⟩ (.slice a4 c.set.length c4)) x := fun x hm => own_keep ((HSA.out x hm).ext HX4.out) hg5 (fun q hq e => own_ne ((HSA.out x hm).ext HX4.out) HBA4.out (by decide) (hq.trans e.symm))
      have hx5 : SetO w.heap.size (w4.setCell ⟨bx, 6, none⟩ (.slice a4 c.set.length c4)) ⟨c, .slice a4 c.set.length c4⟩ := own_keep (own_low HO4.out (by have := HXA.out.size; omega)) hg5 (fun q hq e => own_ne HO4.out HBA4.out (by decide) (hq.trans e.symm))
      have hxx5 : Ext w (w4.setCell ⟨bx, 6, none⟩ (.slice a4 c.set.length c4)) := (HXA.out.trans HX4.out).setCell hbx _
      have hb5' : (w4.setCell ⟨bx, 6, none⟩ (.slice a4 c.set.length c4)).heap[bx]? = some (.cells #[.string (strOf c.name), .int .i64 c.op, .int .i64 c.v.k, .int .i64 c.v.n, .string (strOf c.v.s), .bool c.v.b, .slice a4 c.set.length c4] 37 (0, 0)) := hb5
      have HOUT := Lib.hid ho5
      have HSETS := Lib.hid hs5
      have HXSET := Lib.hid hx5
      have HX5 := Lib.hid hxx5
      have b0 := cell_of_row _ _ 0 _ _ _ hb5'
      have b1 := cell_of_row _ _ 1 _ _ _ hb5'
      have b2 := cell_of_row _ _ 2 _ _ _ hb5'
      have b3 := cell_of_row _ _ 3 _ _ _ hb5'
      have b4 := cell_of_row _ _ 4 _ _ _ hb5'
      have b5 := cell_of_row _ _ 5 _ _ _ hb5'
      have b6 := cell_of_row _ _ 6 _ _ _ hb5'
      clear hg5 hb5 ho5 hs5 hx5 hxx5 HBA4 HX4 HO4 HOA HSA HXA HBA z6 z6c z64 q6 hb5' FS HBL
      generalize w4.setCell ⟨bx, 6, none⟩ (.slice a4 c.set.length c4) = w5 at *
      obtain ⟨ao, co, hvo, hco, hmo⟩ := own_shape HOUT.out
      rw [hvo] at HOUT
      rw [hvo]
      clear hvo
      have hm100 : us.length ≤ 100 := by have := hul.out; omega
      have hxb : Ext w5 (w5.alloc (.cells #[.string (strOf c.name), .int .i64 c.op, .int .i64 c.v.k, .int .i64 c.v.n, .string (strOf c.v.s), .bool c.v.b, .slice a4 c.set.length c4] 37)) := (Ext.refl w5).alloc _
      have HROW := Lib.hid (show Row (w5.alloc (.cells #[.string (strOf c.name), .int .i64 c.op, .int .i64 c.v.k, .int .i64 c.v.n, .string (strOf c.v.s), .bool c.v.b, .slice a4 c.set.length c4] 37)) 7 (.slice (some ⟨w5.heap.size, 0, none⟩) 1 1) 1 (csC ⟨c, .slice a4 c.set.length c4⟩) from c_row w5 ⟨c, .slice a4 c.set.length c4⟩)
      have HONE : Hid (∀ u ∈ csC ⟨c, .slice a4 c.set.length c4⟩, u.oneCell' = true) := fun u hu => csC_one [⟨c, .slice a4 c.set.length c4⟩] (fun z hz => by rw [List.mem_singleton.1 hz]; rfl) u (by rw [List.flatMap_singleton]; exact hu)
      have HO10 := Lib.hid (own_ext HOUT.out hxb)
      have HX10 := Lib.hid (HX5.out.trans hxb)
      have hb10 : w.heap.size ≤ (w5.alloc (.cells #[.string (strOf c.name), .int .i64 c.op, .int .i64 c.v.k, .int .i64 c.v.n, .string (strOf c.v.s), .bool c.v.b, .slice a4 c.set.length c4] 37)).heap.size := HX10.out.size
      have HXB := Lib.hid hxb
      clear hxb
      go_upto_region 7 with (at_builtin; refine wpList_append_row 23 37 (.tmp 16) (.tmp 18) rfl w.heap.size _ 7 88 Tryz.underlying23 info31t rfl (by decide) rfl _ us.length (us.flatMap csC) rfl HO10.out 1 (csC ⟨c, .slice a4 c.set.length c4⟩) HROW.out HONE.out (by omega) (by unfold maxLen; omega) hb10 ?_; intro v6 w6 hown6 hg6; have HO6 := Lib.hid hown6; have HG6 := Lib.hid hg6; clear hown6 hg6)
      have hx6 := HX10.out.grown_none HG6.out (own_base HO10.out)
      have hkeep : ∀ z, SetO w.heap.size (w5.alloc (.cells #[.string (strOf c.name), .int .i64 c.op, .int .i64 c.v.k, .int .i64 c.v.n, .string (strOf c.v.s), .bool c.v.b, .slice a4 c.set.length c4] 37)) z → SetO w.heap.size w6 z := fun z hz => hz.keep HO10.out HG6.out
      have HSF : Hid (∀ z ∈ us ++ [(⟨c, .slice a4 c.set.length c4⟩ : CS)], SetO w.heap.size w6 z) := fun z hz => by
        rcases List.mem_append.1 hz with hz | hz
        · exact hkeep z ((HSETS.out z hz).ext HXB.out)
        · rw [List.mem_singleton.1 hz]; exact hkeep _ (HXSET.out.ext HXB.out)
      have HX6 := Lib.hid hx6
      have HOF : Hid (w6.ownsRow w.heap.size 37 7 v6 (us ++ [(⟨c, .slice a4 c.set.length c4⟩ : CS)]).length ((us ++ [(⟨c, .slice a4 c.set.length c4⟩ : CS)]).flatMap csC)) := by
        show World.ownsRow _ _ _ _ _ _ _
        rw [List.length_append, List.flatMap_append, List.flatMap_singleton]
        exact HO6.out
      have HU : Hid ((us ++ [(⟨c, .slice a4 c.set.length c4⟩ : CS)]).map CS.c = p.take (k + 1)) := by show _ = _; rw [HTK.out, List.map_append, hus.out]; rfl
      clear hx6 hkeep
      go_wp2_with fail
      go_roundw
      case rel => exact ⟨k + 1, us ++ [(⟨c, .slice a4 c.set.length c4⟩ : CS)], hlt, by go_num, HU, by show _ = _; rw [List.length_append, List.length_singleton, hul.out], HOF.out, HSF, HX6.out⟩
      case measure => simp [intOf]; omega
    · obtain rfl : k = n := by omega
      have hI : decide ((k : Int) < (k : Int)) = false := decide_eq_false (by omega)
      have hall2 : p.take k = p := List.take_of_length_le (by have := HN.out; omega)
      rw [hall2] at hus
      go_wp2_with fail
      go_ret
      exact ⟨_, rfl, by rw [← hus.out]; exact PredR.mk us (Row.of_own hown.out) fun x hm => (hset.out x hm).set, hx.out⟩
end Go.Proofs.YtfkemgkbkhacmaaGreat

namespace Go.Proofs.YtfkemgkbkhacmaaGreat
open Go.RowKit Go.Sort

theorem eqV (x y : V) : decide (x = y) = ((x.k == y.k) && ((x.n == y.n) && ((x.s == y.s) && (x.b == y.b)))) := by
  obtain ⟨ak, an, as1, ab⟩ := x
  obtain ⟨bk, bn, bs, bb⟩ := y
  rw [Bool.eq_iff_iff]
  simp
set_option maxRecDepth 100000 in
set_option maxHeartbeats 4000000 in
theorem compactV_any (w : World) (base : Nat) (v : Value) (l : List V) (ho : w.ownsRow base 34 4 v l.length (l.flatMap vC)) (hl : l.length ≤ 1000000) :
    Calls Tryz.prog 20 #[v] w fun e w' => ∃ v', e = .returned v' ∧ w'.ownsRow base 34 4 v' (compE l).length ((compE l).flatMap vC) ∧ w.grownBy w' v.ownBlock ∧ v'.ownBlock = v.ownBlock := by
  by_cases h2 : l.length < 2
  · have hce : compE l = l := by
      match l, h2 with
      | [], _ => exact compE_nil
      | [x], _ => exact compE_one x
    rw [hce]
    obtain ⟨a, cap, rfl, hc, hm⟩ := Row.shape (own_row ho)
    have hd : decide ((l.length : Int) < 2) = true := decide_eq_true (by omega)
    have HO := Lib.hid ho
    clear ho hce
    generalize l.length = n at *
    go_enter Tryz.func20, Tryz.ntmps20
    go_wp2
    go_ret
    exact ⟨_, rfl, HO.out, ⟨rfl, rfl, rfl, Nat.le_refl _, fun _ _ _ => rfl⟩, rfl⟩
  · have hne : v ≠ .slice none 0 0 := by
      rintro rfl
      obtain ⟨_, _, e1, _, _⟩ := Row.shape (own_row ho)
      simp only [Value.slice.injEq] at e1
      omega
    rcases ho.2 with ⟨e0, _⟩ | ⟨g, cap, cur, rfl, hb, hg, hn, hm, hs, ht⟩
    · exact absurd e0 hne
    clear hne cur hg hs ht
    have hrow : ∀ wr : World, wr.ownsRow base 34 4 (.slice (some ⟨g, 0, none⟩) l.length cap) l.length (l.flatMap vC) → SetR wr (.slice (some ⟨g, 0, none⟩) l.length cap) l := fun wr h => own_row h
    have hd : decide ((l.length : Int) < 2) = false := decide_eq_false (by omega)
    have HO := Lib.hid ho
    clear ho
    have HROW := Lib.hid hrow
    clear hrow
    generalize hN : l.length = n at *
    have HN := Lib.hid hN
    clear hN
    go_enter Tryz.func20, Tryz.ntmps20
    go_wp2_with fail
    go_loopw [3] (fun i wr => ∃ k : Nat, 1 ≤ k ∧ k ≤ n ∧ i = .int .i64 k ∧ Hid (compE (l.take k) = l.take k) ∧ Hid (wr.ownsRow base 34 4 (.slice (some ⟨g, 0, none⟩) n cap) n (l.flatMap vC)) ∧ Hid (w.grownBy wr (some g))) (fun i _ => n - (intOf i).toNat)
    case atStart =>
      refine ⟨1, Nat.le_refl _, by omega, rfl, ?_, HO, ⟨rfl, rfl, rfl, Nat.le_refl _, fun _ _ _ => rfl⟩⟩
      show compE (l.take 1) = l.take 1
      match l, HN.out with
      | [], _ => exact compE_nil
      | x :: r, _ => exact compE_one x
    case round =>
      obtain ⟨k, hk1, hk, rfl, hc, hown, hgr⟩ := hrel
      by_cases hlt : k < n
      · have hI : decide ((k : Int) < (n : Int)) = true := decide_eq_true (by omega)
        have k1 : k < l.length := by rw [HN.out]; exact hlt
        have k0 : k - 1 < l.length := by omega
        have hset : SetR wr (.slice (some ⟨g, 0, none⟩) n cap) l := by have := HROW.out wr hown.out; exact this
        obtain ⟨_, _, e1, f0, f1, f2, f3⟩ := SetR.at hset k1
        cases e1
        obtain ⟨_, _, e1, g0, g1, g2, g3⟩ := SetR.at hset k0
        cases e1
        simp only [Nat.zero_add] at f0 f1 f2 f3 g0 g1 g2 g3
        have hcm : ((k : Int) - 1) = ((k - 1 : Nat) : Int) := by omega
        obtain ⟨E, hE⟩ : ∃ E : Bool, E = decide (l[k] = l[k - 1]) := ⟨_, rfl⟩
        have HE := Lib.hid hE
        clear hE
        go_upto_region 6 with fail
        go_cut [25] from 16 to 25 (fun v25 wx => v25 = .bool E ∧ ∃ q, wx = wr.drewN q)
        case first =>
          have HE2 : Hid (E = _) := HE.out.trans (eqV _ _)
          clear HE
          generalize l[k] = x at *
          generalize l[k - 1] = y at *
          clear hc hown hgr hset HO HROW HN
          have hi0 : (0 : Int) ≤ (k : Int) - 1 := by omega
          have hi1 : (k : Int) - 1 < (n : Int) := by omega
          have hi2 : ((k : Int) - 1).toNat = k - 1 := by omega
          cases b1 : (x.k == y.k)
          · go_quiet (fail)
            go_wp2_with fail
            go_meet
            exact ⟨by rw [HE2.out, b1]; rfl, _, rfl⟩
          · cases b2 : (x.n == y.n)
            · go_quiet (fail)
              go_wp2_with fail
              go_meet
              exact ⟨by rw [HE2.out, b1, b2]; rfl, _, rfl⟩
            · cases b3 : (x.s == y.s)
              · go_quiet (fail)
                go_wp2_with fail
                go_meet
                exact ⟨by rw [HE2.out, b1, b2, b3]; rfl, _, rfl⟩
              · cases b4 : (x.b == y.b)
                · go_quiet (fail)
                  go_wp2_with fail
                  go_meet
                  exact ⟨by rw [HE2.out, b1, b2, b3, b4]; rfl, _, rfl⟩
                · go_quiet (fail)
                  go_wp2_with fail
                  go_meet
                  exact ⟨by rw [HE2.out, b1, b2, b3, b4]; rfl, _, rfl⟩
        case rest =>
          obtain ⟨rfl, q, rfl⟩ := hcut
          clear f0 f1 f2 f3 g0 g1 g2 g3
          obtain ⟨m, rfl⟩ : ∃ m, k = m + 1 := ⟨k - 1, by omega⟩
          have hct := compE_take (l := l) (n := m) k1
          cases E
          · have hne : l[m + 1] ≠ l[m] := of_decide_eq_false HE.out.symm
            have hc2 : Hid (compE (l.take (m + 1 + 1)) = l.take (m + 1 + 1)) := by
              show _ = _
              rw [hct, if_neg hne, hc.out, ← List.take_succ_eq_append_getElem k1]
            clear hct hne HE
            go_wp2_with fail
            go_roundw
            case rel => exact ⟨m + 2, by omega, by omega, by go_num, hc2, own_drewN q hown.out, grown_drewN q hgr.out⟩
            case measure => simp [intOf]; omega
          · have heq : l[m + 1] = l[m] := of_decide_eq_true HE.out.symm
            have hstart : Hid (CompInv l l (m + 1) (m + 1 + 1)) := CompInv.start k1 hc.out heq
            clear hct heq HE
            have hcapn : m + 1 < cap := by omega
            have hne : ¬ cap = m + 1 := by omega
            go_wp2_with fail
            obtain ⟨d, hd⟩ : ∃ d, d = n - (m + 1) := ⟨_, rfl⟩
            obtain ⟨ce, hce⟩ : ∃ ce, ce = cap - (m + 1) := ⟨_, rfl⟩
            rw [← hd, ← hce]
            have hd1 : m + 1 + d = n := by omega
            have HD1 := Lib.hid hd1
            have hmn : m + 1 + d ≤ n := by omega
            have hd2 : d ≤ 1000000 := by omega
            have hd3 : d ≤ ce := by omega
            have hq0 : m + 1 ≤ n := by omega
            clear hd hce hd1
            go_loopw [3, 5] (fun kk jj wr2 => ∃ (q j : Nat) (r : List V), 1 ≤ j ∧ j ≤ d ∧ q + 1 ≤ m + 1 + j ∧ kk = .int .i64 q ∧ jj = .int .i64 j ∧ Hid (CompInv l r q (m + 1 + j)) ∧ Hid (wr2.ownsRow base 34 4 (.slice (some ⟨g, 0, none⟩) n cap) n (r.flatMap vC)) ∧ Hid (w.grownBy wr2 (some g))) (fun _ jj _ => d - (intOf jj).toNat)
            case atStart => exact ⟨m + 1, 1, l, Nat.le_refl _, by have := HD1.out; omega, by omega, rfl, rfl, hstart, own_drewN q hown.out, grown_drewN q hgr.out⟩
            case round =>
              clear hstart hown hgr hc hset hk1 hk
              obtain ⟨q, j, r, hj1, hj, hq, rfl, rfl, hinv, hown, hgr⟩ := hrel
              by_cases hlt2 : j < d
              · have hI2 : decide ((j : Int) < (d : Int)) = true := decide_eq_true (by omega)
                have hil : m + 1 + j < l.length := by rw [HN.out]; have := HD1.out; omega
                have k0 : m + 1 + j - 1 < l.length := by omega
                obtain ⟨r1, r2, er1, er2⟩ := hinv.out.at hil
                have hlr : r.length = n := by rw [hinv.out.len, HN.out]
                have hset2 : SetR wr (.slice (some ⟨g, 0, none⟩) n cap) r := by unfold SetR; rw [hlr]; exact own_row hown.out
                obtain ⟨_, _, e1, f0, f1, f2, f3⟩ := SetR.at hset2 r1
                cases e1
                obtain ⟨_, _, e1, g0, g1, g2, g3⟩ := SetR.at hset2 r2
                cases e1
                rw [er1] at f0 f1 f2 f3
                rw [er2] at g0 g1 g2 g3
                have ea : (m + 1 + j) * 4 = (m + 1) * 4 + j * 4 := by omega
                have eb : (m + 1 + j - 1) * 4 = (m + 1) * 4 + (j - 1) * 4 := by omega
                simp only [Nat.zero_add, ea] at f0 f1 f2 f3
                simp only [Nat.zero_add, eb] at g0 g1 g2 g3
                obtain ⟨E, hE⟩ : ∃ E : Bool, E = decide (l[m + 1 + j] = l[m + 1 + j - 1]'k0) := ⟨_, rfl⟩
                have HE := Lib.hid hE
                clear hE ea eb er1 er2 r1 r2 hset2
                have hsame := fun h => hinv.out.same hil h
                have hnext := fun h => hinv.out.next hil h
                have HS := Lib.hid hsame
                have HX := Lib.hid hnext
                clear hsame hnext
                generalize l[m + 1 + j] = x at *
                generalize l[m + 1 + j - 1]'k0 = y at *
                have hlr2 : n ≤ r.length := by omega
                clear hinv hlr
                have hi0 : (0 : Int) ≤ (j : Int) - 1 := by omega
                have hi1 : (j : Int) - 1 < (d : Int) := by omega
                have hi2 : ((j : Int) - 1).toNat = j - 1 := by omega
                go_upto_region 11 with fail
                go_cut [44] from 35 to 44 (fun v44 wx => v44 = .bool (!E) ∧ ∃ p, wx = wr.drewN p)
                case first =>
                  have HE2 : Hid (E = _) := HE.out.trans (eqV _ _)
                  clear HE HS HX hown hgr HO HROW HN HD1
                  cases b1 : (x.k == y.k)
                  · go_quiet (fail)
                    go_wp2_with fail
                    go_meet
                    exact ⟨by rw [HE2.out, b1]; rfl, _, rfl⟩
                  · cases b2 : (x.n == y.n)
                    · go_quiet (fail)
                      go_wp2_with fail
                      go_meet
                      exact ⟨by rw [HE2.out, b1, b2]; rfl, _, rfl⟩
                    · cases b3 : (x.s == y.s)
                      · go_quiet (fail)
                        go_wp2_with fail
                        go_meet
                        exact ⟨by rw [HE2.out, b1, b2, b3]; rfl, _, rfl⟩
                      · cases b4 : (x.b == y.b)
                        · go_quiet (fail)
                          go_wp2_with fail
                          go_meet
                          exact ⟨by rw [HE2.out, b1, b2, b3, b4]; rfl, _, rfl⟩
                        · go_quiet (fail)
                          go_wp2_with fail
                          go_meet
                          exact ⟨by rw [HE2.out, b1, b2, b3, b4]; rfl, _, rfl⟩
                case rest =>
                  obtain ⟨rfl, p, rfl⟩ := hcut
                  clear g0 g1 g2 g3 hi0 hi1 hi2
                  cases E
                  · have hxy : x ≠ y := of_decide_eq_false HE.out.symm
                    have hinv2 := Lib.hid (HX.out hxy)
                    clear hxy HS HX HE
                    have hql : q < r.length := by omega
                    have hth := own_there (own_drewN p hown.out) q 4 (by omega)
                    have hset3 := own_set vC vC_len (own_drewN p hown.out) q hql x
                    obtain ⟨wz, hwz⟩ : ∃ wz, (wr.drewN p).setCells g (q * 4) (vC x) = wz := ⟨_, rfl⟩
                    rw [hwz] at hset3
                    have HWZ := Lib.hid hwz
                    clear hwz
                    have HS3 := Lib.hid hset3.1
                    have HG3 := Lib.hid hset3.2
                    clear hset3
                    have hxp : Ext wr (wr.drewN p) := (Ext.refl wr).drewN p
                    have f0 := hxp.cell f0
                    have f1 := hxp.cell f1
                    have f2 := hxp.cell f2
                    have f3 := hxp.cell f3
                    have hqn : q < n := by omega
                    go_wp2_with (refine wpList_store_mid rfl 34 (.tmp 51) (.tmp 50) rfl g (q * 4) #[.int .i64 x.k, .int .i64 x.n, .string (strOf x.s), .bool x.b] rfl rfl hth size28 (by simp [Value.oneCell']) ?_; rw [show (wr.drewN p).setCells g (q * 4) (#[.int .i64 x.k, .int .i64 x.n, .string (strOf x.s), .bool x.b] : Array Value).toList = wz from HWZ.out])
                    go_roundw
                    case rel => (repeat apply Exists.intro); refine ⟨?_, rfl⟩; exact ⟨q + 1, j + 1, r.set q x, by omega, hlt2, by omega, by go_num, by go_num, hinv2, HS3.out, (grown_drewN p hgr.out).trans HG3.out⟩
                    case measure => simp [intOf]; omega
                  · have hxy : x = y := of_decide_eq_true HE.out.symm
                    have hinv2 := Lib.hid (HS.out hxy)
                    clear hxy HS HX HE f0 f1 f2 f3
                    go_wp2_with fail
                    go_roundw
                    case rel => exact ⟨q, j + 1, r, by omega, hlt2, by omega, rfl, by go_num, hinv2, own_drewN p hown.out, grown_drewN p hgr.out⟩
                    case measure => simp [intOf]; omega
              · obtain rfl : j = d := by omega
                have hI2 : decide ((j : Int) < (j : Int)) = false := decide_eq_false (by omega)
                have hdone := hinv.out
                rw [HD1.out, ← HN.out] at hdone
                obtain ⟨ht, hlen⟩ := hdone.done
                have hqn : q < n := by omega
                have hqc : ¬ cap = q := by omega
                have hqc2 : q ≤ cap := by omega
                have hcl := run_clear_tail hown.out 35 (.agg #[.int .i64 0, .int .i64 0, .string ⟨#[]⟩, .bool false]) rfl (by simp [Value.cells, Value.oneCell']) Tryz.underlying35 zero28 q (cap - q) hqn
                have hfin := own_clear_tail hown.out (Nat.le_of_lt hqn) (.agg #[.int .i64 0, .int .i64 0, .string ⟨#[]⟩, .bool false]) rfl
                have hres : Hid ((r.flatMap vC).take (q * 4) = (compE l).flatMap vC) := by show _ = _; rw [flat_take vC 4 vC_len, ht]
                have HL := Lib.hid hlen
                have HF := Lib.hid hfin
                generalize wr.setCells g (q * 4) (Builtin.zeroCells (Value.agg #[.int .i64 0, .int .i64 0, .string ⟨#[]⟩, .bool false]).cells (n - q)).toList = wz at *
                clear ht hlen hfin hinv hdone
                go_wp2_with fail
                go_ret
                refine ⟨_, rfl, ?_, hgr.out.trans HF.out.2, rfl⟩
                rw [HL.out, ← hres.out]
                exact HF.out.1
      · obtain rfl : k = n := by omega
        have hI : decide ((k : Int) < (k : Int)) = false := decide_eq_false (by omega)
        have hce : Hid (compE l = l) := by
          have h := hc.out
          rw [List.take_of_length_le (by rw [HN.out]; exact Nat.le_refl _)] at h
          exact h
        go_wp2_with fail
        go_ret
        refine ⟨_, rfl, ?_, hgr.out, rfl⟩
        rw [hce.out, HN.out]
        exact hown.out
end Go.Proofs.YtfkemgkbkhacmaaGreat
