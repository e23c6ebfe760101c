/- Spans that rise: how many there can be. No program is in sight.
The rule for a region that draws its order, over any way in which memory may turn (K1's rule, turned).
Cuts: less, end, eight, number, first.
What the rows' proofs share: arguments opened: values, sets, predicates, attributes, events, names. -/
import Derived.LoopN
import Derived.Test.YtcgflkfbjnpdiaaGreatProg
import Derived.ProofKit
import Derived.OpenShut
import Derived.ChangeOld
import Derived.SizedLaws
import Derived.Deep.Slices
import Derived.Deep.Fields
import Derived.ChangeSame
import Derived.Test.YtcgflkfbjnpdiaaGreatP4
import Derived.Test.YtcgflkfbjnpdiaaGreatP1
import Derived.Test.YtcgflkfbjnpdiaaGreatP3
import Derived.Test.YtcgflkfbjnpdiaaGreatP2
namespace Go.Proofs.YtcgflkfbjnpdiaaGreat

def Full (l : List Sp) : Prop := ∀ x ∈ l, Cut.lt x.lo x.hi = true
def Rise (l : List Sp) : Prop := Full l ∧ l.Pairwise fun x y => Cut.lt y.lo x.hi = false
theorem cut_asym {x y : Cut} (h : Cut.lt x y = true) : Cut.lt y x = false := by
  cases k : Cut.lt y x with
  | false => rfl
  | true => have := cut_trans h k; rw [cut_irr] at this; cases this
theorem minus1_split {s out : Sp} : minus1 s out = [s] ∨ (Cut.lt out.lo s.hi = true ∧ Cut.lt s.lo out.hi = true ∧ minus1 s out = fullS [⟨s.lo, out.lo⟩, ⟨out.hi, s.hi⟩]) := by
  unfold minus1
  by_cases hd : (!Cut.lt out.lo s.hi || !Cut.lt s.lo out.hi) = true
  · rw [if_pos hd]; exact .inl rfl
  · rw [if_neg hd]
    simp only [Bool.not_eq_true, Bool.or_eq_false_iff, Bool.not_eq_false'] at hd
    rw [if_pos hd.1, if_pos hd.2]
    exact .inr ⟨hd.1, hd.2, rfl⟩
theorem minus1_sub {s out x : Sp} (hs : Cut.lt s.lo s.hi = true) (h : x ∈ minus1 s out) : Cut.lt x.lo s.lo = false ∧ Cut.lt s.hi x.hi = false ∧ Cut.lt x.lo x.hi = true := by
  rcases minus1_split (s := s) (out := out) with e | ⟨h1, h2, e⟩
  · rw [e] at h
    rw [List.mem_singleton.1 h]
    exact ⟨cut_irr _, cut_irr _, hs⟩
  · rw [e] at h
    have h' := List.mem_filter.1 h
    rcases List.mem_cons.1 h'.1 with e | h3
    · subst e; exact ⟨cut_irr _, cut_asym h1, h'.2⟩
    · have e := List.mem_singleton.1 h3
      subst e; exact ⟨cut_asym h2, cut_irr _, h'.2⟩
theorem minus1_rise {s out : Sp} (ho : Cut.lt out.lo out.hi = true) : (minus1 s out).Pairwise fun x y => Cut.lt y.lo x.hi = false := by
  rcases minus1_split (s := s) (out := out) with e | ⟨_, _, e⟩
  · rw [e]; exact List.pairwise_singleton _ _
  · rw [e]
    refine List.Pairwise.filter _ (List.pairwise_cons.2 ⟨fun y hy => ?_, List.pairwise_singleton _ _⟩)
    rw [List.mem_singleton.1 hy]
    exact cut_asym ho
theorem minus1_two {s out : Sp} : (minus1 s out).length ≤ 1 ∨ ((minus1 s out).length = 2 ∧ Cut.lt s.lo out.lo = true ∧ Cut.lt out.hi s.hi = true) := by
  rcases minus1_split (s := s) (out := out) with e | ⟨_, _, e⟩
  · rw [e]; exact .inl (Nat.le_refl _)
  · rw [e]
    unfold fullS
    cases h1 : Cut.lt s.lo out.lo <;> cases h2 : Cut.lt out.hi s.hi <;> simp [h1, h2]
theorem flat_rise {out : Sp} (ho : Cut.lt out.lo out.hi = true) : ∀ {l : List Sp}, Rise l → Rise (l.flatMap fun s => minus1 s out) ∧ (l.flatMap fun s => minus1 s out).length ≤ l.length + 1
  | [], _ => ⟨⟨fun _ h => (by cases h), List.Pairwise.nil⟩, by simp⟩
  | s :: l, h => by
    have hp := List.pairwise_cons.1 h.2
    have hf : Full l := fun x hx => h.1 x (List.mem_cons_of_mem _ hx)
    have hs := h.1 s List.mem_cons_self
    obtain ⟨ih1, ih2⟩ := flat_rise ho ⟨hf, hp.2⟩
    rw [List.flatMap_cons]
    refine ⟨⟨fun x hx => ?_, List.pairwise_append.2 ⟨minus1_rise ho, ih1.2, fun x hx y hy => ?_⟩⟩, ?_⟩
    · rcases List.mem_append.1 hx with hx | hx
      · exact (minus1_sub hs hx).2.2
      · exact ih1.1 x hx
    · obtain ⟨t, ht, hy⟩ := List.mem_flatMap.1 hy
      have a := (minus1_sub (hf t ht) hy).1
      have b := hp.1 t ht
      have c := (minus1_sub hs hx).2.1
      exact cut_ntrans (cut_ntrans a b) c
    · rw [List.length_append, List.length_cons]
      rcases minus1_two (s := s) (out := out) with h1 | ⟨h1, h2, h3⟩
      · omega
      · have hl : ∀ m : List Sp, (∀ t ∈ m, (minus1 t out).length ≤ 1) → (m.flatMap fun s => minus1 s out).length ≤ m.length := fun m => by
          induction m with
          | nil => intro _; simp
          | cons t m ih =>
            intro hm
            have a := hm t List.mem_cons_self
            have b := ih fun u hu => hm u (List.mem_cons_of_mem _ hu)
            rw [List.flatMap_cons, List.length_append, List.length_cons]; omega
        have := hl l fun t ht => by
          rcases minus1_two (s := t) (out := out) with k | ⟨_, k2, k3⟩
          · exact k
          · exfalso
            have b := hp.1 t ht
            have e1 := cut_trans (cut_trans k2 ho) h3
            rw [b] at e1; cases e1
        omega
theorem minusL_rise : ∀ {m l : List Sp}, Full m → Rise l → Rise (minusL l m) ∧ (minusL l m).length ≤ l.length + m.length
  | [], l, _, h => ⟨h, Nat.le_refl _⟩
  | o :: m, l, hm, h => by
    obtain ⟨a, b⟩ := flat_rise (hm o List.mem_cons_self) h
    obtain ⟨c, d⟩ := minusL_rise (m := m) (fun x hx => hm x (List.mem_cons_of_mem _ hx)) a
    refine ⟨c, ?_⟩
    have : (minusL l (o :: m)).length ≤ (l.flatMap fun s => minus1 s o).length + m.length := d
    rw [List.length_cons]; omega

/-- Of no Kind more than n spans. -/
structure Few (n : Nat) (r : Rg) : Prop where
  i : r.i.length ≤ n
  s : r.s.length ≤ n
  b : r.b.length ≤ n
structure Rises (r : Rg) : Prop where
  i : Rise r.i
  s : Rise r.s
  b : Rise r.b
structure Fulls (r : Rg) : Prop where
  i : Full r.i
  s : Full r.s
  b : Full r.b
theorem Rises.full {r : Rg} (h : Rises r) : Fulls r := ⟨h.i.1, h.s.1, h.b.1⟩
theorem Good4.full {r : Rg} (h : Good4 r) : Fulls r := ⟨fun x hx => (h.i x hx).2.2, fun x hx => (h.s x hx).2.2, fun x hx => (h.b x hx).2.2⟩
theorem Few.mono {m n : Nat} {r : Rg} (h : Few m r) (k : m ≤ n) : Few n r := ⟨Nat.le_trans h.i k, Nat.le_trans h.s k, Nat.le_trans h.b k⟩
theorem Rises.minus {r q : Rg} (h : Rises r) (k : Fulls q) : Rises (r.minus q) := ⟨(minusL_rise k.i h.i).1, (minusL_rise k.s h.s).1, (minusL_rise k.b h.b).1⟩
theorem Few.minus {m n : Nat} {r q : Rg} (hr : Rises r) (hq : Fulls q) (h : Few m r) (k : Few n q) : Few (m + n) (r.minus q) := by
  have a := (minusL_rise hq.i hr.i).2
  have b := (minusL_rise hq.s hr.s).2
  have c := (minusL_rise hq.b hr.b).2
  have := h.i; have := h.s; have := h.b; have := k.i; have := k.s; have := k.b
  exact ⟨by show (minusL r.i q.i).length ≤ _; omega, by show (minusL r.s q.s).length ≤ _; omega, by show (minusL r.b q.b).length ≤ _; omega⟩
theorem Rises.and {r q : Rg} (h : Rises r) (k : Fulls q) : Rises (r.and q) := h.minus (h.minus k).full
theorem Few.and {m n : Nat} {r q : Rg} (hr : Rises r) (hq : Fulls q) (h : Few m r) (k : Few n q) : Few (m + (m + n)) (r.and q) := Few.minus hr (hr.minus hq).full h (Few.minus hr hq h k)
theorem rises_all : Rises allR := by
  have hg := good_all.full
  exact ⟨⟨hg.i, List.pairwise_singleton _ _⟩, ⟨hg.s, List.pairwise_singleton _ _⟩, ⟨hg.b, List.pairwise_singleton _ _⟩⟩
theorem few_all : Few 1 allR := ⟨Nat.le_refl _, Nat.le_refl _, Nat.le_refl _⟩
theorem rises_none : Rises noneR := ⟨⟨fun _ h => (by cases h), List.Pairwise.nil⟩, ⟨fun _ h => (by cases h), List.Pairwise.nil⟩, ⟨fun _ h => (by cases h), List.Pairwise.nil⟩⟩
theorem few_none : Few 0 noneR := ⟨Nat.le_refl _, Nat.le_refl _, Nat.le_refl _⟩
theorem few_set {n : Nat} (k : Int) {l : List Sp} (h : l.length ≤ n) : Few n (setR k l) := by
  unfold setR
  (repeat' split) <;> exact ⟨by simp <;> exact h, by simp <;> exact h, by simp <;> exact h⟩
theorem ofL_len (c : C) : (ofL c).length ≤ 2 := by
  unfold ofL fullS
  refine Nat.le_trans (List.length_filter_le _ _) ?_
  (repeat' split) <;> simp
theorem one_len (v : V) : (ofL ⟨[], 2, v, []⟩).length ≤ 1 := by
  unfold ofL fullS
  refine Nat.le_trans (List.length_filter_le _ _) ?_
  rw [if_pos rfl]; simp
theorem fold_few (l : List V) : ∀ (m : Nat) (r : Rg), Rises r → Few m r → Rises (l.foldl (fun r v => r.minus (oneV v)) r) ∧ Few (m + l.length) (l.foldl (fun r v => r.minus (oneV v)) r) := by
  induction l with
  | nil => intro m r h k; exact ⟨h, k⟩
  | cons v l ih =>
    intro m r h k
    have := ih (m + 1) (r.minus (oneV v)) (h.minus (good_one v).full) (Few.minus h (good_one v).full k (few_set _ (one_len v)))
    refine ⟨this.1, this.2.mono ?_⟩
    simp; omega
theorem may_set {c : C} (h : mayC c = true) : c.set.length ≤ 6 := by
  unfold mayC at h
  split at h
  · cases h
  · split at h
    · simp at h; rw [h.2]; simp
    · split at h
      · simp at h; rw [h.2]; simp
      · split at h
        · simp at h; rw [h.2]; simp
        · split at h
          · simp at h; omega
          · cases h
theorem few_of (c : C) : Few 8 (ofR c) := by
  unfold ofR
  by_cases hm : mayC c = true
  · rw [if_neg (by simp [hm])]
    have hs := may_set hm
    split
    · exact few_all.mono (by decide)
    · split
      · have := fold_few c.set 1 allR rises_all few_all
        exact (Few.minus rises_all this.1.full few_all this.2).mono (by omega)
      · exact (few_set _ (ofL_len c)).mono (by decide)
  · rw [if_pos (by simpa using hm)]
    exact few_none.mono (by decide)
theorem few_fold (name : List UInt8) (p : List C) : ∀ (m : Nat) (r : Rg), Rises r → Few m r → Rises (p.foldl (fun r c => if c.name = name then r.and (ofR c) else r) r) ∧ Few ((m + 8) * 2 ^ p.length) (p.foldl (fun r c => if c.name = name then r.and (ofR c) else r) r) := by
  induction p with
  | nil => intro m r h k; exact ⟨h, k.mono (by simp)⟩
  | cons c p ih =>
    intro m r h k
    have hp : (m + m + 8 + 8) * 2 ^ p.length ≤ (m + 8) * 2 ^ (c :: p).length := by
      rw [List.length_cons, Nat.pow_succ, Nat.mul_comm (2 ^ p.length) 2, ← Nat.mul_assoc]
      exact Nat.mul_le_mul_right _ (by omega)
    rw [List.foldl_cons]
    split
    · have := ih (m + m + 8) (r.and (ofR c)) (h.and (good_of c).full) ((Few.and h (good_of c).full k (few_of c)).mono (by omega))
      exact ⟨this.1, this.2.mono hp⟩
    · have := ih (m + m + 8) r h (k.mono (by omega))
      exact ⟨this.1, this.2.mono hp⟩
theorem few_asked (p : List C) (name : List UInt8) : Rises (askedF p name) ∧ Few 576 (askedF p name) := by
  unfold askedF
  by_cases hm : mayP p = true
  · rw [if_neg (by simp [hm])]
    have hl := may_len hm
    have := few_fold name p 1 allR rises_all few_all
    refine ⟨this.1, this.2.mono ?_⟩
    have : 2 ^ p.length ≤ 2 ^ 6 := Nat.pow_le_pow_right (by decide) hl
    omega
  · rw [if_pos (by simpa using hm)]
    exact ⟨rises_none, few_none.mono (by decide)⟩
end Go.Proofs.YtcgflkfbjnpdiaaGreat

namespace Go.Proofs.YtcgflkfbjnpdiaaGreat.Rg
open Go.RowKit

/-- A way in which memory may turn. -/
structure Step where
  rel : World → World → Prop
  refl : ∀ w : World, rel w w
  trans : ∀ {a b c : World}, rel a b → rel b c → rel a c
  drew : ∀ w : World, rel w w.drew

section
variable {P : Program} (S : Step)

/-- What an operation must come to: no panic, memory only grows, its value has its fact. -/
def endQ (F : Value → World → Prop) (o : Oper) (a : Act) (w : World) : Exit → Act → World → Prop :=
  fun e a' w' => e = .normal ∧ S.rel w w' ∧ a'.defers = a.defers ∧ F (match o.dst with | some d => a'.tmps.getD d undef | none => undef) w'

def Ob (P : Program) (ops : Array Oper) (F : Nat → Value → World → Prop) (a0 : Act) (w0 : World) (i : Nat) (o : Oper) (D : List (Nat × Tmp)) : Prop :=
  ∀ w, S.rel w0 w → depsThen F w D a0 (fun a => wpList P ops (endQ S (F i) o a w) [o] a w)

def Obs (P : Program) (ops : Array Oper) (F : Nat → Value → World → Prop) (a0 : Act) (w0 : World) : Nat → List Oper → List (List (Nat × Tmp)) → Prop
  | _, [], _ => True
  | i, o :: os, D => Ob S P ops F a0 w0 i o (D.headD []) ∧ Obs P ops F a0 w0 (i + 1) os D.tail


theorem Obs_get {ops : Array Oper} {F : Nat → Value → World → Prop} {a0 : Act} {w0 : World} : ∀ {l : List Oper} {k : Nat} {D : List (List (Nat × Tmp))}, Obs S P ops F a0 w0 k l D →
    ∀ i o, l[i]? = some o → Ob S P ops F a0 w0 (k + i) o (D.getD i [])
  | [], _, _, _, _, _, h => by simp at h
  | o :: os, k, D, hb, i, o', h => by
    simp only [Obs] at hb
    cases i with
    | zero => simp at h; subst h; cases D <;> simpa using hb.1
    | succ i =>
      have := Obs_get hb.2 i o' (by simpa using h)
      cases D <;> simpa [Nat.add_assoc, Nat.add_comm 1 i] using this

structure Inv (ops : Array Oper) (F : Nat → Value → World → Prop) (a0 : Act) (w0 : World) (listed : Array Bool) (a : Act) (w : World) : Prop where
  size : listed.size = ops.size
  ts : a.tmps.size = a0.tmps.size
  df : a.defers = a0.defers
  old : ∀ s, (∀ j, dstOf ops j = some s → listed.getD j false = false) → a.tmps.getD s undef = a0.tmps.getD s undef
  fact : ∀ j, j < ops.size → listed.getD j false = true → F j (match dstOf ops j with | some d => a.tmps.getD d undef | none => undef) w
  down : ∀ j, listed.getD j false = true → ∀ i, waits ops j i = true → listed.getD i false = true
  ext : S.rel w0 w

theorem region_any {ops : Array Oper} {F : Nat → Value → World → Prop} {a0 : Act} {w0 : World} {D : List (List (Nat × Tmp))} {E : List (Nat × Tmp)} {Q : Exit → Act → World → Prop}
    (hok : opsOk ops a0.tmps.size 0 ops.toList D = true) (hE : endOk ops E = true)
    (hst : ∀ i v w w', S.rel w w' → F i v w → F i v w')
    (hob : Obs S P ops F a0 w0 0 ops.toList D)
    (hend : ∀ w, S.rel w0 w → depsThen F w E a0 (fun a => Q .normal a w)) :
    ∀ (fuel : Nat) (listed : Array Bool) (a : Act) (w : World), listed.count false = fuel → Inv S ops F a0 w0 listed a w → wpAny P .any ops Q fuel listed a w := by
  have hall : ∀ {i o}, ops[i]? = some o → opOk ops a0.tmps.size i o (D.getD i []) = true := fun {i o} h => by
    have := opsOk_get hok i o (by simpa using h); simpa using this
  have hobs : ∀ {i o}, ops[i]? = some o → Ob S P ops F a0 w0 i o (D.getD i []) := fun {i o} h => by
    have := Obs_get S hob i o (by simpa using h); simpa using this
  -- all that are listed: the end
  have fin : ∀ (listed : Array Bool) (a : Act) (w : World), (∀ j, j < ops.size → listed.getD j false = true) → Inv S ops F a0 w0 listed a w → Q .normal a w := by
    intro listed a w hl hI
    simp only [endOk, Bool.and_eq_true] at hE
    have hdl : ∀ {j d}, dstOf ops j = some d → j < ops.size := fun {j d} hj => by
      unfold dstOf at hj
      rcases Nat.lt_or_ge j ops.size with h' | h'
      · exact h'
      · rw [Array.getElem?_eq_none h'] at hj; cases hj
    obtain ⟨c, hk, hc1, hc2, hc3⟩ := depsThen_at a _ E a0 hI.ts.symm (fun p hp => by
      have hd : dstOf ops p.1 = some p.2 := by simpa using List.all_eq_true.1 hE.1 p hp
      have := hI.fact p.1 (hdl hd) (hl p.1 (hdl hd))
      simp only [hd] at this
      exact this) (hend w hI.ext)
    have : c = a := by
      obtain ⟨ct, cd⟩ := c
      obtain ⟨at', ad⟩ := a
      have e2 : cd = ad := hc2.trans hI.df.symm
      have e1 : ct = at' := by
        apply Array.ext_getElem?
        intro s
        refine tmps_ext (a := ⟨ct, cd⟩) (b := ⟨at', ad⟩) hc1 ?_
        rw [hc3]
        split
        · rfl
        · rename_i hn
          refine (hI.old s fun j hj => ?_).symm
          exfalso
          have h2 := List.all_eq_true.1 hE.2 j (List.mem_range.2 (hdl hj))
          simp only [hj, List.any_eq_true, beq_iff_eq] at h2
          obtain ⟨p, hp, hpj⟩ := h2
          have hd : dstOf ops p.1 = some p.2 := by simpa using List.all_eq_true.1 hE.1 p hp
          rw [hpj, hj] at hd
          exact hn ⟨p, hp, (Option.some.inj hd).symm⟩
      rw [e1, e2]
    rw [← this]; exact hk
  -- nothing ready: all are listed
  have noReady : ∀ (listed : Array Bool), listed.size = ops.size → Region.ready .any ops listed = [] → ∀ j, j < ops.size → listed.getD j false = true := by
    intro listed hs hr j
    induction j using Nat.strongRecOn with
    | _ j ih =>
      intro hj
      cases hlj : listed.getD j false with
      | true => rfl
      | false =>
        exfalso
        have ho : ops[j]? = some ops[j] := by simp [hj]
        have hmem : j ∈ Region.ready .any ops listed := by
          refine mem_ready.2 ⟨?_, ops[j], ho, fun e he hb => ?_⟩
          · have : j < listed.size := hs ▸ hj
            simp [this] at hlj ⊢; exact hlj
          · have h1 := hall ho
            simp only [opOk, Bool.and_eq_true] at h1
            have h2 := (Array.all_eq_true_iff_forall_mem.1 h1.1.2) e he
            simp [hb] at h2
            exact ih e.on h2 (by omega)
        rw [hr] at hmem
        cases hmem
  intro fuel
  induction fuel with
  | zero =>
    intro listed a w hc hI
    have hl : ∀ j, j < ops.size → listed.getD j false = true := by
      intro j hj
      have hj' : j < listed.size := hI.size ▸ hj
      have := Array.count_eq_zero.1 hc
      have h2 : listed[j] ≠ false := fun e => this (e ▸ Array.getElem_mem hj')
      simp [hj']; simpa using h2
    refine ⟨?_, fin listed a w hl hI⟩
    cases hr : Region.ready .any ops listed with
    | nil => rfl
    | cons i rs =>
      have hm : i ∈ Region.ready .any ops listed := by rw [hr]; exact List.mem_cons_self
      obtain ⟨h0, o, ho, _⟩ := mem_ready.1 hm
      have hi : i < ops.size := (Array.getElem?_eq_some_iff.1 ho).1
      have h1 := hl i hi
      have hi' : i < listed.size := hI.size ▸ hi
      simp [hi'] at h0 h1
      rw [h0] at h1; cases h1
  | succ fuel ih =>
    intro listed a w hc hI
    refine ⟨fun hr => fin listed a w (noReady listed hI.size hr) hI, fun i hi => ?_⟩
    obtain ⟨h0, o, ho, hafter⟩ := mem_ready.1 hi
    have hil : i < ops.size := (Array.getElem?_eq_some_iff.1 ho).1
    have hil' : i < listed.size := hI.size ▸ hil
    have h0' : listed.getD i false = false := by simp [hil'] at h0 ⊢; exact h0
    have hopk := hall ho
    simp only [opOk, Bool.and_eq_true] at hopk
    obtain ⟨⟨⟨⟨hk1, hk2⟩, hk3⟩, hk4⟩, hk5⟩ := hopk
    have hdep2 : ∀ p ∈ D.getD i [], waits ops i p.1 = true ∧ dstOf ops p.1 = some p.2 := fun p hp => by
      have := List.all_eq_true.1 hk3 p hp
      simpa using this
    have hdeps : ∀ p ∈ D.getD i [], listed.getD p.1 false = true := fun p hp => waits_of_ready hi p.1 (hdep2 p hp).1
    have hsel : ∀ cs b, o.op ≠ .select cs b := by intro cs b e; rw [e] at hk2; cases hk2
    have hjlt : ∀ j, listed.getD j false = true → j < ops.size := fun j hj => by
      rcases Nat.lt_or_ge j listed.size with h' | h'
      · exact hI.size ▸ h'
      · simp [Array.getElem?_eq_none h'] at hj
    obtain ⟨c, hk, hc1, hc2, hc3⟩ := depsThen_at a _ (D.getD i []) a0 hI.ts.symm (fun p hp => by
      have := hI.fact p.1 (hjlt p.1 (hdeps p hp)) (hdeps p hp)
      simp only [(hdep2 p hp).2] at this
      exact this) (hobs ho w hI.ext)
    -- what the operation looks at stands in 'c' as in 'a'
    have same : ∀ s ∈ o.looksAt ops, c.tmps[s]? = a.tmps[s]? := by
      intro s hs
      refine tmps_ext hc1 ?_
      rw [hc3]
      split
      · rfl
      · rename_i hn
        refine (hI.old s fun j hj => ?_).symm
        have hjl : j < ops.size := by
          unfold dstOf at hj
          rcases Nat.lt_or_ge j ops.size with h' | h'
          · exact h'
          · rw [Array.getElem?_eq_none h'] at hj; cases hj
        have h1 := List.all_eq_true.1 (List.all_eq_true.1 hk5 s hs) j (List.mem_range.2 hjl)
        simp only [Bool.or_eq_true, bne_iff_ne, ne_eq, beq_iff_eq] at h1
        rcases h1 with ((h1 | h1) | h1) | h1
        · exact absurd hj h1
        · exfalso
          rw [List.any_eq_true] at h1
          obtain ⟨p, hp, hpj⟩ := h1
          have hd := (hdep2 p hp).2
          rw [eq_of_beq hpj, hj] at hd
          exact hn ⟨p, hp, (Option.some.inj hd).symm⟩
        · rw [h1]; exact h0'
        · cases hlj : listed.getD j false with
          | false => rfl
          | true => have := hI.down j hlj i h1; rw [h0'] at this; cases this
    have heval : execOp c.eval o = execOp a.eval o := execOp_congr o hsel fun x hx => by
      cases x with
      | tmp t =>
        have := same t (List.mem_append_left _ (List.mem_filterMap.2 ⟨.tmp t, by simpa using hx, rfl⟩))
        simp [Act.eval, this]
      | _ => rfl
    have hwant : Region.wanted o (yielded ops c.tmps) = Region.wanted o (yielded ops a.tmps) := by
      unfold Region.wanted
      cases hg : o.guard with
      | none => rfl
      | some gw =>
        obtain ⟨g, want⟩ := gw
        have hy : yielded ops c.tmps g = yielded ops a.tmps g := by
          unfold yielded
          cases ht : (ops[g]?).bind (·.dst) with
          | none => rfl
          | some t =>
            have := same t (by simp [Oper.looksAt, hg, ht])
            simp [this]
        simp only [hy]
    -- the invariant behind the operation
    have next : ∀ v w', S.rel w w' → F i (match o.dst with | some d => (c.put o.dst v).tmps.getD d undef | none => undef) w' →
        wpAny P .any ops Q fuel (listed.setIfInBounds i true) (a.put o.dst v) w' := by
      intro v w' hx hF
      have hdst : dstOf ops i = o.dst := by simp [dstOf, ho]
      refine ih _ _ _ ?_ ⟨by simpa using hI.size, by rw [put_size]; exact hI.ts, by rw [put_defers]; exact hI.df, ?_, ?_, ?_, S.trans hI.ext hx⟩
      · have hset : listed.setIfInBounds i true = listed.set i true hil' := by simp [Array.setIfInBounds, hil']
        rw [hset, Array.count_set]
        have : listed[i] = false := by simpa [hil'] using h0'
        simp [this]; omega
      · intro s hs
        have hne : o.dst ≠ some s := fun e => by
          have := hs i (hdst.trans e)
          simp [hil'] at this
        rw [put_getD_ne _ hne]
        refine hI.old s fun j hj => ?_
        by_cases hji : i = j
        · rw [← hji]; exact h0'
        · have := hs j hj
          rwa [getD_set_ne false hji] at this
      · intro j hj hlj
        by_cases hji : i = j
        · subst hji
          rw [hdst]
          cases hd : o.dst with
          | none => simp only [hd] at hF; exact hF
          | some d =>
            simp only [hd] at hF hk1
            simp only [Bool.and_eq_true, decide_eq_true_eq] at hk1
            rw [put_getD_eq _ (by rw [hc1, hI.ts]; exact hk1.1)] at hF
            show F i ((a.put (some d) v).tmps.getD d undef) w'
            rw [put_getD_eq _ (by rw [hI.ts]; exact hk1.1)]
            exact hF
        · rw [getD_set_ne false hji] at hlj
          have hfj := hst _ _ _ _ hx (hI.fact j hj hlj)
          cases hdj : dstOf ops j with
          | none => simp only [hdj] at hfj; exact hfj
          | some d =>
            simp only [hdj] at hfj
            have hne : o.dst ≠ some d := fun e => by
              rw [e] at hk1
              simp only [Bool.and_eq_true] at hk1
              have := List.all_eq_true.1 hk1.2 j (List.mem_range.2 hj)
              simp [hdj, Ne.symm hji] at this
            show F j ((a.put o.dst v).tmps.getD d undef) w'
            rw [put_getD_ne _ hne]
            exact hfj
      · intro j hlj k hw
        by_cases hji : i = j
        · subst hji; exact getD_set_true (waits_of_ready hi k hw)
        · rw [getD_set_ne false hji] at hlj
          exact getD_set_true (hI.down j hlj k hw)
    -- the operation itself
    unfold wpOp
    rw [ho]
    simp only []
    rw [← hwant]
    simp only [wpList] at hk
    split
    · rename_i hw
      rw [if_pos hw] at hk
      rcases hk with hk | ⟨_, x, y, hxy⟩
      · refine .inl ?_
        unfold Oper.wp at hk ⊢
        rw [heval] at hk
        generalize (execOp a.eval o).run P w = r at *
        cases r with
        | ok n w' =>
          cases n <;> simp only [Oper.upon] at hk ⊢
          case value u => exact next u w' hk.2.1 hk.2.2.2
          case skip => exact next undef w' hk.2.1 hk.2.2.2
          case defer d =>
            have := hk.2.2.1
            rw [put_defers] at this
            exact absurd this (by simp)
          case enter f args =>
            refine Calls.mono hk fun e w'' he => ?_
            cases e with
            | returned u => exact next u w'' he.2.1 he.2.2.2
            | panicked c => exact absurd he.1 (by simp)
            | outgrown => obtain ⟨_, _, h⟩ := he; exact absurd h.1 (by simp)
          case row row args => exact Rows.mono hk fun u w'' he => next u w'' he.2.1 he.2.2.2
        | halt x w' =>
          cases x <;> simp only [Oper.upon] at hk ⊢
          case panic u => exact absurd hk.1 (by simp)
      · exact absurd hxy.1 (by simp)
    · rename_i hw
      rw [if_neg hw] at hk
      exact next undef w hk.2.1 hk.2.2.2

/-- A fact on a value that stays true while memory only grows. -/
structure Fact where
  p : Value → World → Prop
  st : ∀ v w w', S.rel w w' → p v w → p v w'

def Fact.any : Fact S := ⟨fun _ _ => True, fun _ _ _ _ h => h⟩
def Fact.eq (u : Value) : Fact S := ⟨fun v _ => v = u, fun _ _ _ _ h => h⟩
/-- The facts of the operations in order. -/
def factAt (Fs : List (Fact S)) (i : Nat) : Value → World → Prop := (Fs.getD i (Fact.any S)).p

/-- A REGION THAT DRAWS ITS ORDER: each operation is shown once, over the facts of those that it waits for (D: for each operation their numbers and slots; E: of all). -/
theorem wp_region_facts {id : Nat} {l : List Oper} (Fs : List (Fact S)) (D : List (List (Nat × Tmp))) (E : List (Nat × Tmp)) {a0 : Act} {w0 : World} {Q : Exit → Act → World → Prop}
    (hm : P.follows .mixedOrders = true)
    (hok : (opsOk l.toArray a0.tmps.size 0 l D && endOk l.toArray E) = true)
    (hob : Obs S P l.toArray (factAt S Fs) a0 w0 0 l D)
    (hend : ∀ w, S.rel w0 w → depsThen (factAt S Fs) w E a0 (fun a => Q .normal a w)) :
    (Code.region id l.toArray true).wp P Q a0 w0 := by
  simp only [Bool.and_eq_true] at hok
  refine wp_region_any hm (region_any S (F := factAt S Fs) (D := D) (E := E) (w0 := w0) (by simpa using hok.1) hok.2 (fun i v w w' hx h => (Fs.getD i (Fact.any S)).st v w w' hx h) (by simpa using hob) hend _ _ _ _ ?_ ?_)
  · simp
  · have hno : ∀ j, (Array.replicate l.toArray.size false).getD j false = false := fun j => by
      simp only [Array.getD_eq_getD_getElem?, Array.getElem?_replicate]; split <;> rfl
    exact ⟨by simp, rfl, rfl, fun _ _ => rfl, fun j _ h => (by rw [hno] at h; cases h), fun j h => (by rw [hno] at h; cases h), S.drew w0⟩

theorem ob_val {F : Value → World → Prop} {ops : Array Oper} {a : Act} {w w' : World} {o : Oper} {v : Value} {d : Nat}
    (hw : Region.wanted o (yielded ops a.tmps) = true) (hr : (execOp a.eval o).run P w = .ok (.value v) w') (hx : S.rel w w') (hd : o.dst = some d) (hs : decide (d < a.tmps.size) = true) (hf : F v w') :
    wpList P ops (endQ S F o a w) [o] a w := by
  refine wpList_val hw hr (wpList_nil ⟨rfl, hx, put_defers _ _ _, ?_⟩)
  rw [hd]
  show F ((a.put (some d) v).tmps.getD d undef) w'
  rw [put_getD_eq _ (of_decide_eq_true hs)]; exact hf
theorem ob_move {F : Value → World → Prop} {ops : Array Oper} {a : Act} {w : World} {o : Oper} {x : Operand} {d : Nat}
    (hw : Region.wanted o (yielded ops a.tmps) = true) (ho : o.op = .move x) (hd : o.dst = some d) (hs : decide (d < a.tmps.size) = true) (hf : F (a.eval x) w) :
    wpList P ops (endQ S F o a w) [o] a w := ob_val S hw (by simp [execOp, ho]) (S.refl w) hd hs hf
theorem ob_assign {F : Value → World → Prop} {ops : Array Oper} {a : Act} {w : World} {o : Oper} {x : Operand} {d : Nat}
    (hw : Region.wanted o (yielded ops a.tmps) = true) (ho : o.op = .assign x) (hd : o.dst = some d) (hs : decide (d < a.tmps.size) = true) (hf : F (a.eval x) w) :
    wpList P ops (endQ S F o a w) [o] a w := ob_val S hw (by simp [execOp, ho]) (S.refl w) hd hs hf

end
end Go.Proofs.YtcgflkfbjnpdiaaGreat.Rg

namespace Go.Proofs.YtcgflkfbjnpdiaaGreat
open Go.RowKit

set_option maxRecDepth 100000 in
set_option maxHeartbeats 2000000 in
theorem less_any (w : World) (x y : Cut) : Calls Tryz.prog 118 #[.agg #[.string (strOf x.a), .bool x.e], .agg #[.string (strOf y.a), .bool y.e]] w fun e w' => e = .returned (.bool (Cut.lt x y)) ∧ Ext w w' := by
  obtain ⟨xa, xe⟩ := x
  obtain ⟨ya, ye⟩ := y
  have hx0 : Ext w ((w.alloc (.cells #[.string (strOf xa), .bool xe] 111)).alloc (.cells #[.string (strOf ya), .bool ye] 111)) := ((Ext.refl w).alloc _).alloc _
  unfold Cut.lt
  simp only
  cases xe
  · cases ye
    · cases hb : Op.bytesLess xa ya
      · go_enter Tryz.func118, Tryz.ntmps118
        go_wp2
        go_ret
        exact ⟨rfl, hx0⟩
      · go_enter Tryz.func118, Tryz.ntmps118
        go_wp2
        go_ret
        exact ⟨rfl, hx0⟩
    · go_enter Tryz.func118, Tryz.ntmps118
      go_wp2
      go_ret
      exact ⟨rfl, hx0⟩
  · go_enter Tryz.func118, Tryz.ntmps118
    go_wp2
    go_ret
    exact ⟨rfl, hx0⟩

set_option maxRecDepth 100000 in
theorem end_any (w : World) : Calls Tryz.prog 112 #[] w fun e w' => e = .returned (.agg #[.string ⟨#[]⟩, .bool true]) ∧ Ext w w' := by
  go_enter Tryz.func112, Tryz.ntmps112
  go_wp2
  have hR := heap_alloc_new w (.cells #[.string ⟨#[]⟩, .bool true] 111)
  have r0 := cell_of_row _ _ 0 _ _ _ hR
  have r1 := cell_of_row _ _ 1 _ _ _ hR
  refine bodyPost_ret (v := .agg #[.string ⟨#[]⟩, .bool true]) (by simp [results, Tryz.results112, go_sem, r0, r1]) rfl ⟨rfl, (Ext.refl w).alloc _⟩

theorem info5t : (Tryz.prog.info? 5).map (fun i => (i.zero, i.size, i.bytes)) = some (some (.int .u8 0), 1, 1) := by kernel_rfl
theorem eight_take (n : Nat) (j : Nat) (hj : j < 8) : (eightF n).take (j + 1) = (eightF n).take j ++ [UInt8.ofNat (n / 256 ^ (7 - j) % 256)] := by
  match j, hj with
  | 0, _ => simp [eightF, eightN, Nat.div_div_eq_div_mul]
  | 1, _ => simp [eightF, eightN, Nat.div_div_eq_div_mul]
  | 2, _ => simp [eightF, eightN, Nat.div_div_eq_div_mul]
  | 3, _ => simp [eightF, eightN, Nat.div_div_eq_div_mul]
  | 4, _ => simp [eightF, eightN, Nat.div_div_eq_div_mul]
  | 5, _ => simp [eightF, eightN, Nat.div_div_eq_div_mul]
  | 6, _ => simp [eightF, eightN, Nat.div_div_eq_div_mul]
  | 7, _ => simp [eightF, eightN, Nat.div_div_eq_div_mul]
theorem own_later {w w' : World} {base size n : Nat} {e : TypeId} {v : Value} {xs : List Value} (h : w.ownsRow base e size v n xs) (hx : Ext w w') : w'.ownsRow base e size v n xs := by
  refine ⟨h.1, ?_⟩
  rcases h.2 with h0 | ⟨g, cap, cur, e0, hb, hg, hn, hm, hs, ht⟩
  · exact .inl h0
  · exact .inr ⟨g, cap, cur, e0, hb, by rw [hx.block g (Array.getElem?_eq_some_iff.1 hg).1]; exact hg, hn, hm, hs, ht⟩
def bs (l : List UInt8) : List Value := l.map fun c => Value.int .u8 (c.toNat : Int)
theorem bs_one (l : List UInt8) : ∀ u ∈ bs l, u.oneCell' = true := fun u hu => by
  obtain ⟨c, _, rfl⟩ := List.mem_map.1 hu; rfl
theorem eight_row (w : World) (n j : Nat) (V : Int) (hV : V = ((n / 256 ^ (7 - j) % 256 : Nat) : Int)) : Row (w.alloc (.cells #[.int .u8 V] 5)) 1 (.slice (some ⟨w.heap.size, 0, none⟩) 1 1) 1 (bs [UInt8.ofNat (n / 256 ^ (7 - j) % 256)]) := by
  have e : bs [UInt8.ofNat (n / 256 ^ (7 - j) % 256)] = [Value.int .u8 V] := by
    have : (UInt8.ofNat (n / 256 ^ (7 - j) % 256)).toNat = n / 256 ^ (7 - j) % 256 := by rw [UInt8.toNat_ofNat']; omega
    unfold bs
    rw [List.map_singleton, this, hV]
  rw [e]
  exact Row.of_own (World.ownsRow_lit (base := w.heap.size) (e := 5) (size := 1) w #[.int .u8 V] 1 (Nat.le_refl _) (by decide) rfl)
/-- Eight bytes of the call's own, j of them there. -/
def EightO (w : World) (n j : Nat) (v : Value) (w' : World) : Prop := w'.ownsRow w.heap.size 5 1 v j (bs ((eightF n).take j)) ∧ Ext w w'
theorem eight_next {w : World} {n j : Nat} (hj : j < 8) {v v' : Value} {wj w' : World} (o : Obj) (h : EightO w n j v wj) (ho : w'.ownsRow w.heap.size 5 1 v' (j + 1) (bs ((eightF n).take j) ++ bs [UInt8.ofNat (n / 256 ^ (7 - j) % 256)])) (hg : (wj.alloc o).grownBy w' v.ownBlock) : EightO w n (j + 1) v' w' := by
  refine ⟨?_, (h.2.alloc o).grown_none hg (own_base h.1)⟩
  rw [eight_take n j hj]
  unfold bs at ho ⊢
  rw [List.map_append]
  exact ho

set_option maxRecDepth 100000 in
set_option maxHeartbeats 4000000 in
theorem eight_any (w : World) (n : Nat) (hn : n < 18446744073709551616) : Calls Tryz.prog 168 #[.int .u64 n] w fun e w' => ∃ v, e = .returned v ∧ Bytes w' v (eightF n) ∧ Ext w w' := by
  have hone : ∀ j : Nat, ∀ u ∈ bs [UInt8.ofNat (n / 256 ^ (7 - j) % 256)], u.oneCell' = true := fun j => bs_one _
  have HONE := Lib.hid hone
  have H0 : Hid (EightO w n 0 (.slice none 0 0) w) := ⟨⟨rfl, .inl ⟨rfl, rfl⟩⟩, Ext.refl w⟩
  clear hone
  go_enter Tryz.func168, Tryz.ntmps168
  go_wp2_with fail
  refine wp_loop_rounds 9 ?_
  rw [rounds_succ]
  have R0 := Lib.hid (eight_row w n 0 ((n : Int) / 72057594037927936) (by omega))
  have hx := (H0.out.2.alloc (.cells #[.int .u8 ((n : Int) / 72057594037927936)] 5)).size
  have ho := Lib.hid (own_later H0.out.1 ((Ext.refl w).alloc (.cells #[.int .u8 ((n : Int) / 72057594037927936)] 5)))
  go_wp2_with (at_builtin; refine wpList_append_row 165 5 (.tmp 9) (.tmp 14) rfl w.heap.size _ 1 1 Tryz.underlying165 info5t rfl (by decide) rfl _ 0 (bs ((eightF n).take 0)) rfl ho.out 1 (bs [UInt8.ofNat (n / 256 ^ (7 - 0) % 256)]) R0.out (HONE.out 0) (by decide) (by decide) hx ?_; intro v1 w1 hown hg; have H1 := Lib.hid (eight_next (by decide) _ H0.out hown hg); clear hown hg)
  clear R0 hx ho H0
  rw [rounds_succ]
  have R1 := Lib.hid (eight_row w1 n 1 ((n : Int) / 281474976710656 % 256) (by omega))
  have hx := (H1.out.2.alloc (.cells #[.int .u8 ((n : Int) / 281474976710656 % 256)] 5)).size
  have ho := Lib.hid (own_later H1.out.1 ((Ext.refl w1).alloc (.cells #[.int .u8 ((n : Int) / 281474976710656 % 256)] 5)))
  go_wp2_with (at_builtin; refine wpList_append_row 165 5 (.tmp 9) (.tmp 14) rfl w.heap.size _ 1 1 Tryz.underlying165 info5t rfl (by decide) rfl _ 1 (bs ((eightF n).take 1)) rfl ho.out 1 (bs [UInt8.ofNat (n / 256 ^ (7 - 1) % 256)]) R1.out (HONE.out 1) (by decide) (by decide) hx ?_; intro v2 w2 hown hg; have H2 := Lib.hid (eight_next (by decide) _ H1.out hown hg); clear hown hg)
  clear R1 hx ho H1
  rw [rounds_succ]
  have R2 := Lib.hid (eight_row w2 n 2 ((n : Int) / 1099511627776 % 256) (by omega))
  have hx := (H2.out.2.alloc (.cells #[.int .u8 ((n : Int) / 1099511627776 % 256)] 5)).size
  have ho := Lib.hid (own_later H2.out.1 ((Ext.refl w2).alloc (.cells #[.int .u8 ((n : Int) / 1099511627776 % 256)] 5)))
  go_wp2_with (at_builtin; refine wpList_append_row 165 5 (.tmp 9) (.tmp 14) rfl w.heap.size _ 1 1 Tryz.underlying165 info5t rfl (by decide) rfl _ 2 (bs ((eightF n).take 2)) rfl ho.out 1 (bs [UInt8.ofNat (n / 256 ^ (7 - 2) % 256)]) R2.out (HONE.out 2) (by decide) (by decide) hx ?_; intro v3 w3 hown hg; have H3 := Lib.hid (eight_next (by decide) _ H2.out hown hg); clear hown hg)
  clear R2 hx ho H2
  rw [rounds_succ]
  have R3 := Lib.hid (eight_row w3 n 3 ((n : Int) / 4294967296 % 256) (by omega))
  have hx := (H3.out.2.alloc (.cells #[.int .u8 ((n : Int) / 4294967296 % 256)] 5)).size
  have ho := Lib.hid (own_later H3.out.1 ((Ext.refl w3).alloc (.cells #[.int .u8 ((n : Int) / 4294967296 % 256)] 5)))
  go_wp2_with (at_builtin; refine wpList_append_row 165 5 (.tmp 9) (.tmp 14) rfl w.heap.size _ 1 1 Tryz.underlying165 info5t rfl (by decide) rfl _ 3 (bs ((eightF n).take 3)) rfl ho.out 1 (bs [UInt8.ofNat (n / 256 ^ (7 - 3) % 256)]) R3.out (HONE.out 3) (by decide) (by decide) hx ?_; intro v4 w4 hown hg; have H4 := Lib.hid (eight_next (by decide) _ H3.out hown hg); clear hown hg)
  clear R3 hx ho H3
  rw [rounds_succ]
  have R4 := Lib.hid (eight_row w4 n 4 ((n : Int) / 16777216 % 256) (by omega))
  have hx := (H4.out.2.alloc (.cells #[.int .u8 ((n : Int) / 16777216 % 256)] 5)).size
  have ho := Lib.hid (own_later H4.out.1 ((Ext.refl w4).alloc (.cells #[.int .u8 ((n : Int) / 16777216 % 256)] 5)))
  go_wp2_with (at_builtin; refine wpList_append_row 165 5 (.tmp 9) (.tmp 14) rfl w.heap.size _ 1 1 Tryz.underlying165 info5t rfl (by decide) rfl _ 4 (bs ((eightF n).take 4)) rfl ho.out 1 (bs [UInt8.ofNat (n / 256 ^ (7 - 4) % 256)]) R4.out (HONE.out 4) (by decide) (by decide) hx ?_; intro v5 w5 hown hg; have H5 := Lib.hid (eight_next (by decide) _ H4.out hown hg); clear hown hg)
  clear R4 hx ho H4
  rw [rounds_succ]
  have R5 := Lib.hid (eight_row w5 n 5 ((n : Int) / 65536 % 256) (by omega))
  have hx := (H5.out.2.alloc (.cells #[.int .u8 ((n : Int) / 65536 % 256)] 5)).size
  have ho := Lib.hid (own_later H5.out.1 ((Ext.refl w5).alloc (.cells #[.int .u8 ((n : Int) / 65536 % 256)] 5)))
  go_wp2_with (at_builtin; refine wpList_append_row 165 5 (.tmp 9) (.tmp 14) rfl w.heap.size _ 1 1 Tryz.underlying165 info5t rfl (by decide) rfl _ 5 (bs ((eightF n).take 5)) rfl ho.out 1 (bs [UInt8.ofNat (n / 256 ^ (7 - 5) % 256)]) R5.out (HONE.out 5) (by decide) (by decide) hx ?_; intro v6 w6 hown hg; have H6 := Lib.hid (eight_next (by decide) _ H5.out hown hg); clear hown hg)
  clear R5 hx ho H5
  rw [rounds_succ]
  have R6 := Lib.hid (eight_row w6 n 6 ((n : Int) / 256 % 256) (by omega))
  have hx := (H6.out.2.alloc (.cells #[.int .u8 ((n : Int) / 256 % 256)] 5)).size
  have ho := Lib.hid (own_later H6.out.1 ((Ext.refl w6).alloc (.cells #[.int .u8 ((n : Int) / 256 % 256)] 5)))
  go_wp2_with (at_builtin; refine wpList_append_row 165 5 (.tmp 9) (.tmp 14) rfl w.heap.size _ 1 1 Tryz.underlying165 info5t rfl (by decide) rfl _ 6 (bs ((eightF n).take 6)) rfl ho.out 1 (bs [UInt8.ofNat (n / 256 ^ (7 - 6) % 256)]) R6.out (HONE.out 6) (by decide) (by decide) hx ?_; intro v7 w7 hown hg; have H7 := Lib.hid (eight_next (by decide) _ H6.out hown hg); clear hown hg)
  clear R6 hx ho H6
  rw [rounds_succ]
  have R7 := Lib.hid (eight_row w7 n 7 ((n : Int) % 256) (by omega))
  have hx := (H7.out.2.alloc (.cells #[.int .u8 ((n : Int) % 256)] 5)).size
  have ho := Lib.hid (own_later H7.out.1 ((Ext.refl w7).alloc (.cells #[.int .u8 ((n : Int) % 256)] 5)))
  go_wp2_with (at_builtin; refine wpList_append_row 165 5 (.tmp 9) (.tmp 14) rfl w.heap.size _ 1 1 Tryz.underlying165 info5t rfl (by decide) rfl _ 7 (bs ((eightF n).take 7)) rfl ho.out 1 (bs [UInt8.ofNat (n / 256 ^ (7 - 7) % 256)]) R7.out (HONE.out 7) (by decide) (by decide) hx ?_; intro v8 w8 hown hg; have H8 := Lib.hid (eight_next (by decide) _ H7.out hown hg); clear hown hg)
  clear R7 hx ho H7
  rw [rounds_succ]
  go_wp2_with fail
  go_ret
  refine ⟨_, rfl, ?_, H8.out.2⟩
  have h := Row.of_own H8.out.1
  have hl : (eightF n).length = 8 := eightN_len 8 n
  rw [List.take_of_length_le (by rw [hl]; exact Nat.le_refl _)] at h
  unfold Bytes
  rw [hl]
  exact h
end Go.Proofs.YtcgflkfbjnpdiaaGreat

namespace Go.Proofs.YtcgflkfbjnpdiaaGreat
open Go.RowKit Go.ChangeShapes Go.WideShapes Go.Deep

theorem own : ownKnob Tryz.prog.godebug = none := by kernel_rfl
theorem laidOut : laidOutB Tryz.prog = true := by kernel_rfl

def okN (n : Int) : Prop := -9223372036854775808 ≤ n ∧ n ≤ 9223372036854775807
structure okV (v : V) : Prop where
  k : okN v.k
  n : okN v.n
  s : v.s.length ≤ maxLen
structure okC (c : C) : Prop where
  name : c.name.length ≤ maxLen
  op : okN c.op
  v : okV c.v
  set : ∀ x ∈ c.set, okV x
structure okA (a : List UInt8 × V) : Prop where
  name : a.1.length ≤ maxLen
  v : okV a.2

theorem list_of {α : Type} {p : Nat → α → Prop} : ∀ n, (∀ i, i < n → ∃ x, p i x) → ∃ l : List α, l.length = n ∧ ∀ i (h : i < l.length), p i l[i]
  | 0, _ => ⟨[], rfl, fun i h => absurd h (Nat.not_lt_zero _)⟩
  | n + 1, h => by
    obtain ⟨l, hl, hp⟩ := list_of n fun i hi => h i (Nat.lt_succ_of_lt hi)
    obtain ⟨x, hx⟩ := h n (Nat.lt_succ_self n)
    refine ⟨l ++ [x], by simp [hl], fun i hi => ?_⟩
    rw [List.length_append, List.length_singleton] at hi
    by_cases h' : i < l.length
    · rw [List.getElem_append_left h']; exact hp i h'
    · have e : i = l.length := by omega
      subst e
      rw [List.getElem_append_right (Nat.le_refl _)]
      simp only [Nat.sub_self, List.getElem_cons_zero, hl]
      exact hx

theorem row_of_cells {α : Type} {W : World} {a : Addr} {len cap base : Nat} (f : α → List Value) (sz : Nat) (hf : ∀ x, (f x).length = sz) (hsz : 0 < sz) (hl : len ≤ cap) (hm : cap ≤ maxLen) (l : List α) (hln : l.length = cap)
    (hc : ∀ i (h : i < l.length), W.cells? base (a.add (i * sz)) sz = some (f l[i])) : Row W sz (.slice (some a) len cap) len ((l.take len).flatMap f) := by
  have hat : ∀ i (h : i < l.length) j, j < sz → W.cell? (a.add (i * sz + j)) = (f l[i])[j]? := fun i h j hj => by
    obtain ⟨_, _, h3⟩ := World.cells?_some (hc i h)
    rw [← h3 j hj, Go.Deep.add_add]
  have hspot : 0 < cap → a.spot = none := fun h => by
    have h1 := hat 0 (by omega) 0 hsz
    rw [List.getElem?_eq_getElem (by rw [hf]; exact hsz)] at h1
    simpa [Addr.add] using World.cell?_spot h1
  refine ⟨by rw [flat_len f sz hf, List.length_take]; rw [Nat.min_eq_left (by omega)], some a, cap, rfl, hl, hm, by simp, fun p hp h0 => by simp at hp; subst hp; exact hspot h0, fun j u hj => ⟨a, rfl, ?_⟩⟩
  have hjl : j < ((l.take len).flatMap f).length := by
    rcases Nat.lt_or_ge j ((l.take len).flatMap f).length with h | h
    · exact h
    · rw [List.getElem?_eq_none h] at hj; cases hj
  rw [flat_len f sz hf, List.length_take, Nat.min_eq_left (by omega)] at hjl
  have hd : j / sz < len := by rw [Nat.div_lt_iff_lt_mul hsz]; exact hjl
  have hmod : j % sz < sz := Nat.mod_lt _ hsz
  have e : j / sz * sz + j % sz = j := by rw [Nat.mul_comm]; exact Nat.div_add_mod j sz
  have hg := flat_get f sz hf (l.take len) (j / sz) (by rw [List.length_take]; omega) (j % sz) hmod
  rw [e, hj] at hg
  have h1 := hat (j / sz) (by omega) (j % sz) hmod
  rw [e] at h1
  rw [List.getElem_take] at hg
  rw [← hg] at h1
  have hps := hspot (Nat.lt_of_lt_of_le (Nat.lt_of_le_of_lt (Nat.zero_le _) hd) hl)
  have hadd : a.add j = ⟨a.block, a.off + j, none⟩ := by
    obtain ⟨xb, xo, xs⟩ := a
    simp only at hps; subst hps
    unfold Addr.add; split <;> simp_all
  rw [← hadd]; exact h1

section
variable {H : Type} {enc : TypeId × Value → H} {W : World} {base : Nat} {held : Bool}

theorem strOf_of (s : ByteArray) : strOf s.data.toList = s := by cases s; rfl
theorem str_len (s : ByteArray) : s.data.toList.length = s.size := by cases s; exact Array.length_toList
theorem i64_ok {n : Int} (h : (Lit.int .i64 n).wf = true) : okN n := by
  have := bounds_i64 h
  unfold okN; omega

set_option maxRecDepth 100000 in
theorem open_vals {fuel : Nat} {cs : List Value} {x : DataW H × List MemPlace} (h : DataW.trod enc Tryz.prog W base (fun _ => true) held fuel 34 cs = some x) : ∃ v : V, cs = vC v ∧ okV v := by
  obtain ⟨xs, n, _, _, hl, hx, hf⟩ := DataW.trod_struct Tryz.underlying34 h
  have hC : Tryz.prog.cellsOf 34 = 4 := by kernel_rfl
  rw [hC] at hl
  match cs, hl with
  | [c0, c1, c2, c3], _ =>
    match xs, hx with
    | [y0, y1, y2, y3], _ =>
      have q3 : Tryz.prog.cellsOf 3 = 1 := by kernel_rfl
      have q2 : Tryz.prog.cellsOf 2 = 1 := by kernel_rfl
      have q9 : Tryz.prog.cellsOf 9 = 1 := by kernel_rfl
      have q4 : Tryz.prog.cellsOf 4 = 1 := by kernel_rfl
      have h0 := hf 0 _ rfl
      have h1 := hf 1 _ rfl
      have h2 := hf 2 _ rfl
      have h3 := hf 3 _ rfl
      simp only [q3, q2, q9, q4, List.getElem_toArray, List.getElem_cons_zero, List.getElem_cons_succ, List.getElem?_cons_zero, List.getElem?_cons_succ, List.drop_zero, List.drop_succ_cons, List.take_succ_cons, List.take_zero] at h0 h1 h2 h3
      obtain ⟨k, e0, _, w0⟩ := DataW.trod_int Tryz.underlying3 h0
      obtain ⟨n, e1, _, w1⟩ := DataW.trod_int Tryz.underlying2 h1
      obtain ⟨s, e2, _, w2⟩ := DataW.trod_string Tryz.underlying9 h2
      obtain ⟨b, e3, _⟩ := DataW.trod_bool Tryz.underlying4 h3
      simp only [List.cons.injEq, and_true] at e0 e1 e2 e3
      subst e0; subst e1; subst e2; subst e3
      refine ⟨⟨k, n, s.data.toList, b⟩, ?_, i64_ok w0, i64_ok w1, by rw [str_len]; exact w2⟩
      unfold vC; rw [strOf_of]

set_option maxRecDepth 100000 in
theorem open_set {fuel : Nat} {h : Value} {x : DataW H × List MemPlace} (ht : DataW.trod enc Tryz.prog W base (fun _ => true) held fuel 35 [h] = some x) : ∃ l : List V, SetR W h l ∧ ∀ v ∈ l, okV v := by
  rcases open_slice Tryz.underlying35 ht with ⟨e, _⟩ | ⟨a, len, cap, m, n, D, Pl, e, _, hl, hm, hmm, _, hi⟩
  · simp only [List.cons.injEq, and_true] at e
    subst e
    exact ⟨[], SetR.nil W, fun _ h => by cases h⟩
  · simp only [List.cons.injEq, and_true] at e
    subst e
    simp only [if_true] at hmm
    subst hmm
    have hC : Tryz.prog.cellsOf 34 = 4 := by kernel_rfl
    rw [hC] at hi
    obtain ⟨l, hln, hp⟩ := list_of (p := fun i (v : V) => W.cells? base (a.add (i * 4)) 4 = some (vC v) ∧ okV v) m fun i hi' => by
      obtain ⟨cs, h1, h2⟩ := hi i hi'
      obtain ⟨v, rfl, hv⟩ := open_vals h2
      exact ⟨v, h1, hv⟩
    have hr := row_of_cells vC 4 vC_len (by decide) hl hm l hln fun i hi => (hp i hi).1
    refine ⟨l.take len, ?_, fun v hv => ?_⟩
    · unfold SetR
      have e : (l.take len).length = len := by rw [List.length_take]; omega
      rw [e]; exact hr
    · obtain ⟨i, hi, rfl⟩ := List.getElem_of_mem (List.mem_of_mem_take hv)
      exact (hp i hi).2

set_option maxRecDepth 100000 in
theorem open_cons {fuel : Nat} {cs : List Value} {x : DataW H × List MemPlace} (h : DataW.trod enc Tryz.prog W base (fun _ => true) held fuel 37 cs = some x) : ∃ c : CS, cs = csC c ∧ SetR W c.h c.c.set ∧ okC c.c := by
  obtain ⟨xs, n, _, _, hl, hx, hf⟩ := DataW.trod_struct Tryz.underlying37 h
  have hC : Tryz.prog.cellsOf 37 = 7 := by kernel_rfl
  rw [hC] at hl
  match cs, hl with
  | [c0, c1, c2, c3, c4, c5, c6], _ =>
    match xs, hx with
    | [y0, y1, y2, y3], _ =>
      have q3 : Tryz.prog.cellsOf 3 = 1 := by kernel_rfl
      have q9 : Tryz.prog.cellsOf 9 = 1 := by kernel_rfl
      have q28 : Tryz.prog.cellsOf 34 = 4 := by kernel_rfl
      have q29 : Tryz.prog.cellsOf 35 = 1 := by kernel_rfl
      have h0 := hf 0 _ rfl
      have h1 := hf 1 _ rfl
      have h2 := hf 2 _ rfl
      have h3 := hf 3 _ rfl
      simp only [q3, q9, q28, q29, List.getElem_toArray, List.getElem_cons_zero, List.getElem_cons_succ, List.getElem?_cons_zero, List.getElem?_cons_succ, List.drop_zero, List.drop_succ_cons, List.take_succ_cons, List.take_zero] at h0 h1 h2 h3
      obtain ⟨s, e0, _, w0⟩ := DataW.trod_string Tryz.underlying9 h0
      obtain ⟨k, e1, _, w1⟩ := DataW.trod_int Tryz.underlying3 h1
      obtain ⟨v, e2, w2⟩ := open_vals h2
      obtain ⟨l, e3, w3⟩ := open_set h3
      simp only [vC, List.cons.injEq, and_true] at e0 e1 e2
      obtain ⟨rfl, rfl, rfl, rfl⟩ := e2
      subst e0; subst e1
      refine ⟨⟨⟨s.data.toList, k, v, l⟩, c6⟩, ?_, e3, ⟨by rw [str_len]; exact w0, i64_ok w1, w2, w3⟩⟩
      unfold csC; rw [strOf_of]

set_option maxRecDepth 100000 in
theorem open_pred {fuel : Nat} {h : Value} {x : DataW H × List MemPlace} (ht : DataW.trod enc Tryz.prog W base (fun _ => true) held fuel 23 [h] = some x) : ∃ p : List C, PredR W h p ∧ ∀ c ∈ p, okC c := by
  rcases open_slice Tryz.underlying23 ht with ⟨e, _⟩ | ⟨a, len, cap, m, n, D, Pl, e, _, hl, hm, hmm, _, hi⟩
  · simp only [List.cons.injEq, and_true] at e
    subst e
    exact ⟨[], PredR.nil W, fun _ h => by cases h⟩
  · simp only [List.cons.injEq, and_true] at e
    subst e
    simp only [if_true] at hmm
    subst hmm
    have hC : Tryz.prog.cellsOf 37 = 7 := by kernel_rfl
    rw [hC] at hi
    obtain ⟨l, hln, hp⟩ := list_of (p := fun i (c : CS) => W.cells? base (a.add (i * 7)) 7 = some (csC c) ∧ SetR W c.h c.c.set ∧ okC c.c) m fun i hi' => by
      obtain ⟨cs, h1, h2⟩ := hi i hi'
      obtain ⟨v, rfl, hv⟩ := open_cons h2
      exact ⟨v, h1, hv⟩
    have hr := row_of_cells csC 7 csC_len (by decide) hl hm l hln fun i hi => (hp i hi).1
    have e : (l.take len).length = len := by rw [List.length_take]; omega
    have hall : ∀ x ∈ l.take len, SetR W x.h x.c.set ∧ okC x.c := fun x hx => by
      obtain ⟨i, hi, rfl⟩ := List.getElem_of_mem (List.mem_of_mem_take hx)
      exact (hp i hi).2
    refine ⟨(l.take len).map CS.c, PredR.mk _ (by rw [e]; exact hr) fun x hx => (hall x hx).1, fun c hc => ?_⟩
    obtain ⟨x, hx, rfl⟩ := List.mem_map.1 hc
    exact (hall x hx).2

set_option maxRecDepth 100000 in
theorem open_attr {fuel : Nat} {cs : List Value} {x : DataW H × List MemPlace} (h : DataW.trod enc Tryz.prog W base (fun _ => true) held fuel 60 cs = some x) : ∃ a : List UInt8 × V, cs = aC a ∧ okA a := by
  obtain ⟨xs, n, _, _, hl, hx, hf⟩ := DataW.trod_struct Tryz.underlying60 h
  have hC : Tryz.prog.cellsOf 60 = 5 := by kernel_rfl
  rw [hC] at hl
  match cs, hl with
  | [c0, c1, c2, c3, c4], _ =>
    match xs, hx with
    | [y0, y1], _ =>
      have q9 : Tryz.prog.cellsOf 9 = 1 := by kernel_rfl
      have q28 : Tryz.prog.cellsOf 34 = 4 := by kernel_rfl
      have h0 := hf 0 _ rfl
      have h1 := hf 1 _ rfl
      simp only [q9, q28, List.getElem_toArray, List.getElem_cons_zero, List.getElem_cons_succ, List.getElem?_cons_zero, List.getElem?_cons_succ, List.drop_zero, List.drop_succ_cons, List.take_succ_cons, List.take_zero] at h0 h1
      obtain ⟨s, e0, _, w0⟩ := DataW.trod_string Tryz.underlying9 h0
      obtain ⟨v, e1, w1⟩ := open_vals h1
      simp only [vC, List.cons.injEq, and_true] at e0 e1
      obtain ⟨rfl, rfl, rfl, rfl⟩ := e1
      subst e0
      refine ⟨(s.data.toList, v), ?_, by rw [str_len]; exact w0, w1⟩
      unfold aC; rw [strOf_of]

set_option maxRecDepth 100000 in
theorem open_attrs {fuel : Nat} {h : Value} {x : DataW H × List MemPlace} (ht : DataW.trod enc Tryz.prog W base (fun _ => true) held fuel 55 [h] = some x) : ∃ l : List (List UInt8 × V), AttrR W h l ∧ ∀ a ∈ l, okA a := by
  rcases open_slice Tryz.underlying55 ht with ⟨e, _⟩ | ⟨a, len, cap, m, n, D, Pl, e, _, hl, hm, hmm, _, hi⟩
  · simp only [List.cons.injEq, and_true] at e
    subst e
    exact ⟨[], AttrR.nil W, fun _ h => by cases h⟩
  · simp only [List.cons.injEq, and_true] at e
    subst e
    simp only [if_true] at hmm
    subst hmm
    have hC : Tryz.prog.cellsOf 60 = 5 := by kernel_rfl
    rw [hC] at hi
    obtain ⟨l, hln, hp⟩ := list_of (p := fun i (v : List UInt8 × V) => W.cells? base (a.add (i * 5)) 5 = some (aC v) ∧ okA v) m fun i hi' => by
      obtain ⟨cs, h1, h2⟩ := hi i hi'
      obtain ⟨v, rfl, hv⟩ := open_attr h2
      exact ⟨v, h1, hv⟩
    have hr := row_of_cells aC 5 aC_len (by decide) hl hm l hln fun i hi => (hp i hi).1
    refine ⟨l.take len, ?_, fun v hv => ?_⟩
    · unfold AttrR
      have e : (l.take len).length = len := by rw [List.length_take]; omega
      rw [e]; exact hr
    · obtain ⟨i, hi, rfl⟩ := List.getElem_of_mem (List.mem_of_mem_take hv)
      exact (hp i hi).2

set_option maxRecDepth 100000 in
theorem open_event {fuel : Nat} {cs : List Value} {x : DataW H × List MemPlace} (h : DataW.trod enc Tryz.prog W base (fun _ => true) held fuel 57 cs = some x) : ∃ (key : List UInt8) (va : Value) (l : List (List UInt8 × V)), cs = [.string (strOf key), va] ∧ AttrR W va l ∧ key.length ≤ maxLen ∧ ∀ a ∈ l, okA a := by
  obtain ⟨xs, n, _, _, hl, hx, hf⟩ := DataW.trod_struct Tryz.underlying57 h
  have hC : Tryz.prog.cellsOf 57 = 2 := by kernel_rfl
  rw [hC] at hl
  match cs, hl with
  | [c0, c1], _ =>
    match xs, hx with
    | [y0, y1], _ =>
      have q9 : Tryz.prog.cellsOf 9 = 1 := by kernel_rfl
      have q24 : Tryz.prog.cellsOf 55 = 1 := by kernel_rfl
      have h0 := hf 0 _ rfl
      have h1 := hf 1 _ rfl
      simp only [q9, q24, List.getElem_toArray, List.getElem_cons_zero, List.getElem_cons_succ, List.getElem?_cons_zero, List.getElem?_cons_succ, List.drop_zero, List.drop_succ_cons, List.take_succ_cons, List.take_zero] at h0 h1
      obtain ⟨s, e0, _, w0⟩ := DataW.trod_string Tryz.underlying9 h0
      obtain ⟨l, e1, w1⟩ := open_attrs h1
      simp only [List.cons.injEq, and_true] at e0
      subst e0
      refine ⟨s.data.toList, c1, l, ?_, e1, by rw [str_len]; exact w0, w1⟩
      rw [strOf_of]

/-! The same, of an argument. -/
set_option maxRecDepth 100000 in
theorem arg_pred {b0 : Nat} {v : Value} {d : DataW H} {p : List MemPlace} (hv : Value.okWide Tryz.prog W .any b0 23 v) (h : DataW.Trod enc Tryz.prog W base (fun _ => true) held 23 v d p) : ∃ p : List C, PredR W v p ∧ ∀ c ∈ p, okC c := by
  obtain ⟨a, len, cap, rfl⟩ := okWide_slice Tryz.underlying23 hv
  obtain ⟨fuel, hf⟩ := h
  exact open_pred hf
set_option maxRecDepth 100000 in
theorem arg_value {b0 : Nat} {v : Value} {d : DataW H} {p : List MemPlace} (hv : Value.okWide Tryz.prog W .any b0 34 v) (h : DataW.Trod enc Tryz.prog W base (fun _ => true) held 34 v d p) : ∃ x : V, v = .agg #[.int .i64 x.k, .int .i64 x.n, .string (strOf x.s), .bool x.b] ∧ okV x := by
  obtain ⟨cs, rfl, hsz⟩ := okWide_struct Tryz.underlying34 hv
  obtain ⟨fuel, hf⟩ := h
  obtain ⟨x, e, hx⟩ := open_vals hf
  refine ⟨x, ?_, hx⟩
  obtain ⟨l⟩ := cs
  simp only [Value.cells] at e
  subst e; rfl
set_option maxRecDepth 100000 in
theorem arg_event {b0 : Nat} {v : Value} {d : DataW H} {p : List MemPlace} (hv : Value.okWide Tryz.prog W .any b0 57 v) (h : DataW.Trod enc Tryz.prog W base (fun _ => true) held 57 v d p) : ∃ (key : List UInt8) (va : Value) (l : List (List UInt8 × V)), v = .agg #[.string (strOf key), va] ∧ AttrR W va l ∧ key.length ≤ maxLen ∧ ∀ a ∈ l, okA a := by
  obtain ⟨cs, rfl, hsz⟩ := okWide_struct Tryz.underlying57 hv
  obtain ⟨fuel, hf⟩ := h
  obtain ⟨key, va, l, e, h1, h2, h3⟩ := open_event hf
  refine ⟨key, va, l, ?_, h1, h2, h3⟩
  obtain ⟨l⟩ := cs
  simp only [Value.cells] at e
  subst e; rfl
set_option maxRecDepth 100000 in
theorem arg_name {b0 : Nat} {v : Value} {d : DataW H} {p : List MemPlace} (hv : Value.okWide Tryz.prog W .any b0 9 v) (h : DataW.Trod enc Tryz.prog W base (fun _ => true) held 9 v d p) : ∃ s : List UInt8, v = .string (strOf s) ∧ s.length ≤ maxLen := by
  obtain ⟨fuel, hf⟩ := h
  obtain ⟨s, e, _, hs⟩ := DataW.trod_string Tryz.underlying9 hf
  cases v with
  | agg cs => simp [Value.okWide, Cell.okWide, Cell.ok, Tryz.underlying9] at hv
  | string t =>
    simp only [Value.cells, List.cons.injEq, Value.string.injEq, and_true] at e
    subst e
    exact ⟨t.data.toList, by rw [strOf_of], by rw [str_len]; exact hs⟩
  | _ => simp [Value.cells] at e
end
end Go.Proofs.YtcgflkfbjnpdiaaGreat
