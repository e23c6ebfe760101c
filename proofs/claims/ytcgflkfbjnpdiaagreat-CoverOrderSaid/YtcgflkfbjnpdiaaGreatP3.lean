/- Regions, plainly: cuts, spans, what is in a region, one without another; what predicates ask of names. No program is in sight.
What the rows of values and of constraints are, by the type table.
Compaction, element by element: what slices.Compact does in its loop.
A row of the call's own with one element replaced.
clear at the end of a row of the call's own.
What slices.Compact's inner loop keeps; cells of a row of the call's own that may be written; cells of zero. (Of any program.) -/
import GoSem.Op.String
import Derived.Sort.Walk0
import Derived.Test.YtcgflkfbjnpdiaaGreatProg
import Derived.KernelRfl
import Derived.Lib.SliceRun
import Derived.Deep.MidRow
import Derived.Test.YtcgflkfbjnpdiaaGreatP1
import Derived.Test.YtcgflkfbjnpdiaaGreatP2
namespace Go.Proofs.YtcgflkfbjnpdiaaGreat

/-- A place between values. -/
structure Cut where
  a : List UInt8
  e : Bool
deriving DecidableEq
def Cut.lt (x y : Cut) : Bool := !x.e && (y.e || Op.bytesLess x.a y.a)
structure Sp where
  lo : Cut
  hi : Cut
deriving DecidableEq
structure Rg where
  i : List Sp
  s : List Sp
  b : List Sp
  odd : Bool
deriving DecidableEq

def eightN : Nat → Nat → List UInt8
  | 0, _ => []
  | k + 1, n => eightN k (n / 256) ++ [UInt8.ofNat (n % 256)]
def eightF (n : Nat) : List UInt8 := eightN 8 n
theorem eightN_len : ∀ k n, (eightN k n).length = k
  | 0, _ => rfl
  | k + 1, n => by simp [eightN, eightN_len k]
/-- Bytes as a number, the highest first. -/
def wholeF (l : List UInt8) : Nat := l.foldl (fun n c => n * 256 + c.toNat) 0
theorem wholeF_snoc (l : List UInt8) (c : UInt8) : wholeF (l ++ [c]) = wholeF l * 256 + c.toNat := by simp [wholeF]
theorem wholeF_eight : ∀ (k n : Nat), n < 256 ^ k → wholeF (eightN k n) = n
  | 0, n, h => by simp at h; subst h; rfl
  | k + 1, n, h => by
    rw [eightN, wholeF_snoc, wholeF_eight k (n / 256) (by rw [Nat.pow_succ] at h; omega)]
    have : (UInt8.ofNat (n % 256)).toNat = n % 256 := by
      rw [UInt8.toNat_ofNat']; omega
    omega
theorem eight_wholeF : ∀ (k : Nat) (l : List UInt8), l.length = k → eightN k (wholeF l) = l
  | 0, l, h => by rw [List.length_eq_zero_iff.1 h]; rfl
  | k + 1, l, h => by
    have hne : l ≠ [] := by intro e; rw [e] at h; simp at h
    obtain ⟨p, c, rfl⟩ : ∃ p c, l = p ++ [c] := ⟨l.dropLast, l.getLast hne, (List.dropLast_concat_getLast hne).symm⟩
    have hp : p.length = k := by simpa using h
    have hc : c.toNat < 256 := c.toNat_lt
    rw [wholeF_snoc, eightN]
    have e1 : (wholeF p * 256 + c.toNat) / 256 = wholeF p := by omega
    have e2 : (wholeF p * 256 + c.toNat) % 256 = c.toNat := by omega
    rw [e1, e2, eight_wholeF k p hp]
    congr 2
    exact UInt8.toNat_inj.1 (by rw [UInt8.toNat_ofNat']; omega)
theorem wholeF_lt : ∀ (k : Nat) (l : List UInt8), l.length = k → wholeF l < 256 ^ k
  | 0, l, h => by rw [List.length_eq_zero_iff.1 h]; decide
  | k + 1, l, h => by
    have hne : l ≠ [] := by intro e; rw [e] at h; simp at h
    obtain ⟨p, c, rfl⟩ : ∃ p c, l = p ++ [c] := ⟨l.dropLast, l.getLast hne, (List.dropLast_concat_getLast hne).symm⟩
    have hp : p.length = k := by simpa using h
    have hc : c.toNat < 256 := c.toNat_lt
    have := wholeF_lt k p hp
    rw [wholeF_snoc, Nat.pow_succ]; omega

def numC (n : Int) : Cut := ⟨eightF (n + 9223372036854775808).toNat, false⟩
def endC : Cut := ⟨[], true⟩
def firstC (k : Int) : Cut := if k = 1 then numC (-9223372036854775808) else ⟨[], false⟩
def aroundV (v : V) : Cut × Cut :=
  if v.k = 1 then (if v.n = 9223372036854775807 then (numC v.n, endC) else (numC v.n, numC (v.n + 1)))
  else if v.k = 2 then (⟨v.s, false⟩, ⟨v.s ++ [0], false⟩)
  else if v.b then (⟨[0], false⟩, endC) else (⟨[], false⟩, ⟨[0], false⟩)
def atV (v : V) : Cut := (aroundV v).1
def pastR : List UInt8 → Cut
  | [] => endC
  | c :: r => if c = 255 then pastR r else ⟨(r.reverse) ++ [c + 1], false⟩
def pastF (s : List UInt8) : Cut := pastR s.reverse
def fullS (l : List Sp) : List Sp := l.filter fun x => Cut.lt x.lo x.hi
def ofL (c : C) : List Sp :=
  fullS (if c.op = 2 then [⟨(aroundV c.v).1, (aroundV c.v).2⟩]
  else if c.op = 3 then [⟨firstC c.v.k, (aroundV c.v).1⟩, ⟨(aroundV c.v).2, endC⟩]
  else if c.op = 4 then [⟨firstC c.v.k, (aroundV c.v).1⟩]
  else if c.op = 5 then [⟨firstC c.v.k, (aroundV c.v).2⟩]
  else if c.op = 6 then [⟨(aroundV c.v).2, endC⟩]
  else if c.op = 7 then [⟨(aroundV c.v).1, endC⟩]
  else if c.op = 8 then [⟨(aroundV c.v).1, pastF c.v.s⟩]
  else [])
def allR : Rg := ⟨[⟨firstC 1, endC⟩], [⟨firstC 2, endC⟩], [⟨firstC 3, endC⟩], true⟩
def noneR : Rg := ⟨[], [], [], false⟩
def minus1 (s out : Sp) : List Sp :=
  if !Cut.lt out.lo s.hi || !Cut.lt s.lo out.hi then [s]
  else fullS [⟨s.lo, if Cut.lt out.lo s.hi then out.lo else s.hi⟩, ⟨if Cut.lt s.lo out.hi then out.hi else s.lo, s.hi⟩]
def minusL (l m : List Sp) : List Sp := m.foldl (fun l out => l.flatMap fun s => minus1 s out) l
def Rg.minus (r q : Rg) : Rg := ⟨minusL r.i q.i, minusL r.s q.s, minusL r.b q.b, r.odd && !q.odd⟩
def Rg.and (r q : Rg) : Rg := r.minus (r.minus q)
def Rg.empty (r : Rg) : Bool := !r.odd && !(decide (0 < r.i.length) || decide (0 < r.s.length) || decide (0 < r.b.length))
def Rg.within (r q : Rg) : Bool := (r.minus q).empty
def inS (c : Cut) (x : Sp) : Bool := !Cut.lt c x.lo && Cut.lt c x.hi
def inL (c : Cut) (l : List Sp) : Bool := l.any (inS c)
def Rg.of (r : Rg) (k : Int) : List Sp := if k = 1 then r.i else if k = 2 then r.s else r.b
def Rg.has (r : Rg) (v : V) : Bool := if v.k < 1 ∨ 3 < v.k then r.odd else inL (atV v) (r.of v.k)
def setR (k : Int) (l : List Sp) : Rg := if k = 1 then ⟨l, [], [], false⟩ else if k = 2 then ⟨[], l, [], false⟩ else ⟨[], [], l, false⟩
def oneV (v : V) : Rg := setR v.k (ofL ⟨[], 2, v, []⟩)
def ofR (c : C) : Rg :=
  if !mayC c then noneR else if c.op = 1 then allR else if c.op = 9 then allR.minus (c.set.foldl (fun r v => r.minus (oneV v)) allR) else setR c.v.k (ofL c)
def askedF (p : List C) (name : List UInt8) : Rg := if !mayP p then noneR else p.foldl (fun r c => if c.name = name then r.and (ofR c) else r) allR
def someR (r : Rg) : V × Bool :=
  match r.i with
  | x :: _ => (⟨1, (wholeF x.lo.a : Int) - 9223372036854775808, [], false⟩, true)
  | [] => match r.s with
    | x :: _ => (⟨2, 0, x.lo.a, false⟩, true)
    | [] => match r.b with
      | x :: _ => (⟨3, 0, [], !x.lo.a.isEmpty⟩, true)
      | [] => (⟨0, 0, [], false⟩, r.odd)
def namesF (p : List C) : List (List UInt8) := sortU Lib.compareBytes (p.map C.name)
def noneF (p : List C) : Bool := (namesF p).any fun n => (askedF p n).empty
def coversF (p q : List C) : Bool := mayP p && mayP q && (noneF q || !(namesF p).any fun n => !decide (n ∈ namesF q) || !(askedF q n).within (askedF p n))

/-! The order of cuts -/
theorem bl_lt (x y : List UInt8) : Op.bytesLess x y = true ↔ Lib.compareBytes x y < 0 := by
  induction x generalizing y with
  | nil => cases y <;> simp [Op.bytesLess, Lib.compareBytes]
  | cons a x ih =>
    cases y with
    | nil => simp [Op.bytesLess, Lib.compareBytes]
    | cons b y =>
      simp only [Op.bytesLess, Lib.compareBytes]
      by_cases h1 : a < b
      · simp [h1]
      · by_cases h2 : b < a
        · have hne : ¬ a = b := by intro e; rw [e] at h2; exact absurd h2 (UInt8.lt_irrefl b)
          simp [h1, h2, hne]
        · have he : a = b := UInt8.le_antisymm (UInt8.not_lt.1 h2) (UInt8.not_lt.1 h1)
          subst he
          simp [ih y]
theorem cut_irr (x : Cut) : Cut.lt x x = false := by
  unfold Cut.lt
  cases hx : x.e <;> simp
  have := bl_lt x.a x.a
  rw [wo_bytes.refl] at this
  simp at this; exact this
theorem cut_trans {x y z : Cut} (h1 : Cut.lt x y = true) (h2 : Cut.lt y z = true) : Cut.lt x z = true := by
  unfold Cut.lt at *
  simp only [Bool.and_eq_true, Bool.not_eq_true', Bool.or_eq_true] at *
  refine ⟨h1.1, ?_⟩
  rcases h2.2 with h | h
  · exact .inl h
  · rcases h1.2 with h' | h'
    · rw [h2.1] at h'; cases h'
    · exact .inr ((bl_lt _ _).2 (wo_bytes.lt_trans ((bl_lt _ _).1 h') ((bl_lt _ _).1 h)))
/-- Of 'not ahead' likewise. -/
theorem cut_ntrans {x y z : Cut} (h1 : Cut.lt x y = false) (h2 : Cut.lt y z = false) : Cut.lt x z = false := by
  cases h : Cut.lt x z with
  | false => rfl
  | true =>
    exfalso
    unfold Cut.lt at h h1 h2
    simp only [Bool.and_eq_true, Bool.not_eq_true', Bool.or_eq_true, Bool.and_eq_false_iff, Bool.or_eq_false_iff, Bool.not_eq_false'] at h h1 h2
    rcases h1 with h1 | h1
    · rw [h.1] at h1; cases h1
    · rcases h2 with h2 | h2
      · rw [h1.1] at h2; cases h2
      · rcases h.2 with h3 | h3
        · rw [h2.1] at h3; cases h3
        · have a1 := (bl_lt _ _).1 h3
          have a2 : ¬ Lib.compareBytes x.a y.a < 0 := fun e => by rw [(bl_lt _ _).2 e] at h1; simp at h1
          have a3 : ¬ Lib.compareBytes y.a z.a < 0 := fun e => by rw [(bl_lt _ _).2 e] at h2; simp at h2
          have b1 := wo_bytes.anti x.a y.a
          have b2 := wo_bytes.anti y.a z.a
          have b3 := wo_bytes.anti x.a z.a
          have := wo_bytes.trans z.a y.a x.a (by omega) (by omega)
          omega

/-! What is in spans -/
theorem inL_append (c : Cut) (l m : List Sp) : inL c (l ++ m) = (inL c l || inL c m) := by simp [inL]
theorem inL_full (c : Cut) (l : List Sp) : inL c (fullS l) = inL c l := by
  unfold inL fullS
  rw [Bool.eq_iff_iff, List.any_eq_true, List.any_eq_true]
  constructor
  · rintro ⟨x, hx, h⟩
    exact ⟨x, (List.mem_filter.1 hx).1, h⟩
  · rintro ⟨x, hx, h⟩
    refine ⟨x, List.mem_filter.2 ⟨hx, ?_⟩, h⟩
    unfold inS at h
    simp only [Bool.and_eq_true, Bool.not_eq_true'] at h
    cases hl : Cut.lt x.lo x.hi with
    | true => rfl
    | false =>
      have := cut_ntrans h.1 hl
      rw [h.2] at this; cases this
theorem in_minus1 (c : Cut) (s out : Sp) : inL c (minus1 s out) = (inS c s && !inS c out) := by
  have t1 : ∀ {x y z : Cut}, Cut.lt x y = false → Cut.lt x z = true → Cut.lt y z = true := fun {x y z} h1 h2 => by
    cases h : Cut.lt y z with
    | true => rfl
    | false => have := cut_ntrans h1 h; rw [h2] at this; cases this
  unfold minus1
  by_cases hd : (!Cut.lt out.lo s.hi || !Cut.lt s.lo out.hi) = true
  · rw [if_pos hd]
    simp only [inL, List.any_cons, List.any_nil, Bool.or_false]
    cases hs : inS c s with
    | false => rfl
    | true =>
      cases ho : inS c out with
      | false => rfl
      | true =>
        exfalso
        unfold inS at hs ho
        simp only [Bool.and_eq_true, Bool.not_eq_true', Bool.or_eq_true] at hs ho hd
        rcases hd with hd | hd
        · rw [t1 ho.1 hs.2] at hd; cases hd
        · rw [t1 hs.1 ho.2] at hd; cases hd
  · rw [if_neg hd, inL_full]
    simp only [Bool.not_eq_true, Bool.or_eq_false_iff, Bool.not_eq_false'] at hd
    rw [if_pos hd.1, if_pos hd.2]
    simp only [inL, List.any_cons, List.any_nil, Bool.or_false, inS]
    cases h1 : Cut.lt c s.lo <;> cases h2 : Cut.lt c s.hi <;> cases h3 : Cut.lt c out.lo <;> cases h4 : Cut.lt c out.hi <;> simp
    · rw [cut_trans h3 hd.1] at h2; cases h2
    · rw [cut_trans h3 hd.1] at h2; cases h2
    · rw [cut_trans h1 hd.2] at h4; cases h4
    · rw [cut_trans h1 hd.2] at h4; cases h4
theorem in_flat (c : Cut) (out : Sp) (l : List Sp) : inL c (l.flatMap fun s => minus1 s out) = (inL c l && !inS c out) := by
  induction l with
  | nil => simp [inL]
  | cons s l ih =>
    rw [List.flatMap_cons, inL_append, in_minus1, ih]
    have : inL c (s :: l) = (inS c s || inL c l) := by simp [inL]
    rw [this]
    cases inS c s <;> cases inL c l <;> cases inS c out <;> rfl
theorem in_minus (c : Cut) (l m : List Sp) : inL c (minusL l m) = (inL c l && !inL c m) := by
  unfold minusL
  induction m generalizing l with
  | nil => simp [inL]
  | cons o m ih =>
    rw [List.foldl_cons, ih, in_flat]
    have : inL c (o :: m) = (inS c o || inL c m) := by simp [inL]
    rw [this]
    cases inL c l <;> cases inL c m <;> cases inS c o <;> rfl
theorem has_minus (r q : Rg) (v : V) : (r.minus q).has v = (r.has v && !q.has v) := by
  unfold Rg.has
  split
  · rfl
  · have : (r.minus q).of v.k = minusL (r.of v.k) (q.of v.k) := by
      unfold Rg.of Rg.minus
      (repeat' split) <;> rfl
    rw [this, in_minus]
theorem has_and (r q : Rg) (v : V) : (r.and q).has v = (r.has v && q.has v) := by
  unfold Rg.and
  rw [has_minus, has_minus]
  cases r.has v <;> cases q.has v <;> rfl

/-! Regions whose cuts stand for values -/
def ok1 (c : Cut) : Prop := c.e = true ∨ c.a.length = 8
def ok3 (c : Cut) : Prop := c.e = true ∨ c.a = [] ∨ c.a = [0]
def okS (P : Cut → Prop) (l : List Sp) : Prop := ∀ x ∈ l, P x.lo ∧ P x.hi ∧ Cut.lt x.lo x.hi = true
structure Good4 (r : Rg) : Prop where
  i : okS ok1 r.i
  s : okS (fun _ => True) r.s
  b : okS ok3 r.b
theorem okS_minus1 {P : Cut → Prop} {s out : Sp} (h : P s.lo ∧ P s.hi ∧ Cut.lt s.lo s.hi = true) (ho : P out.lo ∧ P out.hi) : okS P (minus1 s out) := by
  intro x hx
  unfold minus1 at hx
  split at hx
  · rw [List.mem_singleton.1 hx]; exact h
  · have hx' := List.mem_filter.1 hx
    rcases List.mem_cons.1 hx'.1 with e | hx2
    · subst e
      refine ⟨h.1, ?_, hx'.2⟩
      show P (if _ then _ else _)
      split
      · exact ho.1
      · exact h.2.1
    · have e := List.mem_singleton.1 hx2
      subst e
      refine ⟨?_, h.2.1, hx'.2⟩
      show P (if _ then _ else _)
      split
      · exact ho.2
      · exact h.1
theorem okS_minus {P : Cut → Prop} : ∀ {m l : List Sp}, okS P l → okS P m → okS P (minusL l m)
  | [], _, h, _ => h
  | o :: m, l, h, hm => by
    have h2 : okS P (l.flatMap fun s => minus1 s o) := fun x hx => by
      obtain ⟨s, hs, hx⟩ := List.mem_flatMap.1 hx
      exact okS_minus1 (h s hs) ⟨(hm o List.mem_cons_self).1, (hm o List.mem_cons_self).2.1⟩ x hx
    exact okS_minus (m := m) h2 fun x hx => hm x (List.mem_cons_of_mem _ hx)
theorem Good4.minus {r q : Rg} (h : Good4 r) (k : Good4 q) : Good4 (r.minus q) := ⟨okS_minus h.i k.i, okS_minus h.s k.s, okS_minus h.b k.b⟩
theorem Good4.and {r q : Rg} (h : Good4 r) (k : Good4 q) : Good4 (r.and q) := h.minus (h.minus k)
theorem good_none : Good4 noneR := ⟨fun _ h => (by cases h), fun _ h => (by cases h), fun _ h => (by cases h)⟩
theorem num_ok1 (n : Int) : ok1 (numC n) := .inr (eightN_len 8 _)
theorem good_all : Good4 allR := by
  refine ⟨fun x hx => ?_, fun x hx => ?_, fun x hx => ?_⟩ <;> rw [List.mem_singleton.1 hx]
  · exact ⟨num_ok1 _, .inl rfl, rfl⟩
  · exact ⟨trivial, trivial, rfl⟩
  · exact ⟨.inr (.inl rfl), .inl rfl, rfl⟩

theorem at_num {l : List UInt8} (h : l.length = 8) : eightF ((wholeF l : Int) - 9223372036854775808 + 9223372036854775808).toNat = l := by
  have e : ((wholeF l : Int) - 9223372036854775808 + 9223372036854775808).toNat = wholeF l := by omega
  rw [e]; exact eight_wholeF 8 l h
theorem inS_lo {x : Sp} (h : Cut.lt x.lo x.hi = true) : inS x.lo x = true := by
  unfold inS; rw [cut_irr, h]; rfl
theorem lt_live {x y : Cut} (h : Cut.lt x y = true) : x.e = false := by
  unfold Cut.lt at h; simp only [Bool.and_eq_true, Bool.not_eq_true'] at h; exact h.1
/-- A region that is not empty shows a value that is in it. -/
theorem some_law {r : Rg} (h : Good4 r) : (someR r).2 = !r.empty ∧ ((someR r).2 = true → r.has (someR r).1 = true) := by
  obtain ⟨ri, rs, rb, ro⟩ := r
  unfold someR Rg.empty
  cases ri with
  | cons x ri =>
    refine ⟨by simp, fun _ => ?_⟩
    obtain ⟨h1, h2, h3⟩ := h.i x List.mem_cons_self
    have he := lt_live h3
    have hl : x.lo.a.length = 8 := by rcases h1 with h1 | h1; rw [he] at h1; cases h1; exact h1
    have hat : atV ⟨1, (wholeF x.lo.a : Int) - 9223372036854775808, [], false⟩ = x.lo := by
      have hnum : numC ((wholeF x.lo.a : Int) - 9223372036854775808) = x.lo := by
        unfold numC
        rw [at_num hl]
        cases hx : x.lo with | mk a e => rw [hx] at he; simp only at he; rw [he]
      unfold atV aroundV
      rw [if_pos rfl]
      split <;> exact hnum
    show inL _ _ = true
    rw [hat]
    show (inS x.lo x || _) = true
    rw [inS_lo h3, Bool.true_or]
  | nil =>
    cases rs with
    | cons x rs =>
      refine ⟨by simp, fun _ => ?_⟩
      obtain ⟨_, _, h3⟩ := h.s x List.mem_cons_self
      have he := lt_live h3
      have hat : atV ⟨2, 0, x.lo.a, false⟩ = x.lo := by
        show (⟨x.lo.a, false⟩ : Cut) = x.lo
        cases hx : x.lo with | mk a e => rw [hx] at he; simp only at he; rw [he]
      show inL _ _ = true
      rw [hat]
      show (inS x.lo x || _) = true
      rw [inS_lo h3, Bool.true_or]
    | nil =>
      cases rb with
      | cons x rb =>
        refine ⟨by simp, fun _ => ?_⟩
        obtain ⟨h1, _, h3⟩ := h.b x List.mem_cons_self
        have he := lt_live h3
        have hat : atV ⟨3, 0, [], !x.lo.a.isEmpty⟩ = x.lo := by
          cases hx : x.lo with
          | mk a e =>
            rw [hx] at he h1
            simp only at he
            subst he
            rcases h1 with h1 | h1 | h1
            · cases h1
            · simp only at h1; subst h1; rfl
            · simp only at h1; subst h1; rfl
        show inL _ _ = true
        rw [hat]
        show (inS x.lo x || _) = true
        rw [inS_lo h3, Bool.true_or]
      | nil =>
        refine ⟨by simp, fun ho => ?_⟩
        show ro = true
        exact ho
theorem empty_iff {r : Rg} (h : Good4 r) : r.empty = true ↔ ∀ v, r.has v = false := by
  obtain ⟨h1, h2⟩ := some_law h
  constructor
  · intro he v
    obtain ⟨ri, rs, rb, ro⟩ := r
    unfold Rg.empty at he
    simp only [Bool.and_eq_true, Bool.not_eq_true', Bool.or_eq_false_iff, decide_eq_false_iff_not] at he
    have e1 : ri = [] := List.eq_nil_of_length_eq_zero (by omega)
    have e2 : rs = [] := List.eq_nil_of_length_eq_zero (by omega)
    have e3 : rb = [] := List.eq_nil_of_length_eq_zero (by omega)
    obtain ⟨he1, _⟩ := he
    subst e1; subst e2; subst e3; subst he1
    unfold Rg.has Rg.of inL
    (repeat' split) <;> rfl
  · intro hv
    cases he : r.empty with
    | true => rfl
    | false =>
      rw [he] at h1
      have := h2 h1
      rw [hv] at this; cases this
theorem within_iff {r q : Rg} (h : Good4 r) (k : Good4 q) : r.within q = true ↔ ∀ v, r.has v = true → q.has v = true := by
  unfold Rg.within
  rw [empty_iff (h.minus k)]
  constructor
  · intro a v hv
    have := a v
    rw [has_minus, hv] at this
    simpa using this
  · intro a v
    rw [has_minus]
    cases hv : r.has v with
    | false => rfl
    | true => rw [a v hv]; rfl

/-! The regions of constraints -/
theorem okS_full {P : Cut → Prop} {l : List Sp} (h : ∀ x ∈ l, P x.lo ∧ P x.hi) : okS P (fullS l) := fun x hx => by
  obtain ⟨h1, h2⟩ := List.mem_filter.1 hx
  exact ⟨(h x h1).1, (h x h1).2, h2⟩
theorem around_ok1 {v : V} (h : v.k = 1) : ok1 (aroundV v).1 ∧ ok1 (aroundV v).2 := by
  unfold aroundV
  rw [if_pos h]
  split
  · exact ⟨num_ok1 _, .inl rfl⟩
  · exact ⟨num_ok1 _, num_ok1 _⟩
theorem around_ok3 {v : V} (h1 : v.k ≠ 1) (h2 : v.k ≠ 2) : ok3 (aroundV v).1 ∧ ok3 (aroundV v).2 := by
  unfold aroundV
  rw [if_neg h1, if_neg h2]
  split
  · exact ⟨.inr (.inr rfl), .inl rfl⟩
  · exact ⟨.inr (.inl rfl), .inr (.inr rfl)⟩
theorem ofL_ok {P : Cut → Prop} {c : C} (ha : P (aroundV c.v).1 ∧ P (aroundV c.v).2) (hf : P (firstC c.v.k)) (he : P endC) (hp : c.op = 8 → P (pastF c.v.s)) : okS P (ofL c) := by
  refine okS_full fun x hx => ?_
  split at hx
  · rw [List.mem_singleton.1 hx]; exact ha
  · split at hx
    · rcases List.mem_cons.1 hx with e | hx
      · rw [e]; exact ⟨hf, ha.1⟩
      · rw [List.mem_singleton.1 hx]; exact ⟨ha.2, he⟩
    · split at hx
      · rw [List.mem_singleton.1 hx]; exact ⟨hf, ha.1⟩
      · split at hx
        · rw [List.mem_singleton.1 hx]; exact ⟨hf, ha.2⟩
        · split at hx
          · rw [List.mem_singleton.1 hx]; exact ⟨ha.2, he⟩
          · split at hx
            · rw [List.mem_singleton.1 hx]; exact ⟨ha.1, he⟩
            · split at hx
              · rename_i h8
                rw [List.mem_singleton.1 hx]; exact ⟨ha.1, hp h8⟩
              · cases hx
theorem good_set {k : Int} {c : C} (hk : c.v.k = k) (h8 : c.op = 8 → k = 2) : Good4 (setR k (ofL c)) := by
  subst hk
  unfold setR
  split
  · rename_i h1
    exact ⟨ofL_ok (around_ok1 h1) (by rw [h1]; exact num_ok1 _) (.inl rfl) (fun e => by have := h8 e; omega), fun _ h => (by cases h), fun _ h => (by cases h)⟩
  · rename_i h1
    split
    · exact ⟨fun _ h => (by cases h), ofL_ok ⟨trivial, trivial⟩ trivial trivial (fun _ => trivial), fun _ h => (by cases h)⟩
    · rename_i h2
      refine ⟨fun _ h => (by cases h), fun _ h => (by cases h), ofL_ok (around_ok3 h1 h2) ?_ (.inl rfl) (fun e => absurd (h8 e) h2)⟩
      unfold firstC; rw [if_neg h1]; exact .inr (.inl rfl)
theorem good_one (v : V) : Good4 (oneV v) := good_set rfl (fun e => by cases e)
theorem good_fold (l : List V) (r : Rg) (h : Good4 r) : Good4 (l.foldl (fun r v => r.minus (oneV v)) r) := by
  induction l generalizing r with
  | nil => exact h
  | cons v l ih => exact ih _ (h.minus (good_one v))
theorem good_of (c : C) : Good4 (ofR c) := by
  unfold ofR
  split
  · exact good_none
  · rename_i hm
    split
    · exact good_all
    · split
      · exact good_all.minus (good_fold _ _ good_all)
      · refine good_set rfl fun h8 => ?_
        simp only [Bool.not_eq_true', Bool.not_eq_false] at hm
        unfold mayC at hm
        by_cases h0 : c.name.length < 1 ∨ 16 < c.name.length
        · rw [if_pos h0] at hm; cases hm
        · rw [if_neg h0, if_neg (show ¬ c.op = 1 by omega), if_neg (show ¬ (2 ≤ c.op ∧ c.op ≤ 7) by omega), if_pos h8] at hm
          simp only [Bool.and_eq_true, decide_eq_true_eq] at hm
          exact hm.1.2
theorem good_asked (p : List C) (name : List UInt8) : Good4 (askedF p name) := by
  unfold askedF
  split
  · exact good_none
  · have : ∀ (l : List C) (r : Rg), Good4 r → Good4 (l.foldl (fun r c => if c.name = name then r.and (ofR c) else r) r) := fun l => by
      induction l with
      | nil => intro r h; exact h
      | cons c l ih =>
        intro r h
        rw [List.foldl_cons]
        refine ih _ ?_
        split
        · exact h.and (good_of c)
        · exact h
    exact this p _ good_all

theorem bl_zero8 (l : List UInt8) : ∀ k, Op.bytesLess l (List.replicate k 0) = true → l.length < k := by
  induction l with
  | nil => intro k h; cases k with | zero => simp [Op.bytesLess] at h | succ k => simp
  | cons a l ih =>
    intro k h
    cases k with
    | zero => simp [Op.bytesLess] at h
    | succ k =>
      simp only [List.replicate_succ, Op.bytesLess, Bool.or_eq_true, decide_eq_true_eq, Bool.and_eq_true] at h
      rcases h with h | h
      · exact absurd h (UInt8.not_lt_zero)
      · have := ih k h.2; simp; omega
theorem all_has (v : V) : allR.has v = true := by
  unfold Rg.has
  split
  · rfl
  · rename_i hk
    have hlive : (atV v).e = false := by
      unfold atV aroundV numC
      (repeat' split) <;> rfl
    have hlt : Cut.lt (atV v) endC = true := by unfold Cut.lt; rw [hlive]; rfl
    have key : ∀ k, k = v.k → Cut.lt (atV v) (firstC k) = false := fun k hkv => by
      subst hkv
      by_cases h1 : v.k = 1
      · have hl : (atV v).a.length = 8 := by
          have := (around_ok1 h1).1
          rcases this with h | h
          · unfold atV at hlive; rw [hlive] at h; cases h
          · exact h
        unfold firstC Cut.lt
        rw [if_pos h1]
        have e0 : (numC (-9223372036854775808)).a = List.replicate 8 0 := by rfl
        have e1 : (numC (-9223372036854775808)).e = false := rfl
        rw [hlive, e1, e0]
        cases hb : Op.bytesLess (atV v).a (List.replicate 8 0) with
        | false => rfl
        | true => have := bl_zero8 _ _ hb; omega
      · unfold firstC Cut.lt
        rw [if_neg h1, hlive]
        cases (atV v).a <;> rfl
    have fin : ∀ k, k = v.k → inL (atV v) [⟨firstC k, endC⟩] = true := fun k hkv => by
      show (inS _ _ || false) = true
      unfold inS
      rw [key k hkv, hlt]; rfl
    unfold Rg.of
    split
    · rename_i h1; exact fin 1 h1.symm
    · split
      · rename_i h2; exact fin 2 h2.symm
      · exact fin 3 (by omega)
theorem none_has (v : V) : noneR.has v = false := by
  unfold Rg.has Rg.of inL noneR
  (repeat' split) <;> rfl
theorem and_self (r q : Rg) : (r.and q).has = fun v => r.has v && q.has v := by funext v; exact has_and r q v

/-- What a predicate that may be asks of a name. -/
theorem asked_has {p : List C} (hp : mayP p = true) (name : List UInt8) (v : V) : (askedF p name).has v = p.all fun c => !decide (c.name = name) || (ofR c).has v := by
  unfold askedF
  rw [hp]
  have : ∀ (l : List C) (r : Rg), (l.foldl (fun r c => if c.name = name then r.and (ofR c) else r) r).has v = (r.has v && l.all fun c => !decide (c.name = name) || (ofR c).has v) := fun l => by
    induction l with
    | nil => intro r; simp
    | cons c l ih =>
      intro r
      rw [List.foldl_cons, ih, List.all_cons]
      by_cases hn : c.name = name
      · rw [if_pos hn, has_and, decide_eq_true hn, Bool.and_assoc]; rfl
      · rw [if_neg hn, decide_eq_false hn]; rfl
  show (p.foldl _ allR).has v = _
  rw [this, all_has, Bool.true_and]

/-! Covering -/
theorem names_mem (p : List C) (n : List UInt8) : n ∈ namesF p ↔ ∃ c ∈ p, c.name = n := by
  unfold namesF
  rw [sortU_mem _ (fun _ _ _ _ => bytes_zero), List.mem_map]
theorem asked_free {p : List C} (hp : mayP p = true) {n : List UInt8} (hn : n ∉ namesF p) (v : V) : (askedF p n).has v = true := by
  rw [asked_has hp, List.all_eq_true]
  intro c hc
  have : ¬ c.name = n := fun e => hn ((names_mem p n).2 ⟨c, hc, e⟩)
  rw [decide_eq_false this]; rfl
theorem none_iff {p : List C} : noneF p = true ↔ ∃ n ∈ namesF p, ∀ v, (askedF p n).has v = false := by
  unfold noneF
  rw [List.any_eq_true]
  exact ⟨fun ⟨n, h1, h2⟩ => ⟨n, h1, (empty_iff (good_asked p n)).1 h2⟩, fun ⟨n, h1, h2⟩ => ⟨n, h1, (empty_iff (good_asked p n)).2 h2⟩⟩
theorem covers_iff (p q : List C) : coversF p q = true ↔ mayP p = true ∧ mayP q = true ∧ (noneF q = true ∨ ∀ n ∈ namesF p, n ∈ namesF q ∧ ∀ v, (askedF q n).has v = true → (askedF p n).has v = true) := by
  unfold coversF
  simp only [Bool.and_eq_true, Bool.or_eq_true, Bool.not_eq_true', and_assoc]
  refine and_congr_right fun _ => and_congr_right fun _ => or_congr_right ?_
  rw [List.any_eq_false]
  refine forall_congr' fun n => imp_congr_right fun _ => ?_
  rw [← within_iff (good_asked q n) (good_asked p n)]
  simp only [Bool.or_eq_true, Bool.not_eq_true', decide_eq_false_iff_not, not_or, Classical.not_not, Bool.not_eq_false]
theorem covers_refl {p : List C} (h : mayP p = true) : coversF p p = true :=
  (covers_iff p p).2 ⟨h, h, .inr fun _ hn => ⟨hn, fun _ hv => hv⟩⟩
theorem covers_trans {p q r : List C} (h1 : coversF p q = true) (h2 : coversF q r = true) : coversF p r = true := by
  obtain ⟨a1, a2, a3⟩ := (covers_iff p q).1 h1
  obtain ⟨_, b2, b3⟩ := (covers_iff q r).1 h2
  refine (covers_iff p r).2 ⟨a1, b2, ?_⟩
  rcases b3 with b3 | b3
  · exact .inl b3
  · rcases a3 with a3 | a3
    · left
      obtain ⟨n, hn, hv⟩ := none_iff.1 a3
      refine none_iff.2 ⟨n, (b3 n hn).1, fun v => ?_⟩
      cases h : (askedF r n).has v with
      | false => rfl
      | true => have := (b3 n hn).2 v h; rw [hv] at this; cases this
    · right
      intro n hn
      exact ⟨(b3 n (a3 n hn).1).1, fun v hv => (a3 n hn).2 v ((b3 n (a3 n hn).1).2 v hv)⟩
/-- Fewer constraints cover more. -/
theorem covers_sub {p q : List C} (hp : mayP p = true) (hq : mayP q = true) (h : ∀ c ∈ p, c ∈ q) : coversF p q = true := by
  refine (covers_iff p q).2 ⟨hp, hq, .inr fun n hn => ?_⟩
  obtain ⟨c, hc, e⟩ := (names_mem p n).1 hn
  refine ⟨(names_mem q n).2 ⟨c, h c hc, e⟩, fun v hv => ?_⟩
  rw [asked_has hp, List.all_eq_true]
  rw [asked_has hq, List.all_eq_true] at hv
  exact fun c hc => hv c (h c hc)

end Go.Proofs.YtcgflkfbjnpdiaaGreat

namespace Go.Proofs.YtcgflkfbjnpdiaaGreat
open Go.RowKit

theorem vC_one (l : List V) : ∀ u ∈ l.flatMap vC, u.oneCell' = true := by
  intro u hu
  obtain ⟨x, _, hx⟩ := List.mem_flatMap.1 hu
  simp only [vC, List.mem_cons, List.not_mem_nil, or_false] at hx
  rcases hx with rfl | rfl | rfl | rfl <;> rfl
theorem csC_one (l : List CS) (h : ∀ x ∈ l, x.h.oneCell' = true) : ∀ u ∈ l.flatMap csC, u.oneCell' = true := by
  intro u hu
  obtain ⟨x, hm, hx⟩ := List.mem_flatMap.1 hu
  simp only [csC, List.mem_cons, List.not_mem_nil, or_false] at hx
  rcases hx with rfl | rfl | rfl | rfl | rfl | rfl | rfl
  all_goals first | rfl | exact h x hm

theorem info28t : (Tryz.prog.info? 34).map (fun i => (i.zero, i.size, i.bytes)) = some (some (.agg #[.int .i64 0, .int .i64 0, .string ⟨#[]⟩, .bool false]), 4, 40) := by kernel_rfl
theorem info31t : (Tryz.prog.info? 37).map (fun i => (i.zero, i.size, i.bytes)) = some (some (.agg #[.string ⟨#[]⟩, .int .i64 0, .int .i64 0, .int .i64 0, .string ⟨#[]⟩, .bool false, .slice none 0 0]), 7, 88) := by kernel_rfl

theorem size28 : (Tryz.prog.info? 34).map (·.size) = some 4 := by kernel_rfl
theorem zero28 : ∀ w, (zeroValue 34).run Tryz.prog w = .ok (.agg #[.int .i64 0, .int .i64 0, .string ⟨#[]⟩, .bool false]) w := fun _ => by kernel_rfl
theorem zero31 : ∀ w, (zeroValue 37).run Tryz.prog w = .ok (.agg #[.string ⟨#[]⟩, .int .i64 0, .int .i64 0, .int .i64 0, .string ⟨#[]⟩, .bool false, .slice none 0 0]) w := fun _ => by kernel_rfl
theorem size31 : (Tryz.prog.info? 37).map (·.size) = some 7 := by kernel_rfl
end Go.Proofs.YtcgflkfbjnpdiaaGreat

namespace Go.Proofs.YtcgflkfbjnpdiaaGreat

section
variable {α : Type} [DecidableEq α]
/-- Equal neighbours, one kept. -/
def compE (l : List α) : List α := compL (fun a b => decide (a = b)) l
theorem compE_nil : compE ([] : List α) = [] := compL_nil _
theorem compE_one (x : α) : compE [x] = [x] := compL_one _ x
theorem compE_cons2 (x y : α) (r : List α) : compE (x :: y :: r) = if x = y then compE (x :: r) else x :: compE (y :: r) := by
  unfold compE
  rw [compL_cons2]
  by_cases h : x = y
  · rw [if_pos h, if_pos (decide_eq_true h)]
  · rw [if_neg h, if_neg (by simpa using h)]
theorem compE_snoc : ∀ (n : Nat) (m : List α), m.length = n → ∀ x y : α, compE (m ++ [x, y]) = if x = y then compE (m ++ [x]) else compE (m ++ [x]) ++ [y]
  | _, [], _, x, y => by
    rw [List.nil_append, List.nil_append, compE_cons2, compE_one, compE_one]
    by_cases h : x = y
    · rw [if_pos h, if_pos h]
    · rw [if_neg h, if_neg h]; rfl
  | _, [a], _, x, y => by
    show compE (a :: x :: [y]) = if x = y then compE (a :: x :: []) else compE (a :: x :: []) ++ [y]
    rw [compE_cons2, compE_cons2 a x []]
    by_cases hax : a = x
    · subst hax
      rw [if_pos rfl, if_pos rfl, compE_cons2, compE_one, compE_one]
      by_cases h : a = y
      · rw [if_pos h, if_pos h]
      · rw [if_neg h, if_neg h]; rfl
    · rw [if_neg hax, if_neg hax, compE_cons2, compE_one, compE_one]
      by_cases h : x = y
      · rw [if_pos h, if_pos h]
      · rw [if_neg h, if_neg h]; rfl
  | n + 1, a :: b :: m, h, x, y => by
    show compE (a :: b :: (m ++ [x, y])) = if x = y then compE (a :: b :: (m ++ [x])) else compE (a :: b :: (m ++ [x])) ++ [y]
    rw [compE_cons2, compE_cons2]
    have hlen : (a :: m).length = n := by simp at h ⊢; omega
    have hlen2 : (b :: m).length = n := by simp at h ⊢; omega
    by_cases hab : a = b
    · rw [if_pos hab, if_pos hab]
      exact compE_snoc n (a :: m) hlen x y
    · rw [if_neg hab, if_neg hab]
      have := compE_snoc n (b :: m) hlen2 x y
      rw [List.cons_append, List.cons_append] at this
      rw [this]
      by_cases h : x = y
      · rw [if_pos h, if_pos h]
      · rw [if_neg h, if_neg h]; rfl
/-- One more element read. -/
theorem compE_take {l : List α} {n : Nat} (h : n + 1 < l.length) : compE (l.take (n + 2)) = if l[n + 1] = l[n] then compE (l.take (n + 1)) else compE (l.take (n + 1)) ++ [l[n + 1]] := by
  have e1 : l.take (n + 1) = l.take n ++ [l[n]] := by rw [List.take_succ_eq_append_getElem (by omega)]
  have e2 : l.take (n + 2) = l.take n ++ [l[n], l[n + 1]] := by
    rw [List.take_succ_eq_append_getElem h, e1, List.append_assoc]; rfl
  rw [e2, e1, compE_snoc _ _ rfl]
  by_cases hh : l[n] = l[n + 1]
  · rw [if_pos hh, if_pos hh.symm]
  · rw [if_neg hh, if_neg (fun e => hh e.symm)]
theorem compE_len : ∀ (n : Nat) (l : List α), l.length ≤ n → (compE l).length ≤ l.length
  | _, [], _ => by rw [compE_nil]; exact Nat.le_refl _
  | _, [x], _ => by rw [compE_one]; exact Nat.le_refl _
  | n + 1, x :: y :: r, h => by
    rw [compE_cons2]
    split
    · have := compE_len n (x :: r) (by simp at h ⊢; omega)
      simp only [List.length_cons] at this ⊢; omega
    · have := compE_len n (y :: r) (by simp at h ⊢; omega)
      simp only [List.length_cons] at this ⊢; omega
end
end Go.Proofs.YtcgflkfbjnpdiaaGreat

namespace Go.Proofs.YtcgflkfbjnpdiaaGreat
open Go.RowKit Go.Sort

theorem flat_set {α : Type} (enc : α → List Value) (k : Nat) (hk : ∀ x, (enc x).length = k) (l : List α) (i : Nat) (hi : i < l.length) (x : α) :
    setMany (l.flatMap enc).toArray (i * k) (enc x) = ((l.set i x).flatMap enc).toArray := by
  have hl := flat_len enc k hk l
  have hl2 := flat_len enc k hk (l.set i x)
  rw [List.length_set] at hl2
  have hin : i * k + k ≤ l.length * k := by
    have : (i + 1) * k ≤ l.length * k := Nat.mul_le_mul_right _ hi
    rw [Nat.succ_mul] at this; exact this
  refine ext_get! (by simp only [size_setMany, List.size_toArray, hl, hl2]) fun t ht => ?_
  have ht' : t < l.length * k := by simpa [hl] using ht
  have hk0 : 0 < k := by
    rcases Nat.eq_zero_or_pos k with h | h
    · rw [h, Nat.mul_zero] at ht'; exact absurd ht' (Nat.not_lt_zero _)
    · exact h
  rw [get_setMany _ _ _ t (by simpa [hl] using ht'), hk]
  have hd : t / k < l.length := by rw [Nat.div_lt_iff_lt_mul hk0]; exact ht'
  have hm : t % k < k := Nat.mod_lt _ hk0
  have e : t / k * k + t % k = t := by rw [Nat.mul_comm]; exact Nat.div_add_mod t k
  have g1 := flat_get enc k hk l (t / k) hd (t % k) hm
  have g2 := flat_get enc k hk (l.set i x) (t / k) (by rw [List.length_set]; exact hd) (t % k) hm
  rw [e] at g1 g2
  have hds : t / k < (l.set i x).length := by rw [List.length_set]; exact hd
  have q2 : ((l.set i x).flatMap enc).toArray[t]! = (enc ((l.set i x)[t / k]'hds))[t % k]'(by rw [hk]; exact hm) := by
    rw [getElem!_pos _ t (by simp only [List.size_toArray, hl2]; exact ht')]
    rw [List.getElem?_eq_getElem (by rw [hl2]; exact ht'), List.getElem?_eq_getElem (by rw [hk]; exact hm)] at g2
    simpa using Option.some.inj g2
  have q1 : (l.flatMap enc).toArray[t]! = (enc l[t / k])[t % k]'(by rw [hk]; exact hm) := by
    rw [getElem!_pos _ t (by simp only [List.size_toArray, hl]; exact ht')]
    rw [List.getElem?_eq_getElem (by rw [hl]; exact ht'), List.getElem?_eq_getElem (by rw [hk]; exact hm)] at g1
    simpa using Option.some.inj g1
  rw [q2]
  by_cases hb : t / k = i
  · have hb2 := (blk_iff k i t hk0).2 hb
    rw [if_pos hb2]
    have em : t - i * k = t % k := by subst hb; omega
    rw [em, getElem!_pos _ _ (by rw [hk]; exact hm)]
    have hx : (l.set i x)[t / k]'(by rw [List.length_set]; exact hd) = x := by subst hb; simp
    simp only [hx]
  · rw [if_neg (fun h => hb ((blk_iff k i t hk0).1 h)), q1]
    have hx : (l.set i x)[t / k]'(by rw [List.length_set]; exact hd) = l[t / k] := by rw [List.getElem_set_ne (fun e => hb e.symm)]
    simp only [hx]

theorem own_set {α : Type} {w : World} {base g n cap k : Nat} {e : TypeId} (enc : α → List Value) (hk : ∀ x, (enc x).length = k) {l : List α}
    (h : w.ownsRow base e k (.slice (some ⟨g, 0, none⟩) n cap) n (l.flatMap enc)) (i : Nat) (hi : i < l.length) (x : α) :
    (w.setCells g (i * k) (enc x)).ownsRow base e k (.slice (some ⟨g, 0, none⟩) n cap) n ((l.set i x).flatMap enc) ∧ w.grownBy (w.setCells g (i * k) (enc x)) (some g) := by
  obtain ⟨cur, hg, hb, hn, hm, hs, hlt, hH⟩ := own_holds h
  have hl := flat_len enc k hk l
  have hin : i * k + k ≤ l.length * k := by
    have : (i + 1) * k ≤ l.length * k := Nat.mul_le_mul_right _ hi
    rw [Nat.succ_mul] at this; exact this
  have e1 : w.setCells g (i * k) (enc x) = putRow id w g 0 ((l.set i x).flatMap enc).toArray := by
    have h1 := setCells_putRow w g 0 (enc x) (i * k) (l.flatMap enc).toArray (by rw [hk]; simpa [hl] using hin)
    rw [putRow_self id w g 0 _ hH, Nat.zero_add] at h1
    rw [h1, flat_set enc k hk l i hi x]
  have e2 : putRow id w g 0 ((l.set i x).flatMap enc).toArray = grow (putRow id (Sort.ahead w 0) g 0 ((l.set i x).flatMap enc).toArray) #[] := by rw [grow_empty, Sort.ahead_zero]
  rw [e1, e2]
  exact ⟨own_put h (by rw [hl, flat_len enc k hk, List.length_set]), grownBy_row _⟩
end Go.Proofs.YtcgflkfbjnpdiaaGreat

namespace Go.Proofs.YtcgflkfbjnpdiaaGreat
open Go.RowKit Go.Sort

theorem own_cut_set {w : World} {base g n cap k i : Nat} {e : TypeId} {xs : List Value} (h : w.ownsRow base e k (.slice (some ⟨g, 0, none⟩) n cap) n xs) (hi : i ≤ n) (vs : List Value) (hv : i * k + vs.length ≤ n * k) :
    (w.setCells g (i * k) vs).ownsRow base e k (.slice (some ⟨g, 0, none⟩) i cap) i (xs.take (i * k)) ∧ w.grownBy (w.setCells g (i * k) vs) (some g) := by
  obtain ⟨cur, hg, hb, hn, hm, hs, hlt, hH⟩ := own_holds h
  have hl := h.1
  have h1 := setCells_putRow w g 0 vs (i * k) xs.toArray (by simpa [hl] using hv)
  rw [putRow_self id w g 0 _ hH, Nat.zero_add] at h1
  have hik : i * k ≤ n * k := Nat.mul_le_mul_right _ hi
  have hys : (setMany xs.toArray (i * k) vs).toList.length = xs.length := by rw [Array.length_toList, size_setMany, List.size_toArray]
  have e2 : putRow id w g 0 (setMany xs.toArray (i * k) vs) = grow (putRow id (Sort.ahead w 0) g 0 (setMany xs.toArray (i * k) vs).toList.toArray) #[] := by rw [grow_empty, Sort.ahead_zero, Array.toArray_toList]
  have hp := own_put (m := 0) (os := #[]) h hys
  rw [h1, e2]
  refine ⟨?_, grownBy_row _⟩
  obtain ⟨cur', hg', hb', hn', hm', hs', _, _⟩ := own_holds hp
  refine ⟨by rw [List.length_take]; omega, .inr ⟨g, cap, cur', rfl, hb', hg', by omega, hm', hs', ?_⟩⟩
  rcases hp.2 with ⟨h0, _⟩ | ⟨g2, cap2, cur2, e0, _, hg2, _, _, _, ht2⟩
  · cases h0
  · injection e0 with e1 _ e3
    injection e1 with e1
    injection e1 with e1
    subst e1; subst e3
    have ec : cur' = cur2 := by rw [hg'] at hg2; cases hg2; rfl
    subst ec
    have e5 : cur'.toList.take (i * k) = (cur'.toList.take (n * k)).take (i * k) := by rw [List.take_take, Nat.min_eq_left hik]
    rw [e5, ht2]
    apply List.ext_getElem?
    intro t
    by_cases ht : t < i * k
    · rw [List.getElem?_take_of_lt ht, List.getElem?_take_of_lt ht, Array.getElem?_toList]
      have htx : t < xs.length := by omega
      have hg3 := get_setMany vs (i * k) xs.toArray t (by simpa using htx)
      rw [if_neg (by omega)] at hg3
      rw [getElem!_pos _ t (by simpa using htx), getElem!_pos _ t (by simpa using htx)] at hg3
      rw [Array.getElem?_eq_getElem (by simpa using htx), List.getElem?_eq_getElem htx, hg3]
      simp
    · rw [List.getElem?_take_eq_none (by omega), List.getElem?_take_eq_none (by omega)]

variable {P : Program}
theorem run_clear_many (w : World) (t e ty : TypeId) (z : Value) (vs : List Value) (ht : P.underlying t = some (.slice e)) (hv : ∀ w, (zeroValue e).run P w = .ok z w) (b o n c : Nat) (hn : 0 < n)
    (hz : (Builtin.zeroCells z.cells n).toList = vs) (h1 : ∀ v ∈ vs, v.oneCell' = true)
    (hc : ∀ j, j < vs.length → (w.cell? ⟨b, o + j, none⟩).isSome = true) (hf : ∀ j, j < vs.length → w.frozen? ⟨b, o + j, none⟩ = false) :
    (Builtin.clear_ #[t] ty #[.slice (some ⟨b, o, none⟩) n c]).run P w = .ok (.tuple #[]) (w.setCells b o vs) := by
  have hst := run_storeCells_cells (P := P) b o vs 0 w (by simpa using hc) (by simpa using hf) h1
  simp only [Nat.add_zero] at hst
  obtain ⟨m, rfl⟩ : ∃ m, n = m + 1 := ⟨n - 1, by omega⟩
  simp [Builtin.clear_, run_underlying ht, hv, hz, hst]
end Go.Proofs.YtcgflkfbjnpdiaaGreat

namespace Go.Proofs.YtcgflkfbjnpdiaaGreat
open Go.RowKit Go.Sort

section
variable {α : Type} [DecidableEq α]
/-- i elements have been read, k are kept at the row's head; what has not been read stands. -/
structure CompInv (l r : List α) (k i : Nat) : Prop where
  len : r.length = l.length
  pos : 1 ≤ k
  le : k + 1 ≤ i
  hi : i ≤ l.length
  tk : r.take k = compE (l.take i)
  dr : r.drop (i - 1) = l.drop (i - 1)
theorem CompInv.start {l : List α} {m : Nat} (h : m + 1 < l.length) (hc : compE (l.take (m + 1)) = l.take (m + 1)) (e : l[m + 1] = l[m]) : CompInv l l (m + 1) (m + 2) := by
  refine ⟨rfl, by omega, by omega, by omega, ?_, rfl⟩
  rw [compE_take h, if_pos e, hc]
theorem CompInv.at {l r : List α} {k i : Nat} (h : CompInv l r k i) (hi : i < l.length) : ∃ (h1 : i < r.length) (h2 : i - 1 < r.length), r[i] = l[i] ∧ r[i - 1] = l[i - 1]'(by omega) := by
  have hp := h.pos
  have hl := h.le
  have hn := h.len
  refine ⟨by omega, by omega, ?_, ?_⟩
  · have := congrArg (fun x => x[1]?) h.dr
    simp only [List.getElem?_drop] at this
    have e : i - 1 + 1 = i := by omega
    rw [e, List.getElem?_eq_getElem (by omega), List.getElem?_eq_getElem hi] at this
    exact Option.some.inj this
  · have := congrArg (fun x => x[0]?) h.dr
    simp only [List.getElem?_drop, Nat.add_zero] at this
    rw [List.getElem?_eq_getElem (by omega), List.getElem?_eq_getElem (by omega)] at this
    exact Option.some.inj this
theorem CompInv.drop {l r : List α} {k i : Nat} (h : CompInv l r k i) : r.drop i = l.drop i := by
  have := congrArg (fun x => x.drop 1) h.dr
  have hl := h.le
  have hp := h.pos
  simp only [List.drop_drop] at this
  have e : i - 1 + 1 = i := by omega
  rw [e] at this
  exact this
theorem comp_read {l : List α} {i : Nat} (h1 : 1 ≤ i) (hi : i < l.length) : compE (l.take (i + 1)) = if l[i] = l[i - 1] then compE (l.take i) else compE (l.take i) ++ [l[i]] := by
  obtain ⟨m, rfl⟩ : ∃ m, i = m + 1 := ⟨i - 1, by omega⟩
  exact compE_take hi
theorem CompInv.same {l r : List α} {k i : Nat} (h : CompInv l r k i) (hi : i < l.length) (e : l[i] = l[i - 1]) : CompInv l r k (i + 1) := by
  have hp := h.pos
  have hl := h.le
  refine ⟨h.len, hp, by omega, hi, ?_, ?_⟩
  · rw [comp_read (by omega) hi, if_pos e]; exact h.tk
  · exact h.drop
theorem CompInv.next {l r : List α} {k i : Nat} (h : CompInv l r k i) (hi : i < l.length) (e : l[i] ≠ l[i - 1]) : CompInv l (r.set k l[i]) (k + 1) (i + 1) := by
  have hp := h.pos
  have hl := h.le
  have hn := h.len
  refine ⟨by rw [List.length_set]; exact hn, by omega, by omega, hi, ?_, ?_⟩
  · rw [comp_read (by omega) hi, if_neg e, ← h.tk]
    have hk : k < r.length := by omega
    rw [List.take_succ_eq_append_getElem (by rw [List.length_set]; exact hk), List.getElem_set_self, List.take_set_of_le (Nat.le_refl k)]
  · show (r.set k l[i]).drop i = l.drop i
    rw [List.drop_set_of_lt (by omega)]
    exact h.drop
theorem CompInv.done {l r : List α} {k : Nat} (h : CompInv l r k l.length) : r.take k = compE l ∧ (compE l).length = k := by
  have := h.tk
  rw [List.take_length] at this
  refine ⟨this, ?_⟩
  rw [← this, List.length_take]
  have := h.le; have := h.len
  omega
end
theorem own_there {w : World} {base g n cap k : Nat} {e : TypeId} {xs : List Value} (h : w.ownsRow base e k (.slice (some ⟨g, 0, none⟩) n cap) n xs) (i m : Nat) (hi : i * k + m ≤ n * k) : w.there g (i * k) m := by
  obtain ⟨cur, hg, hb, hn, hm, hs, hlt, hH⟩ := own_holds h
  have hl := h.1
  intro j hj
  have := hH (i * k + j) (by simp [hl]; omega)
  rw [Nat.zero_add] at this
  exact ⟨by rw [this.1]; rfl, this.2⟩
theorem zero_one {z : Array Value} {n : Nat} (h : ∀ v ∈ z.toList, v.oneCell' = true) : ∀ v ∈ (Builtin.zeroCells z n).toList, v.oneCell' = true := by
  intro v hv
  unfold Builtin.zeroCells at hv
  rw [Array.toList_map, List.mem_map] at hv
  obtain ⟨i, hi, rfl⟩ := hv
  rcases Nat.eq_zero_or_pos z.size with h0 | h0
  · simp [h0] at hi
  · have hm : i % z.size < z.size := Nat.mod_lt _ h0
    rw [getElem!_pos z _ hm]
    exact h _ (by simp)
theorem zero_len (z : Array Value) (n : Nat) : (Builtin.zeroCells z n).toList.length = n * z.size := by rw [Array.length_toList, size_zeroCells]
variable {P : Program}
/-- 'clear(s[i:])' over a row of the call's own. -/
theorem run_clear_tail {w : World} {base g n cap k : Nat} {e : TypeId} {xs : List Value} (h : w.ownsRow base e k (.slice (some ⟨g, 0, none⟩) n cap) n xs) (t : TypeId) (z : Value) (hz : z.cells.size = k) (hz1 : ∀ v ∈ z.cells.toList, v.oneCell' = true)
    (ht : P.underlying t = some (.slice e)) (hv : ∀ w, (zeroValue e).run P w = .ok z w) (i c : Nat) (hi : i < n) (ty : TypeId) :
    (Builtin.clear_ #[t] ty #[.slice (some ⟨g, i * k, none⟩) (n - i) c]).run P w = .ok (.tuple #[]) (w.setCells g (i * k) (Builtin.zeroCells z.cells (n - i)).toList) := by
  have hlen : (Builtin.zeroCells z.cells (n - i)).toList.length = (n - i) * k := by rw [zero_len, hz]
  have hth := own_there h i ((n - i) * k) (by rw [← Nat.add_mul]; exact Nat.mul_le_mul_right _ (by omega))
  exact run_clear_many w t e ty z _ ht hv g (i * k) (n - i) c (by omega) rfl (zero_one hz1) (fun j hj => (hth j (by rw [← hlen]; exact hj)).1) (fun j hj => (hth j (by rw [← hlen]; exact hj)).2)
theorem own_clear_tail {w : World} {base g n cap k i : Nat} {e : TypeId} {xs : List Value} (h : w.ownsRow base e k (.slice (some ⟨g, 0, none⟩) n cap) n xs) (hi : i ≤ n) (z : Value) (hz : z.cells.size = k) :
    (w.setCells g (i * k) (Builtin.zeroCells z.cells (n - i)).toList).ownsRow base e k (.slice (some ⟨g, 0, none⟩) i cap) i (xs.take (i * k)) ∧ w.grownBy (w.setCells g (i * k) (Builtin.zeroCells z.cells (n - i)).toList) (some g) := by
  refine own_cut_set h hi _ ?_
  rw [zero_len, hz, ← Nat.add_mul]
  exact Nat.mul_le_mul_right _ (by omega)
end Go.Proofs.YtcgflkfbjnpdiaaGreat
