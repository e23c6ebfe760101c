/- Subs (24), plainly: predicates in order, the maximal ones. No program is in sight.
slices.SortFunc at constraints.
slices.SortFunc at constraints, walked.
slices.CompactFunc at constraints, with pred's own closure: what once does.
Rows of predicates: CompactFunc by Same.
DERIVED: THE SHELF's CONTRACTS AT THIS DUMP, IN PLAIN WORDS (tools/lay-plain.mjs out of 'YtlhbpflcffjhmaaGreatShRRaw.lean', which tools/lay-shelf.mjs wrote): THE SAME DECLARATIONS UNDER THE SAME YtlhbpflcffjhmaaGreatS: 'import', 'namespace', 'open', 'def', 'theorem' AND NOTHING ELSE: no command of the shelf's: FOR A HAND-IN. Each laying: the table of numbers ('.._ren') and one theorem, a field a fact of the dump's own or the kernel's comparison; each contract: ONE APPLICATION.
Rows of predicates: BinarySearchFunc, Delete.
Rows of predicates: Insert of one.
Rows of predicates: Insert of one, ahead of the end. -/
import Derived.Deep.CutBlock
import Derived.Shelf.SlicesE.Delete
import Derived.Shelf.SlCmpFuncs.BinarySearchFunc
import Derived.Shelf.SlCmpFuncs.None
import Derived.Test.YtlhbpflcffjhmaaGreatProg
import Derived.Lib.AppendZerosOnto
import Derived.Lib.Overlaps
import Derived.Laws.Externs
import Derived.Laws.IdiomCopy
import Derived.Laws.NewBlocks
import Derived.Test.YtlhbpflcffjhmaaGreatPk7
import Derived.Test.YtlhbpflcffjhmaaGreatPk3
import Derived.Test.YtlhbpflcffjhmaaGreatPk5
namespace Go.Proofs.YtlhbpflcffjhmaaGreat

theorem cmp0 (p q : List C) : decide (cmpP p q = 0) = decide (p = q) := by
  by_cases h : p = q
  · subst h; rw [decide_eq_true (wo_P.refl p), decide_eq_true rfl]
  · rw [decide_eq_false h, decide_eq_false fun e => h (cmpP_zero e)]

/-! The maximal ones, of anything that bears a predicate. -/
section
variable {α : Type} (f : α → List C)
def covB (out : List α) (p : α) : Bool := out.any fun q => !decide (cmpP (f p) (f q) = 0) && coversF (f q) (f p)
def dropB (out : List α) (p : α) : List α := out.filter fun q => !decide (cmpP (f p) (f q) = 0)
def topStep (out : List α) (p : α) : List α := if covB f out p then dropB f out p else out
def topsG (l : List α) : List α := l.foldl (topStep f) l
theorem covB_map (out : List α) (p : α) : covB id (out.map f) (f p) = covB f out p := by unfold covB; rw [List.any_map]; rfl
theorem dropB_map (out : List α) (p : α) : dropB id (out.map f) (f p) = (dropB f out p).map f := by unfold dropB; rw [List.filter_map]; rfl
theorem topStep_map (out : List α) (p : α) : topStep id (out.map f) (f p) = (topStep f out p).map f := by
  unfold topStep
  rw [covB_map, dropB_map]
  split <;> rfl
theorem topsG_fold : ∀ (l out : List α), (l.map f).foldl (topStep id) (out.map f) = (l.foldl (topStep f) out).map f
  | [], _ => rfl
  | p :: l, out => by
    rw [List.map_cons, List.foldl_cons, List.foldl_cons, topStep_map]
    exact topsG_fold l _
theorem topStep_sub (out : List α) (p : α) : (topStep f out p).Sublist out := by
  unfold topStep
  split
  · exact List.filter_sublist
  · exact List.Sublist.refl _
theorem topsG_sub : ∀ (l out : List α), (l.foldl (topStep f) out).Sublist out
  | [], _ => List.Sublist.refl _
  | p :: l, out => (topsG_sub l (topStep f out p)).trans (topStep_sub f out p)
end
def topsF (l : List (List C)) : List (List C) := topsG id l
theorem topsF_map {α : Type} (f : α → List C) (l : List α) : topsF (l.map f) = (topsG f l).map f := topsG_fold f l l

structure TopI (l done out : List (List C)) : Prop where
  sub : out.Sublist l
  cov : ∀ p ∈ l, ∃ q ∈ out, coversF q p = true
  free : ∀ p ∈ done, p ∈ out → ∀ q ∈ out, q ≠ p → coversF q p = false
theorem TopI.step {l done out : List (List C)} {p : List C} (h : TopI l done out) (hp : p ∈ l) : TopI l (done ++ [p]) (topStep id out p) := by
  have hsub := topStep_sub id out p
  have hold : ∀ r ∈ done, r ∈ topStep id out p → ∀ q ∈ topStep id out p, q ≠ r → coversF q r = false := fun r hr hm q hq hne => h.free r hr (hsub.subset hm) q (hsub.subset hq) hne
  by_cases hc : covB id out p = true
  · have he : topStep id out p = out.filter fun q => !decide (cmpP p q = 0) := by unfold topStep; rw [if_pos hc]; rfl
    have hmem : ∀ q, q ∈ topStep id out p ↔ q ∈ out ∧ q ≠ p := fun q => by
      rw [he, List.mem_filter, cmp0]
      simp only [Bool.not_eq_true', decide_eq_false_iff_not]
      exact and_congr_right fun _ => ⟨fun h e => h e.symm, fun h e => h e.symm⟩
    obtain ⟨z, hz, hz2⟩ := List.any_eq_true.1 hc
    rw [Bool.and_eq_true, Bool.not_eq_true'] at hz2
    have hz1 : decide (cmpP p z = 0) = false := hz2.1
    have hz3 : coversF z p = true := hz2.2
    rw [cmp0, decide_eq_false_iff_not] at hz1
    have hzo : z ∈ topStep id out p := (hmem z).2 ⟨hz, fun e => hz1 e.symm⟩
    refine ⟨hsub.trans h.sub, fun r hr => ?_, fun r hr hm => ?_⟩
    · obtain ⟨q, hq, hq2⟩ := h.cov r hr
      by_cases e : q = p
      · subst e
        exact ⟨z, hzo, covers_trans hz3 hq2⟩
      · exact ⟨q, (hmem q).2 ⟨hq, e⟩, hq2⟩
    · rcases List.mem_append.1 hr with hr | hr
      · exact hold r hr hm
      · obtain rfl : r = p := by simpa using hr
        exact absurd rfl ((hmem r).1 hm).2
  · have hc : covB id out p = false := by simpa using hc
    have he : topStep id out p = out := by unfold topStep; rw [if_neg (by rw [hc]; decide)]
    rw [he] at hold ⊢
    refine ⟨h.sub, h.cov, fun r hr hm => ?_⟩
    rcases List.mem_append.1 hr with hr | hr
    · exact hold r hr hm
    · obtain rfl : r = p := by simpa using hr
      intro q hq hne
      have := List.any_eq_false.1 hc q hq
      have hd : decide (cmpP (id r) (id q) = 0) = false := by
        show decide (cmpP r q = 0) = false
        rw [cmp0]; exact decide_eq_false fun e => hne e.symm
      rw [hd] at this
      simpa using this
theorem tops_fold {l : List (List C)} : ∀ (t done out : List (List C)), TopI l done out → (∀ p ∈ t, p ∈ l) → TopI l (done ++ t) (t.foldl (topStep id) out)
  | [], done, out, h, _ => by rw [List.append_nil]; exact h
  | p :: t, done, out, h, hs => by
    have := tops_fold t (done ++ [p]) (topStep id out p) (h.step (hs p (by simp))) fun q hq => hs q (by simp [hq])
    rw [List.append_assoc, List.singleton_append] at this
    exact this
theorem tops_law {l : List (List C)} (hm : ∀ p ∈ l, mayP p = true) : TopI l l (topsF l) := by
  have := tops_fold l [] l ⟨List.Sublist.refl _, fun p hp => ⟨p, hp, covers_refl (hm p hp)⟩, fun p hp => by cases hp⟩ fun p hp => hp
  rwa [List.nil_append] at this
theorem tops_free {l : List (List C)} (hm : ∀ p ∈ l, mayP p = true) {p q : List C} (hp : p ∈ topsF l) (hq : q ∈ topsF l) (hne : q ≠ p) : coversF q p = false :=
  (tops_law hm).free p ((tops_law hm).sub.subset hp) hp q hq hne

/-! What covers, matches. -/
theorem covers_match {p q : List C} {l : List (List UInt8 × V)} (h : coversF q p = true) (kp : ∀ c ∈ p, inC c) (kq : ∀ c ∈ q, inC c) (hl : ∀ a ∈ l, inN a.2.n) (hm : matchP p l = true) : matchP q l = true := by
  obtain ⟨hq, hp, h⟩ := (covers_iff q p).1 h
  rcases h with h | h
  · obtain ⟨n, hn, hv⟩ := none_iff.1 h
    obtain ⟨v, hg⟩ := asked_get hm hn
    have := asked_of hp kp hm hg (getE_in hl hg)
    rw [hv v] at this; cases this
  · refine match_of hq kq fun n hn => ?_
    obtain ⟨h1, h2⟩ := h n hn
    obtain ⟨v, hg⟩ := asked_get hm h1
    exact ⟨v, hg, getE_in hl hg, h2 v (asked_of hp kp hm hg (getE_in hl hg))⟩
theorem overlaps_norm {p q : List C} (hq : mayP q = true) : overlapsF p (normP q) = overlapsF p q := by
  have e : overlapsF p (normP q) = true ↔ overlapsF p q = true := by
    rw [overlaps_iff, overlaps_iff]
    constructor
    · rintro ⟨h1, _, h3⟩
      refine ⟨h1, hq, fun n hn => ?_⟩
      obtain ⟨v, v1, v2⟩ := h3 n (hn.imp (fun h => h) (fun h => (norm_names n).2 h))
      exact ⟨v, v1, by rw [← norm_asked hq]; exact v2⟩
    · rintro ⟨h1, _, h3⟩
      refine ⟨h1, normP_may hq, fun n hn => ?_⟩
      obtain ⟨v, v1, v2⟩ := h3 n (hn.imp (fun h => h) (fun h => (norm_names n).1 h))
      exact ⟨v, v1, by rw [norm_asked hq]; exact v2⟩
  cases h : overlapsF p q with
  | true => exact e.2 h
  | false =>
    cases h2 : overlapsF p (normP q) with
    | false => rfl
    | true => rw [e.1 h2] at h; cases h
theorem norm_in {p : List C} (h : ∀ c ∈ p, inC c) : ∀ c ∈ normP p, inC c := fun z hz => by
  obtain ⟨c, hc, rfl⟩ := (normP_mem p z).1 hz
  have := h c hc
  exact ⟨this.1, fun x hx => this.2 x (sortU_sub _ _ hx)⟩

/-! Rows in order. -/
abbrev Asc (l : List (List C)) : Prop := l.Pairwise fun a b => cmpP a b ≤ 0
def kF (l : List (List C)) (p : List C) : Nat := l.countP fun q => decide (cmpP q p < 0)
def laidF (l : List (List C)) (p : List C) : List (List C) := l.take (kF l p) ++ p :: l.drop (kF l p)
def hasF (l : List (List C)) (p : List C) : Bool := match l[kF l p]? with | some q => decide (cmpP q p = 0) | none => false
def cutF (l : List (List C)) (p : List C) : List (List C) := l.take (kF l p) ++ l.drop (kF l p + 1)
theorem Up.asc {l : List (List C)} (h : Up cmpP l) : Asc l := List.Pairwise.imp (fun h => Int.le_of_lt h) h
theorem Up.nodup {l : List (List C)} (h : Up cmpP l) : l.Nodup := List.Pairwise.imp (fun {a b} h e => by rw [e, wo_P.refl] at h; exact absurd h (by decide)) h
theorem asc_up {l : List (List C)} (h : Asc l) (hn : l.Nodup) : Up cmpP l :=
  List.Pairwise.imp₂ (fun {a b} (h1 : cmpP a b ≤ 0) (h2 : a ≠ b) => by
    have : cmpP a b ≠ 0 := fun e => h2 (cmpP_zero e)
    omega) h hn
theorem asc_split {l : List (List C)} (h : Asc l) (p : List C) : (∀ q ∈ l.take (kF l p), cmpP q p < 0) ∧ (∀ q ∈ l.drop (kF l p), 0 ≤ cmpP q p) := by
  induction l with
  | nil => exact ⟨fun q hq => by simp at hq, fun q hq => by simp at hq⟩
  | cons x l ih =>
    have h1 := List.pairwise_cons.1 h
    obtain ⟨a, b⟩ := ih h1.2
    by_cases hx : cmpP x p < 0
    · have e : kF (x :: l) p = kF l p + 1 := by unfold kF; rw [List.countP_cons_of_pos (by simpa using hx)]
      rw [e, List.take_succ_cons, List.drop_succ_cons]
      refine ⟨fun q hq => ?_, b⟩
      rcases List.mem_cons.1 hq with rfl | hq
      · exact hx
      · exact a q hq
    · have hall : ∀ q ∈ x :: l, ¬ cmpP q p < 0 := fun q hq hlt => by
        rcases List.mem_cons.1 hq with rfl | hq
        · exact hx hlt
        · exact hx (wo_P.le_lt (h1.1 q hq) hlt)
      have e : kF (x :: l) p = 0 := by unfold kF; rw [List.countP_eq_zero]; intro q hq; simpa using hall q hq
      rw [e, List.take_zero, List.drop_zero]
      exact ⟨fun q hq => by simp at hq, fun q hq => by have := hall q hq; omega⟩
theorem laid_perm (l : List (List C)) (p : List C) : (laidF l p).Perm (p :: l) := by
  unfold laidF
  refine List.perm_middle.trans ?_
  rw [List.take_append_drop]
theorem laid_mem {l : List (List C)} {p z : List C} : z ∈ laidF l p ↔ z = p ∨ z ∈ l := by rw [(laid_perm l p).mem_iff, List.mem_cons]
theorem laid_asc {l : List (List C)} (h : Asc l) (p : List C) : Asc (laidF l p) := by
  obtain ⟨a, b⟩ := asc_split h p
  have b' : ∀ q ∈ l.drop (kF l p), cmpP p q ≤ 0 := fun q hq => by have := b q hq; have := wo_P.anti p q; omega
  unfold laidF
  refine List.pairwise_append.2 ⟨List.Pairwise.sublist (List.take_sublist ..) h, List.pairwise_cons.2 ⟨b', List.Pairwise.sublist (List.drop_sublist ..) h⟩, fun x hx y hy => ?_⟩
  rcases List.mem_cons.1 hy with rfl | hy
  · exact Int.le_of_lt (a x hx)
  · exact Int.le_of_lt (wo_P.lt_le (a x hx) (b' y hy))
theorem has_at {l : List (List C)} {p : List C} (h : hasF l p = true) : ∃ hk : kF l p < l.length, l[kF l p] = p := by
  unfold hasF at h
  cases hg : l[kF l p]? with
  | none => rw [hg] at h; cases h
  | some q =>
    rw [hg] at h
    obtain ⟨hk, e⟩ := List.getElem?_eq_some_iff.1 hg
    exact ⟨hk, by rw [e]; exact cmpP_zero (of_decide_eq_true h)⟩
theorem has_iff {l : List (List C)} (hl : Asc l) (p : List C) : hasF l p = true ↔ p ∈ l := by
  constructor
  · intro h
    obtain ⟨hk, e⟩ := has_at h
    rw [← e]; exact List.getElem_mem hk
  · intro hm
    obtain ⟨a, b⟩ := asc_split hl p
    rw [← List.take_append_drop (kF l p) l] at hm
    rcases List.mem_append.1 hm with hm | hm
    · have := a p hm; rw [wo_P.refl] at this; exact absurd this (by decide)
    · have hk : kF l p < l.length := by
        rcases Nat.lt_or_ge (kF l p) l.length with h | h
        · exact h
        · rw [List.drop_eq_nil_of_le h] at hm; cases hm
      have hle : cmpP l[kF l p] p ≤ 0 := by
        rw [List.drop_eq_getElem_cons hk] at hm
        rcases List.mem_cons.1 hm with e | hm
        · rw [← e, wo_P.refl]; exact Int.le_refl _
        · have hd : Asc (l.drop (kF l p)) := List.Pairwise.sublist (List.drop_sublist ..) hl
          rw [List.drop_eq_getElem_cons hk] at hd
          exact (List.pairwise_cons.1 hd).1 p hm
      have hge : 0 ≤ cmpP l[kF l p] p := b _ (by rw [List.drop_eq_getElem_cons hk]; exact List.mem_cons_self)
      unfold hasF
      rw [List.getElem?_eq_getElem hk]
      exact decide_eq_true (by omega)
theorem has_false {l : List (List C)} (hl : Asc l) {p : List C} (h : hasF l p = false) : p ∉ l := fun hm => by rw [(has_iff hl p).2 hm] at h; cases h
theorem cut_perm {l : List (List C)} {p : List C} (h : hasF l p = true) : l.Perm (p :: cutF l p) := by
  obtain ⟨hk, e⟩ := has_at h
  have e2 : l = l.take (kF l p) ++ p :: l.drop (kF l p + 1) := by
    conv => lhs; rw [← List.take_append_drop (kF l p) l, List.drop_eq_getElem_cons hk, e]
  conv => lhs; rw [e2]
  exact List.perm_middle
theorem cut_sub (l : List (List C)) (p : List C) : (cutF l p).Sublist l := by
  unfold cutF
  conv => rhs; rw [← List.take_append_drop (kF l p) l]
  refine List.Sublist.append (List.Sublist.refl _) ?_
  rw [show l.drop (kF l p + 1) = (l.drop (kF l p)).drop 1 by rw [List.drop_drop]]
  exact List.drop_sublist ..
theorem cut_asc {l : List (List C)} (h : Asc l) (p : List C) : Asc (cutF l p) := List.Pairwise.sublist (cut_sub l p) h
theorem asc_unique {l m : List (List C)} (hl : Asc l) (hm : Asc m) (hp : l.Perm m) : l = m :=
  hp.eq_of_pairwise (fun a b _ _ h1 h2 => cmpP_zero (by have := wo_P.anti a b; omega)) hl hm
/-- Predicates as a table holds them. -/
def NormL (l : List (List C)) : Prop := ∀ p ∈ l, mayP p = true ∧ normP p = p
theorem normL_norm {p : List C} (h : mayP p = true) : mayP (normP p) = true ∧ normP (normP p) = normP p := ⟨normP_may h, normP_idem p⟩
theorem NormL.sub {l m : List (List C)} (h : NormL m) (hs : ∀ p ∈ l, p ∈ m) : NormL l := fun p hp => h p (hs p hp)
theorem NormL.laid {l : List (List C)} (h : NormL l) {p : List C} (hp : mayP p = true) : NormL (laidF l (normP p)) := fun z hz => by
  rcases laid_mem.1 hz with rfl | hz
  · exact normL_norm hp
  · exact h z hz
theorem sortP_mem {l : List (List C)} {z : List C} : z ∈ sortU cmpP l ↔ z ∈ l := sortU_mem l (fun _ _ _ _ h => cmpP_zero h) z
theorem sortP_up (l : List (List C)) : Up cmpP (sortU cmpP l) := sortU_up wo_P l
end Go.Proofs.YtlhbpflcffjhmaaGreat

namespace Go.Proofs.YtlhbpflcffjhmaaGreat
open Go.RowKit Go.Sort

theorem Row.keep {w w' : World} {size n : Nat} {v : Value} {xs : List Value} {row : Option Nat} (h : Row w size v n xs) (hg : w.grownBy w' row) (hne : v.ownBlock ≠ row ∨ row = none) : Row w' size v n xs := by
  obtain ⟨h1, a, cap, rfl, h3, h4, h5, h6, h7⟩ := h
  refine ⟨h1, a, cap, rfl, h3, h4, h5, h6, fun j u hj => ?_⟩
  obtain ⟨p, rfl, hc⟩ := h7 j u hj
  refine ⟨p, rfl, ?_⟩
  have hlt : p.block < w.heap.size := by
    rcases Nat.lt_or_ge p.block w.heap.size with h | h
    · exact h
    · have : w.cell? ⟨p.block, p.off + j, none⟩ = none := by simp [World.cell?, Array.getElem?_eq_none h]
      rw [this] at hc; cases hc
  rw [World.cell?_of_block (a := ⟨p.block, p.off + j, none⟩) (hg.block p.block hlt ?_)]
  · exact hc
  · rcases hne with hne | hne
    · exact hne
    · rw [hne]; simp

/-- A constraint with its set, where it may be sorted: its set lies, and not in the row's own block. -/
def SC (w : World) (g : Nat) : Type := { x : CS // SetR w x.h x.c.set ∧ x.h.ownBlock ≠ some g }
def scC {w : World} {g : Nat} (x : SC w g) : List Value := csC x.1
def scO {w : World} {g : Nat} (x y : SC w g) : Int := orderC x.1.c y.1.c
theorem set_one {w : World} {h : Value} {l : List V} (k : SetR w h l) : h.oneCell' = true := by
  obtain ⟨a, cap, rfl, _, _⟩ := Row.shape k; rfl
theorem swo_SC {w : World} {g : Nat} : WO (scO (w := w) (g := g)) := ⟨fun _ _ => wo_C.anti _ _, fun _ _ _ => wo_C.trans _ _ _⟩

theorem SC.lift {w : World} {g : Nat} : ∀ (us : List CS), (∀ x ∈ us, SetR w x.h x.c.set ∧ x.h.ownBlock ≠ some g) → ∃ ss : List (SC w g), ss.map (·.1) = us
  | [], _ => ⟨[], rfl⟩
  | x :: r, h => by
    obtain ⟨ss, e⟩ := SC.lift r fun y hy => h y (List.mem_cons_of_mem _ hy)
    exact ⟨⟨x, h x List.mem_cons_self⟩ :: ss, congrArg (x :: ·) e⟩

theorem bits115_any (n : Nat) (hn : n ≤ 1000000) (w : World) : Calls Tryz.prog 105 #[.int .u64 n] w fun e w' => e = .returned (.int .i64 (Lib.bitLen n)) ∧ w' = w := by
  have h := Any.bits_Len Tryz.bitsLen (n : Int) w (by omega) (by omega)
  rw [Int.toNat_natCast] at h
  exact h

theorem pdqC_any (w : World) (base g cap : Nat) (us : List CS) (ho : w.ownsRow base 64 7 (.slice (some ⟨g, 0, none⟩) us.length cap) us.length (us.flatMap csC)) (hl : us.length ≤ 12) (h0 : us ≠ [])
    (hs : ∀ x ∈ us, SetR w x.h x.c.set ∧ x.h.ownBlock ≠ some g) (lim : Int) :
    Calls Tryz.prog 149 #[.slice (some ⟨g, 0, none⟩) us.length cap, .int .i64 0, .int .i64 us.length, .int .i64 lim, .func (.func 31) #[] #[]] w
      fun e w' => e = .returned (.tuple #[]) ∧ ∃ us' : List CS, us'.Perm us ∧ (us'.Pairwise fun a b => orderC a.c b.c ≤ 0) ∧ w'.ownsRow base 64 7 (.slice (some ⟨g, 0, none⟩) us.length cap) us.length (us'.flatMap csC) ∧ w.grownBy w' (some g) := by
  obtain ⟨cur, hg, hb, hn, hm, hsz, hlt, hH⟩ := own_holds ho
  obtain ⟨ss, hss⟩ := SC.lift us hs
  have hsl : ss.length = us.length := by rw [← hss, List.length_map]
  have hfl : ss.flatMap scC = us.flatMap csC := by rw [← hss, List.flatMap_map]; rfl
  haveI : Inhabited (SC w g) := ⟨ss.head (by intro h; rw [h] at hsl; exact h0 (List.length_eq_zero_iff.1 hsl.symm))⟩
  have hk : ∀ x : SC w g, (scC x).length = 7 := fun _ => rfl
  have ho2 : w.ownsRow base 64 7 (.slice (some ⟨g, 0, none⟩) us.length cap) us.length (ss.flatMap scC) := by rw [hfl]; exact ho
  have hHK := own_holdsK scC (by decide) hk ho2
  have hone : ∀ x : SC w g, ∀ u ∈ scC x, u.oneCell' = true := fun x u hu => csC_one [x.1] (fun y hy => by rw [List.mem_singleton.1 hy]; exact set_one x.2.1) u (by simpa [scC] using hu)
  have hcmp : CmpLays (α := SC w g) Tryz.prog 31 #[] scC 7 scO g 0 ss.toArray.size w := fun m os dk hdk x y => by
    have hgw : w.grownBy (sortWorldK scC 7 w g 0 m dk os) (some g) := by unfold sortWorldK putRowK; exact grownBy_row _
    obtain ⟨a1, c1, e1, _, _⟩ := Row.shape x.2.1
    obtain ⟨a2, c2, e2, _, _⟩ := Row.shape y.2.1
    have hx := Row.keep x.2.1 hgw (.inl x.2.2)
    have hy := Row.keep y.2.1 hgw (.inl y.2.2)
    have := order_any (sortWorldK scC 7 w g 0 m dk os) x.1.c y.1.c a1 c1 a2 c2 (by rw [← e1]; exact hx) (by rw [← e2]; exact hy)
    rw [← e1, ← e2] at this
    exact this.mono fun _ _ ⟨he, hx⟩ => ⟨he, hx.grown⟩
  have h12 : ss.toArray.size ≤ 12 := by simp; omega
  have hc := AnyQ.pdqsortCmpFunc_small Tryz.sortC 7 (fun w => Tryz.isAgg64 w) (fun w => Tryz.sizeOf64 w) scC hk hone scO 31 #[] g 0 cap 0 ss.toArray.size lim ss.toArray w ent65 hcmp hHK hlt (Nat.zero_le _) (Nat.le_refl _) (by omega) (by omega)
  have e1 : ss.toArray.size = us.length := by simp [hsl]
  have hsort := insertionSort_holds (lt := ltOf (scO (w := w) (g := g))) (wo_swo swo_SC) ss.toArray 0 ss.toArray.size (Nat.zero_le _) (Nat.le_refl _)
  rw [e1] at hc
  refine hc.mono ?_
  rintro e w' ⟨rfl, n, os, rfl⟩
  rw [← e1]
  generalize insertionSort (ltOf scO) ss.toArray 0 ss.toArray.size = d' at *
  obtain ⟨p1, p2⟩ := sorted_list (cf := scO) hsort.1 hsort.2 swo_SC.anti
  have hll : d'.toList.length = ss.length := p1.length_eq
  have hfin := own_sorted (m := n) (os := os) scC (by decide) hk ho2 hll
  refine ⟨rfl, d'.toList.map (·.1), ?_, ?_, ?_, hfin.2⟩
  · rw [← hss]; exact p1.map _
  · rw [List.pairwise_map]; exact p2
  · have : (d'.toList.map (·.1)).flatMap csC = d'.toList.flatMap scC := by rw [List.flatMap_map]; rfl
    rw [this, e1]
    exact hfin.1
end Go.Proofs.YtlhbpflcffjhmaaGreat

namespace Go.Proofs.YtlhbpflcffjhmaaGreat
open Go.RowKit Go.Sort

set_option maxRecDepth 100000 in
set_option maxHeartbeats 2000000 in
theorem sortC_any (w : World) (base g cap : Nat) (us : List CS) (ho : w.ownsRow base 64 7 (.slice (some ⟨g, 0, none⟩) us.length cap) us.length (us.flatMap csC)) (hl : us.length ≤ 12) (h0 : us ≠ [])
    (hs : ∀ x ∈ us, SetR w x.h x.c.set ∧ x.h.ownBlock ≠ some g) :
    Calls Tryz.prog 110 #[.slice (some ⟨g, 0, none⟩) us.length cap, .func (.func 31) #[] #[]] w
      fun e w' => e = .returned (.tuple #[]) ∧ ∃ us' : List CS, us'.Perm us ∧ (us'.Pairwise fun a b => orderC a.c b.c ≤ 0) ∧ w'.ownsRow base 64 7 (.slice (some ⟨g, 0, none⟩) us.length cap) us.length (us'.flatMap csC) ∧ w.grownBy w' (some g) := by
  have hc := fun lim => pdqC_any w base g cap us ho hl h0 hs lim
  have hbl := bits115_any us.length (by omega) w
  have wr : IntKind.u64.wrap (us.length : Int) = us.length := by simp [IntKind.wrap, IntKind.bits, IntKind.signed]; omega
  have HC := Lib.hid hc
  clear hc ho hs h0
  generalize us.length = n at *
  go_enter Tryz.func110, Tryz.ntmps110
  go_wp2_with (first | (go_at_call 105; refine hbl.mono ?_; rintro e w' ⟨rfl, rfl⟩) | (go_at_call 149; refine (HC.out _).mono ?_; rintro e w' ⟨rfl, us', q1, q2, q3, q4⟩))
  go_end0
  exact ⟨rfl, us', q1, q2, q3, q4⟩
end Go.Proofs.YtlhbpflcffjhmaaGreat

namespace Go.Proofs.YtlhbpflcffjhmaaGreat
open Go.RowKit Go.Sort

theorem order_dec (a b : C) : decide (orderC a b = 0) = decide (a = b) := by
  rw [Bool.eq_iff_iff, decide_eq_true_iff, decide_eq_true_iff]
  exact ⟨order_zero, fun h => by rw [h]; exact wo_C.refl b⟩

set_option maxRecDepth 100000 in
set_option maxHeartbeats 2000000 in
theorem eq119_any (w : World) (a b : C) (sa : Option Addr) (ca : Nat) (sb : Option Addr) (cb : Nat) (ha : SetR w (.slice sa a.set.length ca) a.set) (hb : SetR w (.slice sb b.set.length cb) b.set) :
    Calls Tryz.prog 112 #[.agg #[.string (strOf a.name), .int .i64 a.op, .int .i64 a.v.k, .int .i64 a.v.n, .string (strOf a.v.s), .bool a.v.b, .slice sa a.set.length ca], .agg #[.string (strOf b.name), .int .i64 b.op, .int .i64 b.v.k, .int .i64 b.v.n, .string (strOf b.v.s), .bool b.v.b, .slice sb b.set.length cb]] w fun e w' => e = .returned (.bool (decide (a = b))) ∧ Grew w w' := by
  have hx0 : Grew w ((w.alloc (.cells #[.string (strOf a.name), .int .i64 a.op, .int .i64 a.v.k, .int .i64 a.v.n, .string (strOf a.v.s), .bool a.v.b, .slice sa a.set.length ca] 64)).alloc (.cells #[.string (strOf b.name), .int .i64 b.op, .int .i64 b.v.k, .int .i64 b.v.n, .string (strOf b.v.s), .bool b.v.b, .slice sb b.set.length cb] 64)) := ((Grew.refl w).alloc _).alloc _
  have hcall := order_any _ a b sa ca sb cb (ha.ext hx0.1) (hb.ext hx0.1)
  rw [← order_dec, ← beq_dec]
  have HC := Lib.hid hcall
  clear hcall ha hb
  generalize orderC a b = r at *
  go_enter Tryz.func112, Tryz.ntmps112
  go_wp2_with (go_at_call 31; refine HC.out.mono ?_; rintro e w' ⟨rfl, hx⟩)
  go_ret
  exact ⟨rfl, hx0.trans hx⟩
theorem ent119 : ∀ args w, (callFunc 112 args).run Tryz.prog w = .ok (.enter 112 args) w := enters_of Tryz.func112 (by kernel_rfl) rfl
theorem eq119_cs (w : World) (x y : CS) (hx : SetR w x.h x.c.set) (hy : SetR w y.h y.c.set) :
    Calls Tryz.prog 112 #[.agg #[.string (strOf x.c.name), .int .i64 x.c.op, .int .i64 x.c.v.k, .int .i64 x.c.v.n, .string (strOf x.c.v.s), .bool x.c.v.b, x.h], .agg #[.string (strOf y.c.name), .int .i64 y.c.op, .int .i64 y.c.v.k, .int .i64 y.c.v.n, .string (strOf y.c.v.s), .bool y.c.v.b, y.h]] w fun e w' => e = .returned (.bool (decide (x.c = y.c))) ∧ Grew w w' := by
  obtain ⟨a1, c1, e1, _, _⟩ := Row.shape hx
  obtain ⟨a2, c2, e2, _, _⟩ := Row.shape hy
  rw [e1] at hx
  rw [e2] at hy
  rw [e1, e2]
  exact eq119_any w x.c y.c a1 c1 a2 c2 hx hy

theorem cs_at {W : World} {g n cap : Nat} {us : List CS} (h : Row W 7 (.slice (some ⟨g, 0, none⟩) n cap) n (us.flatMap csC)) {k : Nat} (hk : k < us.length) (hn : k < n) :
    W.cell? ⟨g, k * 7, none⟩ = some (.string (strOf us[k].c.name)) ∧ W.cell? ⟨g, k * 7 + 1, none⟩ = some (.int .i64 us[k].c.op) ∧ W.cell? ⟨g, k * 7 + 2, none⟩ = some (.int .i64 us[k].c.v.k) ∧ W.cell? ⟨g, k * 7 + 3, none⟩ = some (.int .i64 us[k].c.v.n) ∧
      W.cell? ⟨g, k * 7 + 4, none⟩ = some (.string (strOf us[k].c.v.s)) ∧ W.cell? ⟨g, k * 7 + 5, none⟩ = some (.bool us[k].c.v.b) ∧ W.cell? ⟨g, k * 7 + 6, none⟩ = some us[k].h := by
  have gg := fun j hj => flat_get csC 7 csC_len us k hk j hj
  have q := fun j u hj (e : (csC us[k])[j]? = some u) => Row.cellAt h ((gg j hj).trans e) (by omega)
  simp only [Nat.zero_add] at q
  exact ⟨q 0 _ (by decide) rfl, q 1 _ (by decide) rfl, q 2 _ (by decide) rfl, q 3 _ (by decide) rfl, q 4 _ (by decide) rfl, q 5 _ (by decide) rfl, q 6 _ (by decide) rfl⟩

theorem cs_one (x : CS) (h : x.h.oneCell' = true) : (#[.string (strOf x.c.name), .int .i64 x.c.op, .int .i64 x.c.v.k, .int .i64 x.c.v.n, .string (strOf x.c.v.s), .bool x.c.v.b, x.h] : Array Value).all (·.oneCell') = true :=
  all_oneCell_toArray (cs := csC x) fun u hu => csC_one [x] (fun y hy => by rw [List.mem_singleton.1 hy]; exact h) u (by simpa using hu)

set_option maxRecDepth 100000 in
set_option maxHeartbeats 8000000 in
theorem compactC_any (w : World) (base : Nat) (v : Value) (us : List CS) (ho : w.ownsRow base 64 7 v us.length (us.flatMap csC)) (hl : us.length ≤ 1000000) (hs : ∀ x ∈ us, SetR w x.h x.c.set ∧ x.h.ownBlock ≠ v.ownBlock) :
    Calls Tryz.prog 111 #[v, .func (.func 112) #[] #[]] w fun e w' => ∃ v', e = .returned v' ∧ w'.ownsRow base 64 7 v' (compF CS.c us).length ((compF CS.c us).flatMap csC) ∧ w.grownBy w' v.ownBlock ∧ v'.ownBlock = v.ownBlock := by
  by_cases h2 : us.length < 2
  · have hce : compF CS.c us = us := by
      match us, h2 with
      | [], _ => exact compF_nil
      | [x], _ => exact compF_one x
    rw [hce]
    obtain ⟨a, cap, rfl, hc, hm⟩ := Row.shape (Row.of_own ho)
    have hd : decide ((us.length : Int) < 2) = true := decide_eq_true (by omega)
    have HO := Lib.hid ho
    clear ho hce hs
    generalize us.length = n at *
    go_enter Tryz.func111, Tryz.ntmps111
    go_wp2
    go_ret
    exact ⟨_, rfl, HO.out, ⟨rfl, rfl, rfl, Nat.le_refl _, fun _ _ _ => rfl⟩, rfl⟩
  · have hne : v ≠ .slice none 0 0 := by
      rintro rfl
      obtain ⟨_, _, e1, _, _⟩ := Row.shape (Row.of_own ho)
      simp only [Value.slice.injEq] at e1
      omega
    rcases ho.2 with ⟨e0, _⟩ | ⟨g, cap, cur, rfl, hb, hg, hn, hm, hs', ht⟩
    · exact absurd e0 hne
    clear hne cur hg hs' ht
    have hd : decide ((us.length : Int) < 2) = false := decide_eq_false (by omega)
    have hS : ∀ (wr : World) (x : CS), w.grownBy wr (some g) → x ∈ us → SetR wr x.h x.c.set := fun wr x hg hx => Row.keep (hs x hx).1 hg (.inl (hs x hx).2)
    have HO := Lib.hid ho
    clear ho hs
    have HSET := Lib.hid hS
    clear hS
    generalize hN : us.length = n at *
    have HN := Lib.hid hN
    clear hN
    go_enter Tryz.func111, Tryz.ntmps111
    go_wp2_with fail
    go_loopw [5] (fun i wr => ∃ k : Nat, 1 ≤ k ∧ k ≤ n ∧ i = .int .i64 k ∧ Hid (compF CS.c (us.take k) = us.take k) ∧ Hid (wr.ownsRow base 64 7 (.slice (some ⟨g, 0, none⟩) n cap) n (us.flatMap csC)) ∧ Hid (w.grownBy wr (some g))) (fun i _ => n - (intOf i).toNat)
    case atStart =>
      refine ⟨1, Nat.le_refl _, by omega, rfl, ?_, HO, ⟨rfl, rfl, rfl, Nat.le_refl _, fun _ _ _ => rfl⟩⟩
      show compF CS.c (us.take 1) = us.take 1
      match us, HN.out with
      | [], _ => exact compF_nil
      | x :: r, _ => exact compF_one x
    case round =>
      obtain ⟨k, hk1, hk, rfl, hc, hown, hgr⟩ := hrel
      by_cases hlt : k < n
      · have hI : decide ((k : Int) < (n : Int)) = true := decide_eq_true (by omega)
        have k1 : k < us.length := by rw [HN.out]; exact hlt
        have k0 : k - 1 < us.length := by omega
        have hrow := Row.of_own hown.out
        obtain ⟨f0, f1, f2, f3, f4, f5, f6⟩ := cs_at hrow k1 hlt
        obtain ⟨g0, g1, g2, g3, g4, g5, g6⟩ := cs_at hrow k0 (by omega)
        have hsx := HSET.out wr us[k] hgr.out (List.getElem_mem k1)
        have hsy := HSET.out wr us[k - 1] hgr.out (List.getElem_mem k0)
        have hi0 : (0 : Int) ≤ (k : Int) - 1 := by omega
        have hi1 : (k : Int) - 1 < (n : Int) := by omega
        have hi2 : ((k : Int) - 1).toNat = k - 1 := by omega
        obtain ⟨E, hE⟩ : ∃ E : Bool, E = decide (us[k].c = us[k - 1].c) := ⟨_, rfl⟩
        have HE := Lib.hid hE
        clear hE hrow
        have hcall : ∀ W, Grew wr W → Calls Tryz.prog 112 #[.agg #[.string (strOf us[k].c.name), .int .i64 us[k].c.op, .int .i64 us[k].c.v.k, .int .i64 us[k].c.v.n, .string (strOf us[k].c.v.s), .bool us[k].c.v.b, us[k].h], .agg #[.string (strOf us[k - 1].c.name), .int .i64 us[k - 1].c.op, .int .i64 us[k - 1].c.v.k, .int .i64 us[k - 1].c.v.n, .string (strOf us[k - 1].c.v.s), .bool us[k - 1].c.v.b, us[k - 1].h]] W fun e w' => e = .returned (.bool E) ∧ Grew W w' := fun W hW => by
          rw [HE.out]
          exact eq119_cs W us[k] us[k - 1] (hsx.ext hW.1) (hsy.ext hW.1)
        clear hsx hsy
        have HE2 : Hid (E = decide (us[k].c = us[k - 1].c)) := HE.out
        clear HE
        generalize hx : us[k] = x at *
        generalize hy : us[k - 1] = y at *
        have HX := Lib.hid hx
        have HY := Lib.hid hy
        clear hx hy
        go_upto_region 6 with fail
        go_cut [28] from 18 to 28 (fun v28 wx => v28 = .bool E ∧ ∃ w1, w1 = wx ∧ Grew wr w1)
        case first =>
          clear HO HSET HN HX HY HE2 hc hown hgr
          refine Rg.wp_region_facts GrewS [Rg.Fact.eq _ (.func (.func 112) #[] #[]),
              Rg.Fact.eq _ (.slice (some ⟨g, 0, none⟩) n cap),
              Rg.Fact.eq _ (.int .i64 k),
              Rg.Fact.eq _ (.pointer (some ⟨g, k * 7, none⟩)),
              Rg.Fact.eq _ (.agg #[.string (strOf x.c.name), .int .i64 x.c.op, .int .i64 x.c.v.k, .int .i64 x.c.v.n, .string (strOf x.c.v.s), .bool x.c.v.b, x.h]),
              Rg.Fact.eq _ (.slice (some ⟨g, 0, none⟩) n cap),
              Rg.Fact.eq _ (.int .i64 k),
              Rg.Fact.eq _ (.int .i64 ((k : Int) - 1)),
              Rg.Fact.eq _ (.pointer (some ⟨g, (k - 1) * 7, none⟩)),
              Rg.Fact.eq _ (.agg #[.string (strOf y.c.name), .int .i64 y.c.op, .int .i64 y.c.v.k, .int .i64 y.c.v.n, .string (strOf y.c.v.s), .bool y.c.v.b, y.h]),
              Rg.Fact.eq _ (.bool E)]
            [[], [], [], [(1, 19), (2, 20)], [(3, 21)], [], [], [(6, 24)], [(5, 23), (7, 25)], [(8, 26)], [(0, 18), (4, 22), (9, 27)]]
            [(0, 18), (1, 19), (2, 20), (3, 21), (4, 22), (5, 23), (6, 24), (7, 25), (8, 26), (9, 27), (10, 28)] (by kernel_rfl) (by kernel_rfl) ?_ ?_
          · refine ⟨?_, ?_, ?_, ?_, ?_, ?_, ?_, ?_, ?_, ?_, ?_, trivial⟩
            · intro w1 hx1; change wpList _ _ _ _ _ _; exact Rg.ob_move _ rfl rfl rfl rfl rfl
            · intro w1 hx1; change wpList _ _ _ _ _ _; exact Rg.ob_move _ rfl rfl rfl rfl rfl
            · intro w1 hx1; change wpList _ _ _ _ _ _; exact Rg.ob_move _ rfl rfl rfl rfl rfl
            · intro w1 hx1; rintro _ rfl; rintro _ rfl; change wpList _ _ _ _ _ _; go_wp2_with fail; exact ⟨rfl, GrewS.refl _, rfl, rfl⟩
            · intro w1 hx1; rintro _ rfl; change wpList _ _ _ _ _ _; have m0 := hx1.1.cell f0; have m1 := hx1.1.cell f1; have m2 := hx1.1.cell f2; have m3 := hx1.1.cell f3; have m4 := hx1.1.cell f4; have m5 := hx1.1.cell f5; have m6 := hx1.1.cell f6; go_wp2_with fail; exact ⟨rfl, GrewS.refl _, rfl, rfl⟩
            · intro w1 hx1; change wpList _ _ _ _ _ _; exact Rg.ob_move _ rfl rfl rfl rfl rfl
            · intro w1 hx1; change wpList _ _ _ _ _ _; exact Rg.ob_move _ rfl rfl rfl rfl rfl
            · intro w1 hx1; rintro _ rfl; change wpList _ _ _ _ _ _; go_wp2_with fail; exact ⟨rfl, GrewS.refl _, rfl, rfl⟩
            · intro w1 hx1; rintro _ rfl; rintro _ rfl; change wpList _ _ _ _ _ _; go_wp2_with fail; exact ⟨rfl, GrewS.refl _, rfl, rfl⟩
            · intro w1 hx1; rintro _ rfl; change wpList _ _ _ _ _ _; have m0 := hx1.1.cell g0; have m1 := hx1.1.cell g1; have m2 := hx1.1.cell g2; have m3 := hx1.1.cell g3; have m4 := hx1.1.cell g4; have m5 := hx1.1.cell g5; have m6 := hx1.1.cell g6; go_wp2_with fail; exact ⟨rfl, GrewS.refl _, rfl, rfl⟩
            · intro w1 hx1; rintro _ rfl; rintro _ rfl; rintro _ rfl; change wpList _ _ _ _ _ _; go_wp2_with fail; refine (hcall w1 hx1).mono ?_; rintro e w2 ⟨rfl, hx2⟩; go_wp2_with fail; exact ⟨rfl, hx2, rfl, rfl⟩
          · intro w1 hx1; rintro _ rfl; rintro _ rfl; rintro _ rfl; rintro _ rfl; rintro _ rfl; rintro _ rfl; rintro _ rfl; rintro _ rfl; rintro _ rfl; rintro _ rfl; rintro _ rfl; refine depsThen_nil ?_; dsimp only; simp only [Act.put, List.setIfInBounds_toArray, List.set_cons_zero, List.set_cons_succ]
            go_wp2_with fail
            go_meet
            exact ⟨rfl, _, rfl, hx1⟩
        case rest =>
          obtain ⟨rfl, w1, rfl, hx1⟩ := hcut
          clear f0 f1 f2 f3 f4 f5 f6 g0 g1 g2 g3 g4 g5 g6 hcall hi0 hi1 hi2
          obtain ⟨m, rfl⟩ : ∃ m, k = m + 1 := ⟨k - 1, by omega⟩
          have hct := compF_take (f := CS.c) (l := us) (n := m) k1
          have hxe : us[m + 1] = x := HX.out
          have hye : us[m] = y := HY.out
          have hown1 := Lib.hid (own_ext hown.out hx1.1)
          have hgr1 := Lib.hid (grown_ext hgr.out hx1.1)
          clear hown hgr
          cases E
          · have hne : us[m + 1].c ≠ us[m].c := by rw [hxe, hye]; exact of_decide_eq_false HE2.out.symm
            have hc2 : Hid (compF CS.c (us.take (m + 1 + 1)) = us.take (m + 1 + 1)) := by
              show _ = _
              rw [hct, if_neg hne, hc.out, ← List.take_succ_eq_append_getElem k1]
            clear hct hne HE2 hxe hye
            go_wp2_with fail
            go_roundw
            case rel => exact ⟨m + 2, by omega, by omega, by go_num, hc2, hown1.out, hgr1.out⟩
            case measure => simp [intOf]; omega
          · have heq : us[m + 1].c = us[m].c := by rw [hxe, hye]; exact of_decide_eq_true HE2.out.symm
            have hstart : Hid (CompInvF CS.c us us (m + 1) (m + 1 + 1)) := CompInvF.start k1 hc.out heq
            clear hct heq HE2 hxe hye HX HY
            have hcapn : m + 1 < cap := by omega
            have hne : ¬ cap = m + 1 := by omega
            go_wp2_with fail
            obtain ⟨d, hd⟩ : ∃ d, d = n - (m + 1) := ⟨_, rfl⟩
            obtain ⟨ce, hce⟩ : ∃ ce, ce = cap - (m + 1) := ⟨_, rfl⟩
            rw [← hd, ← hce]
            have hd1 : m + 1 + d = n := by omega
            have HD1 := Lib.hid hd1
            have hmn : m + 1 + d ≤ n := by omega
            have hd2 : d ≤ 1000000 := by omega
            have hd3 : d ≤ ce := by omega
            have hq0 : m + 1 ≤ n := by omega
            clear hd hce hd1 hx1
            go_loopw [5, 7] (fun kk jj wr => ∃ (q j : Nat) (r : List CS), 1 ≤ j ∧ j ≤ d ∧ q + 1 ≤ m + 1 + j ∧ kk = .int .i64 q ∧ jj = .int .i64 j ∧ Hid (CompInvF CS.c us r q (m + 1 + j)) ∧ Hid (wr.ownsRow base 64 7 (.slice (some ⟨g, 0, none⟩) n cap) n (r.flatMap csC)) ∧ Hid (w.grownBy wr (some g))) (fun _ jj _ => d - (intOf jj).toNat)
            case atStart => exact ⟨m + 1, 1, us, Nat.le_refl _, by have := HD1.out; omega, by omega, rfl, rfl, hstart, hown1.out, hgr1.out⟩
            case round =>
              clear hstart hown1 hgr1 hc hk1 hk
              obtain ⟨q, j, r, hj1, hj, hq, rfl, rfl, hinv, hown, hgr⟩ := hrel
              by_cases hlt2 : j < d
              · have hI2 : decide ((j : Int) < (d : Int)) = true := decide_eq_true (by omega)
                have hil : m + 1 + j < us.length := by rw [HN.out]; have := HD1.out; omega
                have k0 : m + 1 + j - 1 < us.length := by omega
                obtain ⟨r1, r2, er1, er2⟩ := hinv.out.at hil
                have hlr2 : n ≤ r.length := by have := hinv.out.len; have := HN.out; omega
                have hrow := Row.of_own hown.out
                obtain ⟨f0, f1, f2, f3, f4, f5, f6⟩ := cs_at hrow r1 (by omega)
                obtain ⟨g0, g1, g2, g3, g4, g5, g6⟩ := cs_at hrow r2 (by omega)
                rw [er1] at f0 f1 f2 f3 f4 f5 f6
                rw [er2] at g0 g1 g2 g3 g4 g5 g6
                have hsx := HSET.out wr us[m + 1 + j] hgr.out (List.getElem_mem hil)
                have hsy := HSET.out wr (us[m + 1 + j - 1]'k0) hgr.out (List.getElem_mem k0)
                have ea : (m + 1 + j) * 7 = (m + 1) * 7 + j * 7 := by omega
                have eb : (m + 1 + j - 1) * 7 = (m + 1) * 7 + (j - 1) * 7 := by omega
                simp only [ea] at f0 f1 f2 f3 f4 f5 f6
                simp only [eb] at g0 g1 g2 g3 g4 g5 g6
                obtain ⟨E, hE⟩ : ∃ E : Bool, E = decide (us[m + 1 + j].c = (us[m + 1 + j - 1]'k0).c) := ⟨_, rfl⟩
                have HE := Lib.hid hE
                have hsame := fun h => hinv.out.same hil h
                have hnext := fun h => hinv.out.next hil h
                have HS := Lib.hid hsame
                have HX := Lib.hid hnext
                have hcall : ∀ W, Grew wr W → Calls Tryz.prog 112 #[.agg #[.string (strOf us[m + 1 + j].c.name), .int .i64 us[m + 1 + j].c.op, .int .i64 us[m + 1 + j].c.v.k, .int .i64 us[m + 1 + j].c.v.n, .string (strOf us[m + 1 + j].c.v.s), .bool us[m + 1 + j].c.v.b, us[m + 1 + j].h], .agg #[.string (strOf (us[m + 1 + j - 1]'k0).c.name), .int .i64 (us[m + 1 + j - 1]'k0).c.op, .int .i64 (us[m + 1 + j - 1]'k0).c.v.k, .int .i64 (us[m + 1 + j - 1]'k0).c.v.n, .string (strOf (us[m + 1 + j - 1]'k0).c.v.s), .bool (us[m + 1 + j - 1]'k0).c.v.b, (us[m + 1 + j - 1]'k0).h]] W fun e w' => e = .returned (.bool E) ∧ Grew W w' := fun W hW => by
                  rw [HE.out]
                  exact eq119_cs W _ _ (hsx.ext hW.1) (hsy.ext hW.1)
                have HXO := Lib.hid (set_one hsx)
                clear hE ea eb er1 er2 r1 r2 hrow hsx hsy hsame hnext hinv
                generalize us[m + 1 + j] = x at *
                generalize us[m + 1 + j - 1]'k0 = y at *
                have hi0 : (0 : Int) ≤ (j : Int) - 1 := by omega
                have hi1 : (j : Int) - 1 < (d : Int) := by omega
                have hi2 : ((j : Int) - 1).toNat = j - 1 := by omega
                go_upto_region 11 with fail
                go_cut [49] from 38 to 49 (fun v49 wx => v49 = .bool (!E) ∧ ∃ w1, w1 = wx ∧ Grew wr w1)
                case first =>
                  clear HO HSET HN HX HS HE HD1 HXO hown hgr
                  refine Rg.wp_region_facts GrewS [Rg.Fact.eq _ (.func (.func 112) #[] #[]),
                      Rg.Fact.eq _ (.slice (some ⟨g, (m + 1) * 7, none⟩) d ce),
                      Rg.Fact.eq _ (.int .i64 j),
                      Rg.Fact.eq _ (.pointer (some ⟨g, (m + 1) * 7 + j * 7, none⟩)),
                      Rg.Fact.eq _ (.agg #[.string (strOf x.c.name), .int .i64 x.c.op, .int .i64 x.c.v.k, .int .i64 x.c.v.n, .string (strOf x.c.v.s), .bool x.c.v.b, x.h]),
                      Rg.Fact.eq _ (.slice (some ⟨g, (m + 1) * 7, none⟩) d ce),
                      Rg.Fact.eq _ (.int .i64 j),
                      Rg.Fact.eq _ (.int .i64 ((j : Int) - 1)),
                      Rg.Fact.eq _ (.pointer (some ⟨g, (m + 1) * 7 + (j - 1) * 7, none⟩)),
                      Rg.Fact.eq _ (.agg #[.string (strOf y.c.name), .int .i64 y.c.op, .int .i64 y.c.v.k, .int .i64 y.c.v.n, .string (strOf y.c.v.s), .bool y.c.v.b, y.h]),
                      Rg.Fact.eq _ (.bool E),
                      Rg.Fact.eq _ (.bool (!E))]
                    [[], [], [], [(1, 39), (2, 40)], [(3, 41)], [], [], [(6, 44)], [(5, 43), (7, 45)], [(8, 46)], [(0, 38), (4, 42), (9, 47)], [(10, 48)]]
                    [(0, 38), (1, 39), (2, 40), (3, 41), (4, 42), (5, 43), (6, 44), (7, 45), (8, 46), (9, 47), (10, 48), (11, 49)] (by kernel_rfl) (by kernel_rfl) ?_ ?_
                  · refine ⟨?_, ?_, ?_, ?_, ?_, ?_, ?_, ?_, ?_, ?_, ?_, ?_, trivial⟩
                    · intro w1 hx1; change wpList _ _ _ _ _ _; exact Rg.ob_move _ rfl rfl rfl rfl rfl
                    · intro w1 hx1; change wpList _ _ _ _ _ _; exact Rg.ob_move _ rfl rfl rfl rfl rfl
                    · intro w1 hx1; change wpList _ _ _ _ _ _; exact Rg.ob_move _ rfl rfl rfl rfl rfl
                    · intro w1 hx1; rintro _ rfl; rintro _ rfl; change wpList _ _ _ _ _ _; go_wp2_with fail; exact ⟨rfl, GrewS.refl _, rfl, rfl⟩
                    · intro w1 hx1; rintro _ rfl; change wpList _ _ _ _ _ _; have m0 := hx1.1.cell f0; have m1 := hx1.1.cell f1; have m2 := hx1.1.cell f2; have m3 := hx1.1.cell f3; have m4 := hx1.1.cell f4; have m5 := hx1.1.cell f5; have m6 := hx1.1.cell f6; go_wp2_with fail; exact ⟨rfl, GrewS.refl _, rfl, rfl⟩
                    · intro w1 hx1; change wpList _ _ _ _ _ _; exact Rg.ob_move _ rfl rfl rfl rfl rfl
                    · intro w1 hx1; change wpList _ _ _ _ _ _; exact Rg.ob_move _ rfl rfl rfl rfl rfl
                    · intro w1 hx1; rintro _ rfl; change wpList _ _ _ _ _ _; go_wp2_with fail; exact ⟨rfl, GrewS.refl _, rfl, rfl⟩
                    · intro w1 hx1; rintro _ rfl; rintro _ rfl; change wpList _ _ _ _ _ _; go_wp2_with fail; exact ⟨rfl, GrewS.refl _, rfl, rfl⟩
                    · intro w1 hx1; rintro _ rfl; change wpList _ _ _ _ _ _; have m0 := hx1.1.cell g0; have m1 := hx1.1.cell g1; have m2 := hx1.1.cell g2; have m3 := hx1.1.cell g3; have m4 := hx1.1.cell g4; have m5 := hx1.1.cell g5; have m6 := hx1.1.cell g6; go_wp2_with fail; exact ⟨rfl, GrewS.refl _, rfl, rfl⟩
                    · intro w1 hx1; rintro _ rfl; rintro _ rfl; rintro _ rfl; change wpList _ _ _ _ _ _; go_wp2_with fail; refine (hcall w1 hx1).mono ?_; rintro e w2 ⟨rfl, hx2⟩; go_wp2_with fail; exact ⟨rfl, hx2, rfl, rfl⟩
                    · intro w1 hx1; rintro _ rfl; change wpList _ _ _ _ _ _; go_wp2_with fail; exact ⟨rfl, GrewS.refl _, rfl, rfl⟩
                  · intro w1 hx1; rintro _ rfl; rintro _ rfl; rintro _ rfl; rintro _ rfl; rintro _ rfl; rintro _ rfl; rintro _ rfl; rintro _ rfl; rintro _ rfl; rintro _ rfl; rintro _ rfl; rintro _ rfl; refine depsThen_nil ?_; dsimp only; simp only [Act.put, List.setIfInBounds_toArray, List.set_cons_zero, List.set_cons_succ]
                    go_wp2_with fail
                    go_meet
                    exact ⟨rfl, _, rfl, hx1⟩
                case rest =>
                  obtain ⟨rfl, w1, rfl, hx1⟩ := hcut
                  have hown1 := Lib.hid (own_ext hown.out hx1.1)
                  have hgr1 := Lib.hid (grown_ext hgr.out hx1.1)
                  clear hown hgr hcall g0 g1 g2 g3 g4 g5 g6 hi0 hi1 hi2
                  cases E
                  · have hxy := of_decide_eq_false HE.out.symm
                    have hinv2 := Lib.hid (HX.out hxy)
                    clear hxy HS HX HE
                    have hql : q < r.length := by omega
                    have hth := own_there hown1.out q 7 (by omega)
                    have hset3 := own_set csC csC_len hown1.out q hql x
                    obtain ⟨wz, hwz⟩ : ∃ wz, w1.setCells g (q * 7) (csC x) = wz := ⟨_, rfl⟩
                    rw [hwz] at hset3
                    have HWZ := Lib.hid hwz
                    clear hwz
                    have HS3 := Lib.hid hset3.1
                    have HG3 := Lib.hid hset3.2
                    clear hset3
                    have f0 := hx1.1.cell f0; have f1 := hx1.1.cell f1; have f2 := hx1.1.cell f2; have f3 := hx1.1.cell f3; have f4 := hx1.1.cell f4; have f5 := hx1.1.cell f5; have f6 := hx1.1.cell f6
                    have hqn : q < n := by omega
                    clear hx1
                    have hone := cs_one x HXO.out
                    go_wp2_with (refine wpList_store_mid rfl 64 (.tmp 56) (.tmp 55) rfl g (q * 7) #[.string (strOf x.c.name), .int .i64 x.c.op, .int .i64 x.c.v.k, .int .i64 x.c.v.n, .string (strOf x.c.v.s), .bool x.c.v.b, x.h] rfl rfl hth size31 hone ?_; rw [show w1.setCells g (q * 7) (#[.string (strOf x.c.name), .int .i64 x.c.op, .int .i64 x.c.v.k, .int .i64 x.c.v.n, .string (strOf x.c.v.s), .bool x.c.v.b, x.h] : Array Value).toList = wz from HWZ.out])
                    go_roundw
                    case rel => (repeat apply Exists.intro); refine ⟨?_, rfl⟩; exact ⟨q + 1, j + 1, r.set q x, by omega, hlt2, by omega, by go_num, by go_num, hinv2, HS3.out, hgr1.out.trans HG3.out⟩
                    case measure => simp [intOf]; omega
                  · have hxy := of_decide_eq_true HE.out.symm
                    have hinv2 := Lib.hid (HS.out hxy)
                    clear hxy HS HX HE f0 f1 f2 f3 f4 f5 f6
                    clear hx1
                    go_wp2_with fail
                    go_roundw
                    case rel => exact ⟨q, j + 1, r, by omega, hlt2, by omega, rfl, by go_num, hinv2, hown1.out, hgr1.out⟩
                    case measure => simp [intOf]; omega
              · obtain rfl : j = d := by omega
                have hI2 : decide ((j : Int) < (j : Int)) = false := decide_eq_false (by omega)
                have hdone := hinv.out
                rw [HD1.out, ← HN.out] at hdone
                obtain ⟨ht, hlen⟩ := hdone.done
                have hqn : q < n := by omega
                have hqc : ¬ cap = q := by omega
                have hqc2 : q ≤ cap := by omega
                have hcl := run_clear_tail hown.out 98 (.agg #[.string ⟨#[]⟩, .int .i64 0, .int .i64 0, .int .i64 0, .string ⟨#[]⟩, .bool false, .slice none 0 0]) rfl (by simp [Value.cells, Value.oneCell']) Tryz.underlying98 zero31 q (cap - q) hqn
                have hfin := own_clear_tail hown.out (Nat.le_of_lt hqn) (.agg #[.string ⟨#[]⟩, .int .i64 0, .int .i64 0, .int .i64 0, .string ⟨#[]⟩, .bool false, .slice none 0 0]) rfl
                have hres : Hid ((r.flatMap csC).take (q * 7) = (compF CS.c us).flatMap csC) := by show _ = _; rw [flat_take csC 7 csC_len, ht]
                have HL := Lib.hid hlen
                have HF := Lib.hid hfin
                generalize wr.setCells g (q * 7) (Builtin.zeroCells (Value.agg #[.string ⟨#[]⟩, .int .i64 0, .int .i64 0, .int .i64 0, .string ⟨#[]⟩, .bool false, .slice none 0 0]).cells (n - q)).toList = wz at *
                clear ht hlen hfin hinv hdone
                go_wp2_with fail
                go_ret
                refine ⟨_, rfl, ?_, hgr.out.trans HF.out.2, rfl⟩
                rw [HL.out, ← hres.out]
                exact HF.out.1
      · obtain rfl : k = n := by omega
        have hI : decide ((k : Int) < (k : Int)) = false := decide_eq_false (by omega)
        have hce : Hid (compF CS.c us = us) := by
          have h := hc.out
          rw [List.take_of_length_le (by rw [HN.out]; exact Nat.le_refl _)] at h
          exact h
        go_wp2_with fail
        go_ret
        refine ⟨_, rfl, ?_, hgr.out, rfl⟩
        rw [hce.out, HN.out]
        exact hown.out
end Go.Proofs.YtlhbpflcffjhmaaGreat

namespace Go.Proofs.YtlhbpflcffjhmaaGreat
open Go.RowKit Go.Sort

theorem ppQ_at {W : World} {g n cap : Nat} {us : List PP} (h : Row W 1 (.slice (some ⟨g, 0, none⟩) n cap) n (us.flatMap ppC)) {k : Nat} (hk : k < us.length) (hn : k < n) : W.cell? ⟨g, k, none⟩ = some us[k].h := by
  have q := Row.cellAt h ((flat_get ppC 1 ppC_len us k hk 0 (by decide)).trans (rfl : (ppC us[k])[0]? = some us[k].h)) (by omega)
  rw [Nat.mul_one, Nat.add_zero, Nat.zero_add] at q
  exact q
theorem psameD (w : World) (v1 v2 : Value) (p q : List C) (h1 : PredR w v1 p) (h2 : PredR w v2 q) : Calls Tryz.prog 66 #[v1, v2] w fun e w' => e = .returned (.bool (decide (p = q))) ∧ Grew w w' := by
  rw [← cmp0]
  exact psame_any w v1 v2 p q h1 h2
set_option maxRecDepth 100000 in
set_option maxHeartbeats 8000000 in
theorem compactQ_any (w : World) (base b : Nat) (v : Value) (us : List PP) (ho : w.ownsRow base 25 1 v us.length (us.flatMap ppC)) (hl : us.length ≤ 1000000) (hs : ∀ x ∈ us, PredT b w x.h x.p) :
    Calls Tryz.prog 70 #[v, .func (.func 66) #[] #[]] w fun e w' => ∃ v', e = .returned v' ∧ w'.ownsRow base 25 1 v' (compF PP.p us).length ((compF PP.p us).flatMap ppC) ∧ w.grownBy w' v.ownBlock ∧ v'.ownBlock = v.ownBlock := by
  by_cases h2 : us.length < 2
  · have hce : compF PP.p us = us := by
      match us, h2 with
      | [], _ => exact compF_nil
      | [x], _ => exact compF_one x
    rw [hce]
    obtain ⟨a, cap, rfl, hc, hm⟩ := Row.shape (Row.of_own ho)
    have hd : decide ((us.length : Int) < 2) = true := decide_eq_true (by omega)
    have HO := Lib.hid ho
    clear ho hce hs
    generalize us.length = n at *
    go_enter Tryz.func70, Tryz.ntmps70
    go_wp2
    go_ret
    exact ⟨_, rfl, HO.out, ⟨rfl, rfl, rfl, Nat.le_refl _, fun _ _ _ => rfl⟩, rfl⟩
  · have hne : v ≠ .slice none 0 0 := by
      rintro rfl
      obtain ⟨_, _, e1, _, _⟩ := Row.shape (Row.of_own ho)
      simp only [Value.slice.injEq] at e1
      omega
    rcases ho.2 with ⟨e0, _⟩ | ⟨g, cap, cur, rfl, hb, hg, hn, hm, hs', ht⟩
    · exact absurd e0 hne
    clear hne cur hg hs' ht
    have hd : decide ((us.length : Int) < 2) = false := decide_eq_false (by omega)
    have hS : ∀ (wr : World) (x : PP), w.grownBy wr (some g) → x ∈ us → PredR wr x.h x.p := fun wr x hg hx => ((hs x hx).rowTurn ho hg).pred
    have HO := Lib.hid ho
    clear ho hs
    have HSET := Lib.hid hS
    clear hS
    generalize hN : us.length = n at *
    have HN := Lib.hid hN
    clear hN
    go_enter Tryz.func70, Tryz.ntmps70
    go_wp2_with fail
    go_loopw [5] (fun i wr => ∃ k : Nat, 1 ≤ k ∧ k ≤ n ∧ i = .int .i64 k ∧ Hid (compF PP.p (us.take k) = us.take k) ∧ Hid (wr.ownsRow base 25 1 (.slice (some ⟨g, 0, none⟩) n cap) n (us.flatMap ppC)) ∧ Hid (w.grownBy wr (some g))) (fun i _ => n - (intOf i).toNat)
    case atStart =>
      refine ⟨1, Nat.le_refl _, by omega, rfl, ?_, HO, ⟨rfl, rfl, rfl, Nat.le_refl _, fun _ _ _ => rfl⟩⟩
      show compF PP.p (us.take 1) = us.take 1
      match us, HN.out with
      | [], _ => exact compF_nil
      | x :: r, _ => exact compF_one x
    case round =>
      obtain ⟨k, hk1, hk, rfl, hc, hown, hgr⟩ := hrel
      by_cases hlt : k < n
      · have hI : decide ((k : Int) < (n : Int)) = true := decide_eq_true (by omega)
        have k1 : k < us.length := by rw [HN.out]; exact hlt
        have k0 : k - 1 < us.length := by omega
        have hrow := Row.of_own hown.out
        have f0 := ppQ_at hrow k1 hlt
        have g0 := ppQ_at hrow k0 (by omega)
        have hsx := HSET.out wr us[k] hgr.out (List.getElem_mem k1)
        have hsy := HSET.out wr us[k - 1] hgr.out (List.getElem_mem k0)
        have hi0 : (0 : Int) ≤ (k : Int) - 1 := by omega
        have hi1 : (k : Int) - 1 < (n : Int) := by omega
        have hi2 : ((k : Int) - 1).toNat = k - 1 := by omega
        obtain ⟨E, hE⟩ : ∃ E : Bool, E = decide (us[k].p = us[k - 1].p) := ⟨_, rfl⟩
        have HE := Lib.hid hE
        clear hE hrow
        have hcall : ∀ W, Grew wr W → Calls Tryz.prog 66 #[us[k].h, us[k - 1].h] W fun e w' => e = .returned (.bool E) ∧ Grew W w' := fun W hW => by
          rw [HE.out]
          exact psameD W _ _ _ _ (hsx.ext hW.1) (hsy.ext hW.1)
        clear hsx hsy
        have HE2 : Hid (E = decide (us[k].p = us[k - 1].p)) := HE.out
        clear HE
        generalize hx : us[k] = x at *
        generalize hy : us[k - 1] = y at *
        have HX := Lib.hid hx
        have HY := Lib.hid hy
        clear hx hy
        go_upto_region 6 with fail
        go_cut [28] from 18 to 28 (fun v28 wx => v28 = .bool E ∧ ∃ w1, w1 = wx ∧ Grew wr w1)
        case first =>
          clear HO HSET HN HX HY HE2 hc hown hgr
          refine Rg.wp_region_facts GrewS [Rg.Fact.eq _ (.func (.func 66) #[] #[]),
              Rg.Fact.eq _ (.slice (some ⟨g, 0, none⟩) n cap),
              Rg.Fact.eq _ (.int .i64 k),
              Rg.Fact.eq _ (.pointer (some ⟨g, k, none⟩)),
              Rg.Fact.eq _ x.h,
              Rg.Fact.eq _ (.slice (some ⟨g, 0, none⟩) n cap),
              Rg.Fact.eq _ (.int .i64 k),
              Rg.Fact.eq _ (.int .i64 ((k : Int) - 1)),
              Rg.Fact.eq _ (.pointer (some ⟨g, k - 1, none⟩)),
              Rg.Fact.eq _ y.h,
              Rg.Fact.eq _ (.bool E)]
            [[], [], [], [(1, 19), (2, 20)], [(3, 21)], [], [], [(6, 24)], [(5, 23), (7, 25)], [(8, 26)], [(0, 18), (4, 22), (9, 27)]]
            [(0, 18), (1, 19), (2, 20), (3, 21), (4, 22), (5, 23), (6, 24), (7, 25), (8, 26), (9, 27), (10, 28)] (by kernel_rfl) (by kernel_rfl) ?_ ?_
          · refine ⟨?_, ?_, ?_, ?_, ?_, ?_, ?_, ?_, ?_, ?_, ?_, trivial⟩
            · intro w1 hx1; change wpList _ _ _ _ _ _; exact Rg.ob_move _ rfl rfl rfl rfl rfl
            · intro w1 hx1; change wpList _ _ _ _ _ _; exact Rg.ob_move _ rfl rfl rfl rfl rfl
            · intro w1 hx1; change wpList _ _ _ _ _ _; exact Rg.ob_move _ rfl rfl rfl rfl rfl
            · intro w1 hx1; rintro _ rfl; rintro _ rfl; change wpList _ _ _ _ _ _; go_wp2_with fail; exact ⟨rfl, GrewS.refl _, rfl, rfl⟩
            · intro w1 hx1; rintro _ rfl; change wpList _ _ _ _ _ _; have m0 := hx1.1.cell f0; go_wp2_with fail; exact ⟨rfl, GrewS.refl _, rfl, rfl⟩
            · intro w1 hx1; change wpList _ _ _ _ _ _; exact Rg.ob_move _ rfl rfl rfl rfl rfl
            · intro w1 hx1; change wpList _ _ _ _ _ _; exact Rg.ob_move _ rfl rfl rfl rfl rfl
            · intro w1 hx1; rintro _ rfl; change wpList _ _ _ _ _ _; go_wp2_with fail; exact ⟨rfl, GrewS.refl _, rfl, rfl⟩
            · intro w1 hx1; rintro _ rfl; rintro _ rfl; change wpList _ _ _ _ _ _; go_wp2_with fail; exact ⟨rfl, GrewS.refl _, rfl, rfl⟩
            · intro w1 hx1; rintro _ rfl; change wpList _ _ _ _ _ _; have m0 := hx1.1.cell g0; go_wp2_with fail; exact ⟨rfl, GrewS.refl _, rfl, rfl⟩
            · intro w1 hx1; rintro _ rfl; rintro _ rfl; rintro _ rfl; change wpList _ _ _ _ _ _; go_wp2_with fail; refine (hcall w1 hx1).mono ?_; rintro e w2 ⟨rfl, hx2⟩; go_wp2_with fail; exact ⟨rfl, hx2, rfl, rfl⟩
          · intro w1 hx1; rintro _ rfl; rintro _ rfl; rintro _ rfl; rintro _ rfl; rintro _ rfl; rintro _ rfl; rintro _ rfl; rintro _ rfl; rintro _ rfl; rintro _ rfl; rintro _ rfl; refine depsThen_nil ?_; dsimp only; simp only [Act.put, List.setIfInBounds_toArray, List.set_cons_zero, List.set_cons_succ]
            go_wp2_with fail
            go_meet
            exact ⟨rfl, _, rfl, hx1⟩
        case rest =>
          obtain ⟨rfl, w1, rfl, hx1⟩ := hcut
          clear f0 g0 hcall hi0 hi1 hi2
          obtain ⟨m, rfl⟩ : ∃ m, k = m + 1 := ⟨k - 1, by omega⟩
          have hct := compF_take (f := PP.p) (l := us) (n := m) k1
          have hxe : us[m + 1] = x := HX.out
          have hye : us[m] = y := HY.out
          have hown1 := Lib.hid (own_ext hown.out hx1.1)
          have hgr1 := Lib.hid (grown_ext hgr.out hx1.1)
          clear hown hgr
          cases E
          · have hne : us[m + 1].p ≠ us[m].p := by rw [hxe, hye]; exact of_decide_eq_false HE2.out.symm
            have hc2 : Hid (compF PP.p (us.take (m + 1 + 1)) = us.take (m + 1 + 1)) := by
              show _ = _
              rw [hct, if_neg hne, hc.out, ← List.take_succ_eq_append_getElem k1]
            clear hct hne HE2 hxe hye
            go_wp2_with fail
            go_roundw
            case rel => exact ⟨m + 2, by omega, by omega, by go_num, hc2, hown1.out, hgr1.out⟩
            case measure => simp [intOf]; omega
          · have heq : us[m + 1].p = us[m].p := by rw [hxe, hye]; exact of_decide_eq_true HE2.out.symm
            have hstart : Hid (CompInvF PP.p us us (m + 1) (m + 1 + 1)) := CompInvF.start k1 hc.out heq
            clear hct heq HE2 hxe hye HX HY
            have hcapn : m + 1 < cap := by omega
            have hne : ¬ cap = m + 1 := by omega
            go_wp2_with fail
            obtain ⟨d, hd⟩ : ∃ d, d = n - (m + 1) := ⟨_, rfl⟩
            obtain ⟨ce, hce⟩ : ∃ ce, ce = cap - (m + 1) := ⟨_, rfl⟩
            rw [← hd, ← hce]
            have hd1 : m + 1 + d = n := by omega
            have HD1 := Lib.hid hd1
            have hmn : m + 1 + d ≤ n := by omega
            have hd2 : d ≤ 1000000 := by omega
            have hd3 : d ≤ ce := by omega
            have hq0 : m + 1 ≤ n := by omega
            clear hd hce hd1 hx1
            go_loopw [5, 7] (fun kk jj wr => ∃ (q j : Nat) (r : List PP), 1 ≤ j ∧ j ≤ d ∧ q + 1 ≤ m + 1 + j ∧ kk = .int .i64 q ∧ jj = .int .i64 j ∧ Hid (CompInvF PP.p us r q (m + 1 + j)) ∧ Hid (wr.ownsRow base 25 1 (.slice (some ⟨g, 0, none⟩) n cap) n (r.flatMap ppC)) ∧ Hid (w.grownBy wr (some g))) (fun _ jj _ => d - (intOf jj).toNat)
            case atStart => exact ⟨m + 1, 1, us, Nat.le_refl _, by have := HD1.out; omega, by omega, rfl, rfl, hstart, hown1.out, hgr1.out⟩
            case round =>
              clear hstart hown1 hgr1 hc hk1 hk
              obtain ⟨q, j, r, hj1, hj, hq, rfl, rfl, hinv, hown, hgr⟩ := hrel
              by_cases hlt2 : j < d
              · have hI2 : decide ((j : Int) < (d : Int)) = true := decide_eq_true (by omega)
                have hil : m + 1 + j < us.length := by rw [HN.out]; have := HD1.out; omega
                have k0 : m + 1 + j - 1 < us.length := by omega
                obtain ⟨r1, r2, er1, er2⟩ := hinv.out.at hil
                have hlr2 : n ≤ r.length := by have := hinv.out.len; have := HN.out; omega
                have hrow := Row.of_own hown.out
                have f0 := ppQ_at hrow r1 (by omega)
                have g0 := ppQ_at hrow r2 (by omega)
                rw [er1] at f0
                rw [er2] at g0
                have hsx := HSET.out wr us[m + 1 + j] hgr.out (List.getElem_mem hil)
                have hsy := HSET.out wr (us[m + 1 + j - 1]'k0) hgr.out (List.getElem_mem k0)
                have eb : m + 1 + j - 1 = m + 1 + (j - 1) := by omega
                have g0 : wr.cell? ⟨g, m + 1 + (j - 1), none⟩ = some (us[m + 1 + j - 1]'k0).h := by rw [← eb]; exact g0
                obtain ⟨E, hE⟩ : ∃ E : Bool, E = decide (us[m + 1 + j].p = (us[m + 1 + j - 1]'k0).p) := ⟨_, rfl⟩
                have HE := Lib.hid hE
                have hsame := fun h => hinv.out.same hil h
                have hnext := fun h => hinv.out.next hil h
                have HS := Lib.hid hsame
                have HX := Lib.hid hnext
                have hcall : ∀ W, Grew wr W → Calls Tryz.prog 66 #[us[m + 1 + j].h, (us[m + 1 + j - 1]'k0).h] W fun e w' => e = .returned (.bool E) ∧ Grew W w' := fun W hW => by
                  rw [HE.out]
                  exact psameD W _ _ _ _ (hsx.ext hW.1) (hsy.ext hW.1)
                obtain ⟨sa, sc, hsh, _, _⟩ := hsx.shape
                obtain ⟨sn, hsn⟩ : ∃ sn, sn = us[m + 1 + j].p.length := ⟨_, rfl⟩
                rw [← hsn] at hsh
                have HXO := Lib.hid hsh
                clear hsn hsh
                clear hE eb er1 er2 r1 r2 hrow hsx hsy hsame hnext hinv
                generalize us[m + 1 + j] = x at *
                generalize us[m + 1 + j - 1]'k0 = y at *
                have hi0 : (0 : Int) ≤ (j : Int) - 1 := by omega
                have hi1 : (j : Int) - 1 < (d : Int) := by omega
                have hi2 : ((j : Int) - 1).toNat = j - 1 := by omega
                go_upto_region 11 with fail
                go_cut [49] from 38 to 49 (fun v49 wx => v49 = .bool (!E) ∧ ∃ w1, w1 = wx ∧ Grew wr w1)
                case first =>
                  clear HO HSET HN HX HS HE HD1 HXO hown hgr
                  refine Rg.wp_region_facts GrewS [Rg.Fact.eq _ (.func (.func 66) #[] #[]),
                      Rg.Fact.eq _ (.slice (some ⟨g, m + 1, none⟩) d ce),
                      Rg.Fact.eq _ (.int .i64 j),
                      Rg.Fact.eq _ (.pointer (some ⟨g, m + 1 + j, none⟩)),
                      Rg.Fact.eq _ x.h,
                      Rg.Fact.eq _ (.slice (some ⟨g, m + 1, none⟩) d ce),
                      Rg.Fact.eq _ (.int .i64 j),
                      Rg.Fact.eq _ (.int .i64 ((j : Int) - 1)),
                      Rg.Fact.eq _ (.pointer (some ⟨g, m + 1 + (j - 1), none⟩)),
                      Rg.Fact.eq _ y.h,
                      Rg.Fact.eq _ (.bool E),
                      Rg.Fact.eq _ (.bool (!E))]
                    [[], [], [], [(1, 39), (2, 40)], [(3, 41)], [], [], [(6, 44)], [(5, 43), (7, 45)], [(8, 46)], [(0, 38), (4, 42), (9, 47)], [(10, 48)]]
                    [(0, 38), (1, 39), (2, 40), (3, 41), (4, 42), (5, 43), (6, 44), (7, 45), (8, 46), (9, 47), (10, 48), (11, 49)] (by kernel_rfl) (by kernel_rfl) ?_ ?_
                  · refine ⟨?_, ?_, ?_, ?_, ?_, ?_, ?_, ?_, ?_, ?_, ?_, ?_, trivial⟩
                    · intro w1 hx1; change wpList _ _ _ _ _ _; exact Rg.ob_move _ rfl rfl rfl rfl rfl
                    · intro w1 hx1; change wpList _ _ _ _ _ _; exact Rg.ob_move _ rfl rfl rfl rfl rfl
                    · intro w1 hx1; change wpList _ _ _ _ _ _; exact Rg.ob_move _ rfl rfl rfl rfl rfl
                    · intro w1 hx1; rintro _ rfl; rintro _ rfl; change wpList _ _ _ _ _ _; go_wp2_with fail; exact ⟨rfl, GrewS.refl _, rfl, rfl⟩
                    · intro w1 hx1; rintro _ rfl; change wpList _ _ _ _ _ _; have m0 := hx1.1.cell f0; go_wp2_with fail; exact ⟨rfl, GrewS.refl _, rfl, rfl⟩
                    · intro w1 hx1; change wpList _ _ _ _ _ _; exact Rg.ob_move _ rfl rfl rfl rfl rfl
                    · intro w1 hx1; change wpList _ _ _ _ _ _; exact Rg.ob_move _ rfl rfl rfl rfl rfl
                    · intro w1 hx1; rintro _ rfl; change wpList _ _ _ _ _ _; go_wp2_with fail; exact ⟨rfl, GrewS.refl _, rfl, rfl⟩
                    · intro w1 hx1; rintro _ rfl; rintro _ rfl; change wpList _ _ _ _ _ _; go_wp2_with fail; exact ⟨rfl, GrewS.refl _, rfl, rfl⟩
                    · intro w1 hx1; rintro _ rfl; change wpList _ _ _ _ _ _; have m0 := hx1.1.cell g0; go_wp2_with fail; exact ⟨rfl, GrewS.refl _, rfl, rfl⟩
                    · intro w1 hx1; rintro _ rfl; rintro _ rfl; rintro _ rfl; change wpList _ _ _ _ _ _; go_wp2_with fail; refine (hcall w1 hx1).mono ?_; rintro e w2 ⟨rfl, hx2⟩; go_wp2_with fail; exact ⟨rfl, hx2, rfl, rfl⟩
                    · intro w1 hx1; rintro _ rfl; change wpList _ _ _ _ _ _; go_wp2_with fail; exact ⟨rfl, GrewS.refl _, rfl, rfl⟩
                  · intro w1 hx1; rintro _ rfl; rintro _ rfl; rintro _ rfl; rintro _ rfl; rintro _ rfl; rintro _ rfl; rintro _ rfl; rintro _ rfl; rintro _ rfl; rintro _ rfl; rintro _ rfl; rintro _ rfl; refine depsThen_nil ?_; dsimp only; simp only [Act.put, List.setIfInBounds_toArray, List.set_cons_zero, List.set_cons_succ]
                    go_wp2_with fail
                    go_meet
                    exact ⟨rfl, _, rfl, hx1⟩
                case rest =>
                  obtain ⟨rfl, w1, rfl, hx1⟩ := hcut
                  have hown1 := Lib.hid (own_ext hown.out hx1.1)
                  have hgr1 := Lib.hid (grown_ext hgr.out hx1.1)
                  clear hown hgr hcall g0 hi0 hi1 hi2
                  cases E
                  · have hxy := of_decide_eq_false HE.out.symm
                    have hinv2 := Lib.hid (HX.out hxy)
                    clear hxy HS HX HE
                    have hql : q < r.length := by omega
                    have f0 := hx1.1.cell f0
                    rw [HXO.out] at f0
                    have hqn : q < n := by omega
                    have hth := own_there hown1.out q 1 (by omega)
                    obtain ⟨hu8, hz9⟩ := hth 0 (by decide)
                    obtain ⟨u9, hu9⟩ := Option.isSome_iff_exists.1 hu8
                    clear hu8
                    rw [Nat.mul_one, Nat.add_zero] at hu9 hz9
                    have hset3 := own_set ppC ppC_len hown1.out q hql x
                    have e3 : w1.setCells g (q * 1) (ppC x) = w1.setCell ⟨g, q, none⟩ (.slice sa sn sc) := by rw [Nat.mul_one]; unfold ppC; rw [HXO.out]; rfl
                    rw [e3] at hset3
                    have HS3 := Lib.hid hset3.1
                    have HG3 := Lib.hid hset3.2
                    clear hset3 hx1 e3 hth
                    go_wp2_with fail
                    go_roundw
                    case rel => exact ⟨q + 1, j + 1, r.set q x, by omega, hlt2, by omega, by go_num, by go_num, hinv2, HS3.out, hgr1.out.trans HG3.out⟩
                    case measure => simp [intOf]; omega
                  · have hxy := of_decide_eq_true HE.out.symm
                    have hinv2 := Lib.hid (HS.out hxy)
                    clear hxy HS HX HE f0
                    clear hx1
                    go_wp2_with fail
                    go_roundw
                    case rel => exact ⟨q, j + 1, r, by omega, hlt2, by omega, rfl, by go_num, hinv2, hown1.out, hgr1.out⟩
                    case measure => simp [intOf]; omega
              · obtain rfl : j = d := by omega
                have hI2 : decide ((j : Int) < (j : Int)) = false := decide_eq_false (by omega)
                have hdone := hinv.out
                rw [HD1.out, ← HN.out] at hdone
                obtain ⟨ht, hlen⟩ := hdone.done
                have hqn : q < n := by omega
                have hqc : ¬ cap = q := by omega
                have hqc2 : q ≤ cap := by omega
                have hcl := run_clear_tail hown.out 22 (.slice none 0 0) rfl (by simp [Value.cells, Value.oneCell']) Tryz.underlying22 zeroQ q (cap - q) hqn
                rw [Nat.mul_one] at hcl
                have hfin := own_clear_tail hown.out (Nat.le_of_lt hqn) (.slice none 0 0) rfl
                have hres : Hid ((r.flatMap ppC).take q = (compF PP.p us).flatMap ppC) := by
                  have h := flat_take ppC 1 ppC_len r q
                  rw [Nat.mul_one] at h
                  show _ = _; rw [h, ht]
                rw [Nat.mul_one] at hfin
                have HL := Lib.hid hlen
                have HF := Lib.hid hfin
                generalize wr.setCells g q (Builtin.zeroCells (Value.slice none 0 0).cells (n - q)).toList = wz at *
                clear ht hlen hfin hinv hdone
                go_wp2_with fail
                go_ret
                refine ⟨_, rfl, ?_, hgr.out.trans HF.out.2, rfl⟩
                rw [HL.out, ← hres.out]
                exact HF.out.1
      · obtain rfl : k = n := by omega
        have hI : decide ((k : Int) < (k : Int)) = false := decide_eq_false (by omega)
        have hce : Hid (compF PP.p us = us) := by
          have h := hc.out
          rw [List.take_of_length_le (by rw [HN.out]; exact Nat.le_refl _)] at h
          exact h
        go_wp2_with fail
        go_ret
        refine ⟨_, rfl, ?_, hgr.out, rfl⟩
        rw [hce.out, HN.out]
        exact hown.out
end Go.Proofs.YtlhbpflcffjhmaaGreat

namespace Go.Proofs
open Go.Shelf
def Tryz.cutQ_ren : Go.Shelf.Ren := ⟨fun | 45 => 46 | n => n, fun | 22 => 22 | 23 => 25 | 3 => 3 | 4 => 4 | 0 => 0 | n => n, fun | n => n⟩
theorem Tryz.cutQ : Go.Proofs.SlLaysE.n45 Tryz.prog Tryz.cutQ_ren := {
  mixed := by kernel_rfl
  f45 := ⟨Tryz.f46.name, by decide, Tryz.func46.trans (congrArg some (by kernel_rfl))⟩
  t0 := Tryz.underlying0
  a0 := Tryz.isAgg0
  z0 := Tryz.sizeOf0
  v0 := Tryz.zeroValue0
  t3 := Tryz.underlying3
  a3 := Tryz.isAgg3
  z3 := Tryz.sizeOf3
  v3 := Tryz.zeroValue3
  t4 := Tryz.underlying4
  a4 := Tryz.isAgg4
  z4 := Tryz.sizeOf4
  v4 := Tryz.zeroValue4
  t22 := Tryz.underlying22
  a22 := Tryz.isAgg22
  z22 := Tryz.sizeOf22
  v22 := Tryz.zeroValue22
  a23 := Tryz.isAgg25
  z23 := Tryz.sizeOf25 }
def Tryz.bsQ_ren : Go.Shelf.Ren := ⟨fun | 14 => 91 | n => n, fun | 22 => 22 | 24 => 25 | 29 => 25 | 32 => 26 | 3 => 3 | 4 => 4 | 35 => 41 | 0 => 0 | n => n, fun | n => n⟩
theorem Tryz.bsQ : Go.Proofs.SlLaysG2.n14 Tryz.prog Tryz.bsQ_ren := {
  mixed := by kernel_rfl
  f14 := ⟨Tryz.f91.name, by decide, Tryz.func91.trans (congrArg some (by kernel_rfl))⟩
  t0 := Tryz.underlying0
  a0 := Tryz.isAgg0
  z0 := Tryz.sizeOf0
  v0 := Tryz.zeroValue0
  t3 := Tryz.underlying3
  a3 := Tryz.isAgg3
  z3 := Tryz.sizeOf3
  v3 := Tryz.zeroValue3
  t4 := Tryz.underlying4
  a4 := Tryz.isAgg4
  z4 := Tryz.sizeOf4
  v4 := Tryz.zeroValue4
  t22 := Tryz.underlying22
  a22 := Tryz.isAgg22
  z22 := Tryz.sizeOf22
  v22 := Tryz.zeroValue22
  a24 := Tryz.isAgg25
  z24 := Tryz.sizeOf25
  a29 := Tryz.isAgg25
  z29 := Tryz.sizeOf25
  t32 := Tryz.underlying26
  a32 := Tryz.isAgg26
  z32 := Tryz.sizeOf26
  v32 := Tryz.zeroValue26
  t35 := Tryz.underlying41
  a35 := Tryz.isAgg41
  z35 := Tryz.sizeOf41
  v35 := Tryz.zeroValue41 }
end Go.Proofs

namespace Go.Proofs.YtlhbpflcffjhmaaGreat
open Go.RowKit Go.Sort Go.MapKept

theorem ext_grow (w : World) (n : Nat) (os : Array Obj) : Ext w (grow (Sort.ahead w n) os) := by
  refine ⟨rfl, rfl, rfl, by simp [Sort.ahead], fun k hk => ?_⟩
  rw [heap_grow_old _ _ (by simpa [Sort.ahead] using hk)]
  simp [Sort.ahead]
theorem bsQ_any (w : World) (base b : Nat) (v tv : Value) (us : List PP) (p : List C) (ho : OwnQ w base v us) (hs : ∀ x ∈ us, PredT b w x.h x.p) (hp : PredT b w tv p) (hl : us.length ≤ 1000000) (hasc : Asc (us.map PP.p)) :
    Calls Tryz.prog 91 #[v, tv, .func (.func 8) #[] #[]] w
      fun e w' => e = .returned (.tuple #[.int .i64 (kF (us.map PP.p) p : Nat), .bool (hasF (us.map PP.p) p)]) ∧ Ext w w' := by
  by_cases h0 : us = []
  · subst h0
    obtain ⟨a, cap, rfl, _, _⟩ := own_shape ho
    refine (Any.slices_BinarySearchFunc_none Tryz.bsQ a cap tv (.func (.func 8) #[] #[]) w).mono ?_
    rintro e w' ⟨rfl, rfl⟩
    exact ⟨rfl, Ext.refl _⟩
  · rcases ho.2 with ⟨_, e0⟩ | ⟨g, cap, cur, rfl, hb, hg, hn, hm, hsz, ht⟩
    · exact absurd (List.length_eq_zero_iff.1 e0) h0
    · obtain ⟨_, _, _, _, _, _, hlt, hH⟩ := own_holds ho
      obtain ⟨ss, hss⟩ := SQ.lift us hs
      have hsl : ss.length = us.length := by rw [← hss, List.length_map]
      haveI : Inhabited (SQ b w) := ⟨ss.head (by intro h; rw [h] at hsl; exact h0 (List.length_eq_zero_iff.1 hsl.symm))⟩
      have hmap : us.flatMap ppC = ss.map sqE := by rw [flat_ppC, ← hss, List.map_map]; rfl
      have hmp : us.map PP.p = ss.map fun x => x.1.p := by rw [← hss, List.map_map]; rfl
      rw [hmap] at hH
      have hH := holds_enc sqE hH
      have hone : OneCell (sqE (b := b) (w := w)) := fun x => pred_one x.2.pred
      have hcmp : CmpLaysT (α := SQ b w) Tryz.prog 8 #[] sqE tv (fun x => cmpP x.1.p p) g 0 ss.toArray.size w := fun m os dk hdk x => by
        have hgw : w.grownBy (sortWorld sqE w g 0 m dk os) (some g) := by
          unfold sortWorld
          rw [← Array.toArray_toList (xs := dk), putRow_enc]
          exact grownBy_row _
        have hx := (x.2.rowTurn ho hgw).pred
        have hy := (hp.rowTurn ho hgw).pred
        exact (pcompare_any (sortWorld sqE w g 0 m dk os) _ _ _ _ hx hy).mono fun _ _ ⟨he, hx⟩ => ⟨he, hx.grown⟩
      have hmono : ∀ a c, a ≤ c → c < ss.toArray.size → cmpP ss.toArray[c]!.1.p p < 0 → cmpP ss.toArray[a]!.1.p p < 0 := fun a c hac hc h => by
        have hc' : c < ss.length := by simpa using hc
        rw [getElem!_pos _ _ (by simpa using hc')] at h
        rw [getElem!_pos _ _ (by simp; omega)]
        simp only [List.getElem_toArray] at h ⊢
        by_cases e : a = c
        · subst e; exact h
        · rw [hmp] at hasc
          have := List.pairwise_iff_getElem.1 hasc a c (by simp; omega) (by simpa using hc') (by omega)
          simp only [List.getElem_map] at this
          exact wo_P.le_lt this h
      have hc := Any.slices_BinarySearchFunc Tryz.bsQ sqE hone tv (fun x : SQ b w => cmpP x.1.p p) 8 #[] g 0 cap ss.toArray w ent_pcmp hcmp hH hlt (by simp; omega) hmono
      have e1 : ss.toArray.size = us.length := by simp [hsl]
      have ek : List.countP (fun x : SQ b w => decide (cmpP x.1.p p < 0)) ss = kF (us.map PP.p) p := by unfold kF; rw [hmp, List.countP_map]; rfl
      have eh : (decide (kF (us.map PP.p) p < ss.toArray.size) && decide (cmpP ss.toArray[kF (us.map PP.p) p]!.1.p p = 0)) = hasF (us.map PP.p) p := by
        generalize hk : kF (us.map PP.p) p = k
        unfold hasF
        rw [hk, hmp, List.getElem?_map]
        by_cases hk2 : k < ss.length
        · rw [decide_eq_true (by simpa using hk2), Bool.true_and, getElem!_pos _ _ (by simpa using hk2), List.getElem?_eq_getElem hk2]
          rfl
        · rw [decide_eq_false (by simpa using hk2), List.getElem?_eq_none (by omega)]
          rfl
      have hc2 : Calls Tryz.prog 91 #[.slice (some ⟨g, 0, none⟩) us.length cap, tv, .func (.func 8) #[] #[]] w
          fun e w' => e = .returned (.tuple #[.int .i64 (kF (us.map PP.p) p : Nat), .bool (hasF (us.map PP.p) p)]) ∧ SW sqE w g 0 ss.toArray w' := by
        rw [← eh, ← ek, ← e1]
        exact hc
      refine hc2.mono ?_
      rintro e w' ⟨rfl, m, os, rfl⟩
      refine ⟨rfl, ?_⟩
      have hps : putRow sqE (Sort.ahead w m) g 0 ss.toArray = Sort.ahead w m := putRow_self sqE (Sort.ahead w m) g 0 ss.toArray hH
      unfold sortWorld
      rw [hps]
      exact ext_grow w m os

/-! Delete -/
def VOne : Type := { h : Value // h.oneCell' = true }
def zOne : VOne := ⟨.slice none 0 0, rfl⟩
instance : Inhabited VOne := ⟨zOne⟩
def vOne (x : VOne) : Value := x.1
theorem VOne.lift : ∀ l : List Value, (∀ x ∈ l, x.oneCell' = true) → ∃ ss : List VOne, ss.map vOne = l
  | [], _ => ⟨[], rfl⟩
  | x :: r, h => by
    obtain ⟨ss, e⟩ := VOne.lift r fun y hy => h y (List.mem_cons_of_mem _ hy)
    exact ⟨⟨x, h x List.mem_cons_self⟩ :: ss, congrArg (x :: ·) e⟩
theorem own_short {w : World} {base g n m cap : Nat} {e : TypeId} {xs : List Value} (h : w.ownsRow base e 1 (.slice (some ⟨g, 0, none⟩) n cap) n xs) (hm : m ≤ n) : w.ownsRow base e 1 (.slice (some ⟨g, 0, none⟩) m cap) m (xs.take m) := by
  obtain ⟨cur, hg, hb, hn, hmx, hsz, _, _⟩ := own_holds h
  have hl := h.1
  have ht : cur.toList.take (n * 1) = xs := by
    rcases h.2 with ⟨e0, _⟩ | ⟨g', cap', cur', e1, _, hg', _, _, _, ht⟩
    · cases e0
    · simp only [Value.slice.injEq, Option.some.injEq, Addr.mk.injEq, and_true, true_and] at e1
      obtain ⟨rfl, rfl⟩ := e1
      rw [hg] at hg'
      simp only [Option.some.injEq, Obj.cells.injEq, and_true] at hg'
      rw [hg']; exact ht
  refine ⟨by rw [List.length_take]; omega, .inr ⟨g, cap, cur, rfl, hb, hg, by omega, hmx, hsz, ?_⟩⟩
  rw [← ht, List.take_take]
  congr 1
  omega
theorem own_putB {w : World} {base g n cap q : Nat} {e : TypeId} {xs ys : List Value} (h : w.ownsRow base e 1 (.slice (some ⟨g, 0, none⟩) n cap) n xs) (hy : ys.length = xs.length) :
    (putRow id (Sort.ahead w q) g 0 ys.toArray).ownsRow base e 1 (.slice (some ⟨g, 0, none⟩) n cap) n ys ∧ w.grownBy (putRow id (Sort.ahead w q) g 0 ys.toArray) (some g) := by
  have h1 := own_put (m := q) (os := #[]) h hy
  have h2 := grownBy_row (w := w) (g := g) (n := q) (os := #[]) ys.toArray
  rw [grow_empty] at h1 h2
  exact ⟨h1, h2⟩
theorem infoQ1 : ∃ i0, Tryz.prog.info? 25 = some i0 ∧ i0.size = 1 := by
  obtain ⟨i, h1, h2, h3, h4⟩ := info_parts infoQ
  exact ⟨i, h1, h3⟩
theorem cutQ_any (w : World) (base : Nat) (v : Value) (us : List PP) (ho : OwnQ w base v us) (hone : ∀ x ∈ us, x.h.oneCell' = true) (i : Nat) (hi : i < us.length) :
    Calls Tryz.prog 46 #[v, .int .i64 i, .int .i64 ((i + 1 : Nat) : Int)] w
      fun e w' => ∃ v', e = .returned v' ∧ OwnQ w' base v' (us.take i ++ us.drop (i + 1)) ∧ w.grownBy w' v.ownBlock := by
  rcases ho.2 with ⟨_, e0⟩ | ⟨g, cap, cur, rfl, hb, hg, hn, hm, hsz, ht⟩
  · omega
  · obtain ⟨_, _, _, _, _, _, hlt, hH⟩ := own_holds ho
    obtain ⟨ss, hss⟩ := VOne.lift (us.map PP.h) (fun x hx => by obtain ⟨y, hy, rfl⟩ := List.mem_map.1 hx; exact hone y hy)
    have hsl : ss.length = us.length := by have := congrArg List.length hss; rwa [List.length_map, List.length_map] at this
    rw [flat_ppC, ← hss] at hH
    have hH := holds_enc vOne hH
    obtain ⟨i0, hi0, hz1⟩ := infoQ1
    have hm63 : cap ≤ 9223372036854775807 := by unfold maxLen at hm; omega
    have hc := AnyE.slices_Delete Tryz.cutQ vOne (fun x => x.2) zOne (fun w => Tryz.zeroValue25 w) i0 hi0 hz1 g 0 cap i (i + 1) ss.toArray w hH (by simp [hsl]; exact hn) hm63 (Nat.le_succ i) (by simp [hsl]; omega)
    have e1 : ss.toArray.size = us.length := by simp [hsl]
    rw [e1] at hc
    refine hc.mono ?_
    rintro e w' ⟨rfl, q, rfl⟩
    refine ⟨_, rfl, ?_, ?_⟩
    · have hys : (ss.toArray.toList.take i ++ ss.toArray.toList.drop (i + 1) ++ List.replicate (i + 1 - i) zOne).map vOne = ((us.take i ++ us.drop (i + 1)).map PP.h) ++ [.slice none 0 0] := by
        rw [show i + 1 - i = 1 by omega]
        simp only [List.map_append, List.map_take, List.map_drop, List.replicate_one, List.map_cons, List.map_nil]
        rw [hss]
        rfl
      rw [putRow_enc, hys]
      have hlen : ((us.take i ++ us.drop (i + 1)).map PP.h ++ [Value.slice none 0 0]).length = (us.flatMap ppC).length := by
        rw [flat_ppC]
        simp only [List.length_append, List.length_map, List.length_take, List.length_drop, List.length_cons, List.length_nil]
        omega
      have h2 := (own_putB (q := q) ho hlen).1
      have h3 := own_short (m := us.length - (i + 1 - i)) h2 (by omega)
      have hl2 : (us.take i ++ us.drop (i + 1)).length = us.length - (i + 1 - i) := by rw [List.length_append, List.length_take, List.length_drop]; omega
      unfold OwnQ
      rw [hl2, flat_ppC]
      rw [List.take_left' (by rw [List.length_map, hl2])] at h3
      exact h3
    · have hlen : (List.map vOne (ss.toArray.toList.take i ++ ss.toArray.toList.drop (i + 1) ++ List.replicate (i + 1 - i) zOne)).length = (us.flatMap ppC).length := by
        rw [flat_ppC]
        simp only [List.length_append, List.length_map, List.length_take, List.length_drop, List.length_replicate]
        omega
      rw [putRow_enc]
      exact (own_putB (q := q) ho hlen).2
end Go.Proofs.YtlhbpflcffjhmaaGreat

namespace Go.Proofs.YtlhbpflcffjhmaaGreat
open Go.RowKit Go.Sort Go.MapKept

theorem setMany_list : ∀ (vs : List Value) (s : Nat) (F : List Value), s + vs.length ≤ F.length → setMany F.toArray s vs = (F.take s ++ vs ++ F.drop (s + vs.length)).toArray
  | [], s, F, _ => by rw [setMany, List.append_nil, List.length_nil, Nat.add_zero, List.take_append_drop]
  | v :: r, s, F, h => by
    have hs : s < F.length := by simp at h; omega
    rw [setMany, List.setIfInBounds_toArray, setMany_list r (s + 1) (F.set s v) (by simp at h ⊢; omega)]
    congr 1
    have h1 : (F.set s v).take (s + 1) = F.take s ++ [v] := by
      rw [List.set_eq_take_append_cons_drop, if_pos hs, List.take_append, List.length_take, Nat.min_eq_left (Nat.le_of_lt hs)]
      rw [List.take_of_length_le (by rw [List.length_take]; omega), show s + 1 - s = 1 by omega]
      rfl
    have h2 : (F.set s v).drop (s + 1 + r.length) = F.drop (s + (v :: r).length) := by
      rw [List.drop_set_of_lt (by omega)]
      congr 1
      simp only [List.length_cons]; omega
    rw [h1, h2, List.append_assoc (F.take s)]
    rfl
theorem own_setCells {w : World} {base g n cap : Nat} {e : TypeId} {xs : List Value} (h : w.ownsRow base e 1 (.slice (some ⟨g, 0, none⟩) n cap) n xs) (o : Nat) (ys : List Value) (hin : o + ys.length ≤ xs.length) :
    (w.setCells g o ys).ownsRow base e 1 (.slice (some ⟨g, 0, none⟩) n cap) n (xs.take o ++ ys ++ xs.drop (o + ys.length)) ∧ w.grownBy (w.setCells g o ys) (some g) := by
  obtain ⟨cur, hg, hb, hn, hm, hs, hlt, hH⟩ := own_holds h
  have h1 := setCells_putRow w g 0 ys o xs.toArray (by simpa using hin)
  rw [putRow_self id w g 0 _ hH, Nat.zero_add, setMany_list _ _ _ hin] at h1
  have h2 := own_putB (q := 0) h (ys := xs.take o ++ ys ++ xs.drop (o + ys.length)) (by simp only [List.length_append, List.length_take, List.length_drop]; omega)
  rw [Sort.ahead_zero] at h2
  rw [h1]
  exact h2
theorem own_more {w : World} {base g n cap : Nat} {e : TypeId} {xs : List Value} (h : w.ownsRow base e 1 (.slice (some ⟨g, 0, none⟩) n cap) n xs) (hc : n < cap) : ∃ u, w.ownsRow base e 1 (.slice (some ⟨g, 0, none⟩) (n + 1) cap) (n + 1) (xs ++ [u]) := by
  rcases h.2 with ⟨e0, _⟩ | ⟨g', cap', cur, e1, hb, hg, hn, hm, hs, ht⟩
  · cases e0
  · simp only [Value.slice.injEq, Option.some.injEq, Addr.mk.injEq, and_true, true_and] at e1
    obtain ⟨rfl, rfl⟩ := e1
    have hl := h.1
    have hlt : n < cur.toList.length := by rw [Array.length_toList]; omega
    rw [Nat.mul_one] at ht
    refine ⟨cur.toList[n], by simp [hl], .inr ⟨g, cap, cur, rfl, hb, hg, hc, hm, hs, ?_⟩⟩
    rw [Nat.mul_one, List.take_succ_eq_append_getElem hlt, ht]
theorem own_cells {w : World} {base g n cap : Nat} {e : TypeId} {xs : List Value} (h : w.ownsRow base e 1 (.slice (some ⟨g, 0, none⟩) n cap) n xs) (j : Nat) (v : Value) (hj : xs[j]? = some v) : w.cell? ⟨g, j, none⟩ = some v := by
  obtain ⟨_, _, _, _, _, _, _, hH⟩ := own_holds h
  obtain ⟨hjl, e⟩ := List.getElem?_eq_some_iff.1 hj
  have := (hH j (by simpa using hjl)).1
  rw [Nat.zero_add, getElem!_pos _ _ (by simpa using hjl)] at this
  rw [this, ← e]
  rfl
theorem own_spare {w : World} {base g n cap : Nat} {e : TypeId} {xs : List Value} (h : w.ownsRow base e 1 (.slice (some ⟨g, 0, none⟩) n cap) n xs) (j : Nat) (hj : j < n) : (w.cell? ⟨g, j, none⟩).isSome = true ∧ w.frozen? ⟨g, j, none⟩ = false := by
  have := own_there h j 1 (by omega) 0 (by decide)
  rwa [Nat.mul_one, Nat.add_zero] at this
theorem step_copyQ {ops : Array Oper} {o : Oper} {a : Act} {w : World} {K : Act → World → Prop} {Q : Exit → Act → World → Prop} {E : Prop}
    (hg : o.guard = none) (d x : Operand) (dT sT : TypeId) (hop : o.op = Op.call { callee := Callee.builtin Builtin.copy, args := #[d, x], argTypes := #[dT, sT] })
    (v u : Value) (hd : a.eval d = v) (hx : a.eval x = u) {v' : Value} {w' : World} (hr : (Builtin.copy_ #[dT, sT] o.type #[v, u]).run Tryz.prog w = .ok v' w') (hK : K (a.put o.dst v') w') :
    if Region.wanted o (yielded ops a.tmps) = true then Oper.wp Tryz.prog o a w K Q else E := by
  have hw : Region.wanted o (yielded ops a.tmps) = true := by simp [Region.wanted, hg]
  rw [if_pos hw]
  unfold Oper.wp
  simp [execOp, hop, resolve, invoke, builtin, hd, hx, hr, Result.andThen]
  exact hK
theorem wpList_copyQ {ops : Array Oper} {Q : Exit → Act → World → Prop} {a : Act} {w : World} {rest : List Oper} {o : Oper} (d s : Operand) (t t' : TypeId)
    (ho : o.op = .call { callee := .builtin .copy, args := #[d, s], argTypes := #[t, t'] }) (hw : Region.wanted o (yielded ops a.tmps) = true) (v u : Value) (hd : a.eval d = v) (hs : a.eval s = u) {v' : Value} {w' : World}
    (hr : (Builtin.copy_ #[t, t'] o.type #[v, u]).run Tryz.prog w = .ok v' w') (h : wpList Tryz.prog ops Q rest (a.put o.dst v') w') : wpList Tryz.prog ops Q (o :: rest) a w := by
  exact wpList_val hw (by simp [execOp, ho, resolve, invoke, builtin, hd, hs, hr, Result.andThen]) h
/-- What Insert makes of a row: x at the place i. -/
def insP (us : List PP) (i : Nat) (x : PP) : List PP := us.take i ++ x :: us.drop i
theorem insP_len (us : List PP) (i : Nat) (x : PP) (hi : i ≤ us.length) : (insP us i x).length = us.length + 1 := by
  unfold insP
  rw [List.length_append, List.length_cons, List.length_take, List.length_drop]; omega
theorem insP_map (us : List PP) (i : Nat) (x : PP) : (insP us i x).flatMap ppC = (us.map PP.h).take i ++ x.h :: (us.map PP.h).drop i := by
  unfold insP
  rw [flat_ppC, List.map_append, List.map_cons, List.map_take, List.map_drop]
theorem overQ (w : World) (g vb i lb cb : Nat) (c : Array Value) (k : Nat) (x : Value) (hb : w.heap[vb]? = some (.cells #[x] 25 (0, 0))) (hg : w.heap[g]? = some (.cells c 25 (0, 0))) (hc : c.size = k) (hk : k ≠ 0) (hne : vb ≠ g) :
    (callFunc 128 #[.slice (some ⟨vb, 0, none⟩) 1 1, .slice (some ⟨g, i, none⟩) lb cb]).run Tryz.prog w = .ok (.value (.bool false)) w := by
  rw [run_callFunc_extern Tryz.func128 (by kernel_rfl) (by kernel_rfl) (by kernel_rfl) (e := Extern.SlicesOverlaps.overlaps #[22, 22] #[4]) (by kernel_rfl),
    Lib.run_overlaps_apart w 22 4 25 Tryz.underlying22 1 (fun w => Tryz.sizeOf25 w) ⟨vb, 0, none⟩ ⟨g, i, none⟩ 1 1 lb cb hne 25 25 1 k
      (by simp [World.shape?, hb]) (by simp [World.shape?, hg, hc]) hk (by simp [World.frozen?, hb]) (by simp [World.frozen?, hb])]
  rfl
set_option maxRecDepth 100000 in
set_option maxHeartbeats 4000000 in
theorem insQ_end (w : World) (base : Nat) (v : Value) (us : List PP) (ho : OwnQ w base v us) (x : PP) (hx1 : x.h.oneCell' = true) (vb : Nat) (hb : w.heap[vb]? = some (.cells #[x.h] 25 (0, 0))) (hl : us.length ≤ 1000000) (hlow : base ≤ w.heap.size) :
    Calls Tryz.prog 92 #[v, .int .i64 us.length, .slice (some ⟨vb, 0, none⟩) 1 1] w
      fun e w' => ∃ v', e = .returned v' ∧ OwnQ w' base v' (insP us us.length x) ∧ w.grownBy w' v.ownBlock := by
  have hins : (insP us us.length x).flatMap ppC = us.flatMap ppC ++ [x.h] := by
    rw [insP_map, flat_ppC, List.take_of_length_le (by simp), List.drop_of_length_le (by simp)]
  have hil := insP_len us us.length x (Nat.le_refl _)
  have hrow : Row w 1 (.slice (some ⟨vb, 0, none⟩) 1 1) 1 [x.h] := Row.of_own (w := w) (base := vb) (e := 25) ⟨rfl, .inr ⟨vb, 1, #[x.h], rfl, Nat.le_refl _, hb, Nat.le_refl _, by unfold maxLen; omega, rfl, rfl⟩⟩
  have ho' : w.ownsRow base 25 1 v us.length (us.flatMap ppC) := ho
  obtain ⟨a, cap, rfl, hc, hm⟩ := own_shape ho
  unfold OwnQ
  rw [hins, hil]
  unfold maxLen at hm
  clear ho hins hil hb
  generalize us.flatMap ppC = xs at *
  generalize us.length = n at *
  cases a with
  | none =>
    go_enter Tryz.func92, Tryz.ntmps92
    go_wp2_with (at_builtin; refine wpList_append_row 22 25 (.tmp 23) (.tmp 24) rfl base _ 1 24 Tryz.underlying22 infoQ rfl (by decide) rfl _ n xs rfl ho' 1 [x.h] hrow (by intro u hu; rw [List.mem_singleton.1 hu]; exact hx1) (by omega) (by unfold maxLen; omega) hlow ?_; intro v' w1 hown hgrow; have HO := Lib.hid hown; have HG := Lib.hid hgrow; clear hown hgrow)
    go_ret
    exact ⟨_, rfl, HO.out, HG.out⟩
  | some p =>
    obtain ⟨pb, po, ps⟩ := p
    go_enter Tryz.func92, Tryz.ntmps92
    go_wp2_with (at_builtin; refine wpList_append_row 22 25 (.tmp 23) (.tmp 24) rfl base _ 1 24 Tryz.underlying22 infoQ rfl (by decide) rfl _ n xs rfl ho' 1 [x.h] hrow (by intro u hu; rw [List.mem_singleton.1 hu]; exact hx1) (by omega) (by unfold maxLen; omega) hlow ?_; intro v' w1 hown hgrow; have HO := Lib.hid hown; have HG := Lib.hid hgrow; clear hown hgrow)
    all_goals (go_ret; exact ⟨_, rfl, HO.out, HG.out⟩)
end Go.Proofs.YtlhbpflcffjhmaaGreat

namespace Go.Proofs.YtlhbpflcffjhmaaGreat
open Go.RowKit Go.Sort Go.MapKept

theorem drew_grown {w w' : World} {row : Option Nat} (h : w.drew.grownBy w' row) : w.grownBy w' row := ⟨h.os, h.tape, h.output, h.size, h.block⟩
theorem sizeQ : (Tryz.prog.info? 25).map (·.size) = some 1 := by kernel_rfl
theorem setCells_out (w : World) (b o : Nat) (vs : List Value) (k j : Nat) (h : k ≠ b) : (w.setCells b o vs).cell? ⟨k, j, none⟩ = w.cell? ⟨k, j, none⟩ :=
  World.cell?_setCells_out b vs o w ⟨k, j, none⟩ fun e _ => absurd e h
/-- A copy inside one block, or out of another. -/
theorem run_copyQ (w : World) (ty : TypeId) (g o dl dc a ao sl sc : Nat) (cs : List Value) (hn : cs.length = Nat.min sl dl) (hsrc : ∀ j v, cs[j]? = some v → w.cell? ⟨a, ao + j, none⟩ = some v)
    (hc : ∀ j, j < cs.length → (w.cell? ⟨g, o + j, none⟩).isSome = true ∧ w.frozen? ⟨g, o + j, none⟩ = false) (h1 : ∀ v ∈ cs, v.oneCell' = true) :
    (Builtin.copy_ #[22, 22] ty #[.slice (some ⟨g, o, none⟩) dl dc, .slice (some ⟨a, ao, none⟩) sl sc]).run Tryz.prog w = .ok (goInt cs.length) (w.setCells g o cs) :=
  run_copy_cells w _ _ ty 25 g o dl dc ⟨a, ao, none⟩ sl sc cs Tryz.underlying22 sizeQ hn (fun j v hj => by rw [Addr.add_mid]; exact hsrc j v hj) (fun j hj => (hc j hj).1) (fun j hj => (hc j hj).2) h1
theorem own_one {w : World} {base n : Nat} {v : Value} {us : List PP} (_ : w.ownsRow base 25 1 v n (us.flatMap ppC)) (hone : ∀ y ∈ us, y.h.oneCell' = true) : ∀ u ∈ us.map PP.h, u.oneCell' = true := fun u hu => by
  obtain ⟨y, hy, rfl⟩ := List.mem_map.1 hu
  exact hone y hy
set_option maxRecDepth 100000 in
set_option maxHeartbeats 4000000 in
theorem insQ_room (w : World) (base g cap : Nat) (us : List PP) (ho : OwnQ w base (.slice (some ⟨g, 0, none⟩) us.length cap) us) (hone : ∀ y ∈ us, y.h.oneCell' = true) (x : PP) (hx1 : x.h.oneCell' = true) (vb : Nat) (hb : w.heap[vb]? = some (.cells #[x.h] 25 (0, 0))) (hne : vb ≠ g)
    (hl : us.length ≤ 1000000) (i : Nat) (hi : i < us.length) (hroom : us.length < cap) :
    Calls Tryz.prog 92 #[.slice (some ⟨g, 0, none⟩) us.length cap, .int .i64 i, .slice (some ⟨vb, 0, none⟩) 1 1] w
      fun e w' => ∃ v', e = .returned v' ∧ OwnQ w' base v' (insP us i x) ∧ w.grownBy w' (some g) := by
  have hins := insP_map us i x
  have hil := insP_len us i x (Nat.le_of_lt hi)
  have h1c := own_one ho hone
  have ho' : w.ownsRow base 25 1 (.slice (some ⟨g, 0, none⟩) us.length cap) us.length (us.map PP.h) := by rw [← flat_ppC]; exact ho
  have hxl : (us.map PP.h).length = us.length := List.length_map _
  unfold OwnQ
  rw [hins, hil]
  clear ho hins hil hone
  generalize us.map PP.h = xs at *
  generalize us.length = n at *
  obtain ⟨u, hm⟩ := own_more ho' hroom
  obtain ⟨cur, hg, _, _, hmx, hsz, _, _⟩ := own_holds ho'
  have hcx : w.cell? ⟨vb, 0, none⟩ = some x.h := cell_of_row _ _ 0 _ _ _ hb
  have hov : ∀ lb cb, (callFunc 128 #[.slice (some ⟨vb, 0, none⟩) 1 1, .slice (some ⟨g, i + 1, none⟩) lb cb]).run Tryz.prog w = .ok (.value (.bool false)) w := fun lb cb => overQ w g vb (i + 1) lb cb cur (cap * 1) x.h hb hg hsz (by omega) hne
  have hcp1 : ∀ ty dl dc sl sc, n - i = Nat.min sl dl → (Builtin.copy_ #[22, 22] ty #[.slice (some ⟨g, i + 1, none⟩) dl dc, .slice (some ⟨g, i, none⟩) sl sc]).run Tryz.prog w.drew = .ok (goInt (xs.drop i).length) (w.drew.setCells g (i + 1) (xs.drop i)) := fun ty dl dc sl sc hmin =>
    run_copyQ w.drew ty g (i + 1) dl dc g i sl sc (xs.drop i) (by rw [List.length_drop, hxl]; exact hmin) (fun j v hj => own_cells ho' (i + j) v (by rwa [List.getElem?_drop] at hj)) (fun j hj => own_spare hm (i + 1 + j) (by rw [List.length_drop, hxl] at hj; omega)) (fun v hv => h1c v (List.mem_of_mem_drop hv))
  have hs1 := own_setCells (w := w.drew) hm (i + 1) (xs.drop i) (by rw [List.length_append, List.length_drop, List.length_singleton]; omega)
  obtain ⟨W1, hW1⟩ : ∃ W1, W1 = w.drew.setCells g (i + 1) (xs.drop i) := ⟨_, rfl⟩
  have hcv : W1.cell? ⟨vb, 0, none⟩ = some x.h := by rw [hW1, setCells_out _ _ _ _ _ _ hne]; exact hcx
  rw [← hW1] at hcp1 hs1
  have hcp2 : ∀ ty dl dc, 1 ≤ dl → (Builtin.copy_ #[22, 22] ty #[.slice (some ⟨g, i, none⟩) dl dc, .slice (some ⟨vb, 0, none⟩) 1 1]).run Tryz.prog W1 = .ok (goInt [x.h].length) (W1.setCells g i [x.h]) := fun ty dl dc hd =>
    run_copyQ W1 ty g i dl dc vb 0 1 1 [x.h] (by simp only [List.length_singleton, Nat.min_def]; split <;> omega) (fun j v hj => by
      cases j with
      | zero => simp only [List.getElem?_cons_zero, Option.some.injEq] at hj; subst hj; exact hcv
      | succ j => simp at hj) (fun j hj => by rw [List.length_singleton] at hj; exact own_spare hs1.1 (i + j) (by omega)) (fun v hv => by rw [List.mem_singleton.1 hv]; exact hx1)
  have hs2 := own_setCells hs1.1 i [x.h] (by simp only [List.length_append, List.length_take, List.length_drop, List.length_singleton]; omega)
  have hfin : List.take i (List.take (i + 1) (xs ++ [u]) ++ xs.drop i ++ List.drop (i + 1 + (xs.drop i).length) (xs ++ [u])) ++ [x.h] ++ List.drop (i + [x.h].length) (List.take (i + 1) (xs ++ [u]) ++ xs.drop i ++ List.drop (i + 1 + (xs.drop i).length) (xs ++ [u])) = xs.take i ++ x.h :: xs.drop i := by
    have e1 : List.drop (i + 1 + (xs.drop i).length) (xs ++ [u]) = [] := List.drop_eq_nil_of_le (by rw [List.length_append, List.length_drop, List.length_singleton]; omega)
    have e2 : List.take (i + 1) (xs ++ [u]) = xs.take i ++ [xs[i]'(by omega)] := by
      rw [List.take_append_of_le_length (by omega), List.take_succ_eq_append_getElem (by omega)]
    have e3 : (xs.take i).length = i := by rw [List.length_take]; omega
    rw [e1, e2, List.append_nil, List.length_singleton, List.append_assoc, List.append_assoc, List.take_left' e3, show xs.take i ++ ([xs[i]'(by omega)] ++ xs.drop i) = (xs.take i ++ [xs[i]'(by omega)]) ++ xs.drop i by rw [List.append_assoc], List.drop_left' (by rw [List.length_append, e3]; rfl)]
    rfl
  rw [hfin] at hs2
  obtain ⟨W2, hW2⟩ : ∃ W2, W2 = W1.setCells g i [x.h] := ⟨_, rfl⟩
  have hcpA := hcp1 3 (n - i) (cap - (i + 1)) (n + 1 - i) (cap - i) (by simp only [Nat.min_def]; split <;> omega)
  clear hcp1
  rw [← hW2] at hcp2 hs2
  have hcpB := hcp2 3 (n + 1 - i) (cap - i) (by omega)
  clear hcp2
  have HS := Lib.hid (And.intro hs1.2 hs2)
  have hz2 : ¬ ((i : Int) = (n : Int)) := by omega
  have hw1 : IntKind.i64.wrap ((i : Int) + 1) = (i : Int) + 1 := by rw [IntKind.wrap_i64]; omega
  have hb1 : (0 : Int) ≤ (i : Int) + 1 := by omega
  have hin : i ≤ n := by omega
  have htn : ((i : Int) + 1).toNat = i + 1 := by omega
  have hb2 : ¬ (cap = i + 1) := by omega
  have hb3 : (i : Int) ≤ (n : Int) + 1 := by omega
  have hb4 : ¬ (cap = i) := by omega
  unfold maxLen at hmx
  have HW := Lib.hid hW1
  clear hs1 hs2 hfin hm hg hsz hW1 hW2 h1c ho' hcx hcv hb
  go_enter Tryz.func92, Tryz.ntmps92
  go_wp2_with (simp only [hov])
  go_region_law (refine step_copyQ rfl _ _ 22 22 rfl (.slice (some ⟨g, i + 1, none⟩) (n - i) (cap - (i + 1))) (.slice (some ⟨g, i, none⟩) (n + 1 - i) (cap - i)) (by simp [Act.eval, Act.put]) (by simp [Act.eval, Act.put]) hcpA ?_)
  go_wp2_with fail
  go_ret
  exact ⟨_, rfl, HS.out.2.1, (drew_grown HS.out.1).trans HS.out.2.2⟩
end Go.Proofs.YtlhbpflcffjhmaaGreat
