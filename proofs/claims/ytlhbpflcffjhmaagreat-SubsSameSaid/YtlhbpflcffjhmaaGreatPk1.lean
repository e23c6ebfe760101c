/- Orders, plainly: comparisons that answer a number; lists in order without repeats. No program is in sight.
Values, constraints, predicates, plainly: which may be, their order, what holds, normal forms. No program is in sight.
A rule for a region that draws its order: each operation is shown once, over facts that stay true while memory only grows.
Laws for slices that are only read, told by what they hold: cutting, conversion to a string, appending behind memory of the call's own. -/
import Derived.Lib.Bytealg
import Derived.Lib.Small
import Derived.WalkKit
import Derived.Orders
import Derived.WalkSpells
import Derived.WalkLawsBesides
namespace Go.Proofs.YtlhbpflcffjhmaaGreat

/-- A comparison whose signs are those of a total preorder. -/
structure WO {α : Type} (cf : α → α → Int) : Prop where
  anti : ∀ a b, cf b a = - cf a b
  trans : ∀ a b c, cf a b ≤ 0 → cf b c ≤ 0 → cf a c ≤ 0

theorem snocRec {α : Type} {motive : List α → Prop} (nil : motive []) (snoc : ∀ l x, motive l → motive (l ++ [x])) (t : List α) : motive t := by
  have h : ∀ m : List α, motive m.reverse := fun m => by
    induction m with
    | nil => exact nil
    | cons x m ih => rw [List.reverse_cons]; exact snoc _ _ ih
  have := h t.reverse
  rwa [List.reverse_reverse] at this

section
variable {α : Type} {cf : α → α → Int}
theorem WO.refl (h : WO cf) (a : α) : cf a a = 0 := by have := h.anti a a; omega
theorem WO.lt_le (h : WO cf) {a b c : α} (h1 : cf a b < 0) (h2 : cf b c ≤ 0) : cf a c < 0 := by
  have h3 := h.trans a b c (by omega) h2
  rcases Int.lt_or_eq_of_le h3 with h4 | h4
  · exact h4
  · have h5 := h.anti a c
    have h6 := h.trans b c a h2 (by omega)
    have h7 := h.anti a b
    omega
theorem WO.le_lt (h : WO cf) {a b c : α} (h1 : cf a b ≤ 0) (h2 : cf b c < 0) : cf a c < 0 := by
  have h3 := h.trans a b c h1 (by omega)
  rcases Int.lt_or_eq_of_le h3 with h4 | h4
  · exact h4
  · have h5 := h.anti a c
    have h6 := h.trans c a b (by omega) h1
    have h7 := h.anti b c
    omega
theorem WO.lt_trans (h : WO cf) {a b c : α} (h1 : cf a b < 0) (h2 : cf b c < 0) : cf a c < 0 := h.lt_le h1 (by omega)
theorem WO.eq_trans (h : WO cf) {a b c : α} (h1 : cf a b = 0) (h2 : cf b c = 0) : cf a c = 0 := by
  have h3 := h.trans a b c (by omega) (by omega)
  have h4 := h.anti a b
  have h5 := h.anti b c
  have h6 := h.trans c b a (by omega) (by omega)
  have h7 := h.anti a c
  omega
theorem WO.comap {β : Type} (h : WO cf) (f : β → α) : WO (fun a b => cf (f a) (f b)) := ⟨fun _ _ => h.anti _ _, fun _ _ _ h1 h2 => h.trans _ _ _ h1 h2⟩

/-- The first of two that is not 0. -/
def or2 (x y : Int) : Int := if x = 0 then y else x
theorem WO.or2 {cg : α → α → Int} (h : WO cf) (k : WO cg) : WO (fun a b => or2 (cf a b) (cg a b)) := by
  refine ⟨fun a b => ?_, fun a b c h1 h2 => ?_⟩
  · have h1 := h.anti a b
    have h2 := k.anti a b
    simp only [Proofs.YtlhbpflcffjhmaaGreat.or2]
    by_cases e : cf a b = 0
    · rw [if_pos (by omega), if_pos e]; exact h2
    · rw [if_neg (by omega), if_neg e]; exact h1
  · simp only [Proofs.YtlhbpflcffjhmaaGreat.or2] at h1 h2 ⊢
    by_cases e1 : cf a b = 0
    · rw [if_pos e1] at h1
      by_cases e2 : cf b c = 0
      · rw [if_pos e2] at h2
        rw [if_pos (h.eq_trans e1 e2)]
        exact k.trans _ _ _ h1 h2
      · rw [if_neg e2] at h2
        have := h.le_lt (a := a) (b := b) (c := c) (by omega) (by omega)
        rw [if_neg (by omega)]; omega
    · rw [if_neg e1] at h1
      have h3 : cf a c < 0 := by
        by_cases e2 : cf b c = 0
        · exact h.lt_le (b := b) (by omega) (by omega)
        · rw [if_neg e2] at h2
          exact h.lt_le (b := b) (by omega) (by omega)
      rw [if_neg (by omega)]; omega

/-! Lists, the first difference decides, then the length -/
def cmpL (cf : α → α → Int) : List α → List α → Int
  | [], [] => 0
  | [], _ :: _ => -1
  | _ :: _, [] => 1
  | a :: l, b :: m => if cf a b = 0 then cmpL cf l m else cf a b
theorem WO.list (h : WO cf) : WO (cmpL cf) := by
  refine ⟨fun a => ?_, fun a => ?_⟩
  · induction a with
    | nil => intro b; cases b <;> simp [cmpL]
    | cons x a ih =>
      intro b
      cases b with
      | nil => simp [cmpL]
      | cons y b =>
        simp only [cmpL]
        have := h.anti x y
        by_cases e : cf x y = 0
        · rw [if_pos e, if_pos (by omega)]; exact ih b
        · rw [if_neg e, if_neg (by omega)]; exact this
  · induction a with
    | nil => intro b c; cases c <;> simp [cmpL]
    | cons x a ih =>
      intro b c h1 h2
      cases b with
      | nil => simp [cmpL] at h1
      | cons y b =>
        cases c with
        | nil => simp [cmpL] at h2
        | cons z c =>
          simp only [cmpL] at h1 h2 ⊢
          by_cases e1 : cf x y = 0
          · rw [if_pos e1] at h1
            by_cases e2 : cf y z = 0
            · rw [if_pos e2] at h2
              rw [if_pos (h.eq_trans e1 e2)]
              exact ih b c h1 h2
            · rw [if_neg e2] at h2
              have := h.le_lt (a := x) (b := y) (c := z) (by omega) (by omega)
              rw [if_neg (by omega)]; omega
          · rw [if_neg e1] at h1
            have h3 : cf x z < 0 := by
              by_cases e2 : cf y z = 0
              · exact h.lt_le (b := y) (by omega) (by omega)
              · rw [if_neg e2] at h2
                exact h.lt_le (b := y) (by omega) (by omega)
            rw [if_neg (by omega)]; omega
theorem cmpL_eq (h0 : ∀ a b, cf a b = 0 → a = b) : ∀ (l m : List α), cmpL cf l m = 0 → l = m
  | [], [], _ => rfl
  | [], _ :: _, h => by simp [cmpL] at h
  | _ :: _, [], h => by simp [cmpL] at h
  | a :: l, b :: m, h => by
    simp only [cmpL] at h
    by_cases e : cf a b = 0
    · rw [if_pos e] at h
      rw [h0 _ _ e, cmpL_eq h0 l m h]
    · rw [if_neg e] at h; exact absurd h e

/-! Lists in order, each element once -/
def Up (cf : α → α → Int) (l : List α) : Prop := l.Pairwise fun a b => cf a b < 0
def insU (cf : α → α → Int) (x : α) : List α → List α
  | [] => [x]
  | y :: r => if cf y x < 0 then y :: insU cf x r else if cf y x = 0 then y :: r else x :: y :: r
def sortU (cf : α → α → Int) (l : List α) : List α := l.foldl (fun acc x => insU cf x acc) []

theorem sortU_snoc (l : List α) (x : α) : sortU cf (l ++ [x]) = insU cf x (sortU cf l) := by simp [sortU]

theorem insU_sub (x z : α) : ∀ l : List α, z ∈ insU cf x l → z = x ∨ z ∈ l
  | [], h => by simp [insU] at h; exact .inl h
  | y :: r, h => by
    simp only [insU] at h
    split at h
    · rcases List.mem_cons.1 h with h | h
      · exact .inr (h ▸ List.mem_cons_self)
      · rcases insU_sub x z r h with h | h
        · exact .inl h
        · exact .inr (List.mem_cons_of_mem _ h)
    · split at h
      · exact .inr h
      · rcases List.mem_cons.1 h with h | h
        · exact .inl h
        · exact .inr h
theorem insU_old (x z : α) : ∀ l : List α, z ∈ l → z ∈ insU cf x l
  | [], h => by cases h
  | y :: r, h => by
    simp only [insU]
    split
    · rcases List.mem_cons.1 h with h | h
      · exact h ▸ List.mem_cons_self
      · exact List.mem_cons_of_mem _ (insU_old x z r h)
    · split
      · exact h
      · exact List.mem_cons_of_mem _ h
theorem insU_new (x : α) : ∀ l : List α, x ∈ insU cf x l ∨ ∃ y ∈ l, cf y x = 0
  | [] => .inl (by simp [insU])
  | y :: r => by
    simp only [insU]
    split
    · rcases insU_new x r with h | ⟨y', h, e⟩
      · exact .inl (List.mem_cons_of_mem _ h)
      · exact .inr ⟨y', List.mem_cons_of_mem _ h, e⟩
    · split
      · rename_i e; exact .inr ⟨y, List.mem_cons_self, e⟩
      · exact .inl List.mem_cons_self
theorem insU_up (hw : WO cf) (x : α) : ∀ l : List α, Up cf l → Up cf (insU cf x l)
  | [], _ => by simp [insU, Up]
  | y :: r, h => by
    have h' := List.pairwise_cons.1 h
    simp only [insU]
    split
    · rename_i h1
      refine List.pairwise_cons.2 ⟨fun z hz => ?_, insU_up hw x r h'.2⟩
      rcases insU_sub x z r hz with e | hz
      · rw [e]; exact h1
      · exact h'.1 z hz
    · split
      · exact h
      · rename_i h1 h2
        have h3 : cf x y < 0 := by have := hw.anti x y; omega
        refine List.pairwise_cons.2 ⟨fun z hz => ?_, h⟩
        rcases List.mem_cons.1 hz with e | hz
        · rw [e]; exact h3
        · exact hw.lt_trans h3 (h'.1 z hz)
theorem sortU_up (hw : WO cf) (l : List α) : Up cf (sortU cf l) := by
  induction l using snocRec with
  | nil => exact List.Pairwise.nil
  | snoc l x ih => rw [sortU_snoc]; exact insU_up hw x _ ih
theorem sortU_mem (l : List α) (h0 : ∀ a ∈ l, ∀ b ∈ l, cf a b = 0 → a = b) (z : α) : z ∈ sortU cf l ↔ z ∈ l := by
  induction l using snocRec generalizing z with
  | nil => simp [sortU]
  | snoc l x ih =>
    have ih' := ih fun a ha b hb => h0 a (List.mem_append_left _ ha) b (List.mem_append_left _ hb)
    rw [sortU_snoc, List.mem_append, List.mem_singleton]
    constructor
    · intro h
      rcases insU_sub x z _ h with h | h
      · exact .inr h
      · exact .inl ((ih' z).1 h)
    · rintro (h | h)
      · exact insU_old x z _ ((ih' z).2 h)
      · subst h
        rcases insU_new z (sortU cf l) (cf := cf) with h | ⟨y, hy, e⟩
        · exact h
        · have := h0 y (List.mem_append_left _ ((ih' y).1 hy)) z (List.mem_append_right _ (List.mem_singleton.2 rfl)) e
          subst this
          exact insU_old y y _ hy
theorem sortU_sub (l : List α) (z : α) (h : z ∈ sortU cf l) : z ∈ l := by
  induction l using snocRec generalizing z with
  | nil => simp [sortU] at h
  | snoc l x ih =>
    rw [sortU_snoc] at h
    rcases insU_sub x z _ h with h | h
    · rw [h]; simp
    · exact List.mem_append_left _ (ih z h)

/-- Two lists in strict order of the same elements are one. -/
theorem up_unique (hw : WO cf) : ∀ (l m : List α), Up cf l → Up cf m → (∀ z, z ∈ l ↔ z ∈ m) → l = m
  | [], [], _, _, _ => rfl
  | [], b :: m, _, _, h => by have := (h b).2 List.mem_cons_self; cases this
  | a :: l, [], _, _, h => by have := (h a).1 List.mem_cons_self; cases this
  | a :: l, b :: m, h1, h2, h => by
    have p1 := List.pairwise_cons.1 h1
    have p2 := List.pairwise_cons.1 h2
    have e : a = b := by
      rcases List.mem_cons.1 ((h a).1 List.mem_cons_self) with e | ha
      · exact e
      · rcases List.mem_cons.1 ((h b).2 List.mem_cons_self) with e | hb
        · exact e.symm
        · have q1 := p1.1 b hb
          have q2 := p2.1 a ha
          have := hw.anti a b
          omega
    subst e
    congr 1
    refine up_unique hw l m p1.2 p2.2 fun z => ⟨fun hz => ?_, fun hz => ?_⟩
    · rcases List.mem_cons.1 ((h z).1 (List.mem_cons_of_mem _ hz)) with e | h'
      · subst e; have := p1.1 z hz; have := hw.refl z; omega
      · exact h'
    · rcases List.mem_cons.1 ((h z).2 (List.mem_cons_of_mem _ hz)) with e | h'
      · subst e; have := p2.1 z hz; have := hw.refl z; omega
      · exact h'

/-- Of neighbours that are alike the first alone. -/
def compL (eq : α → α → Bool) : List α → List α
  | [] => []
  | x :: l => match l with
    | [] => [x]
    | y :: r => if eq x y then compL eq (x :: r) else x :: compL eq (y :: r)
termination_by l => l.length

theorem compL_cons2 (eq : α → α → Bool) (x y : α) (r : List α) : compL eq (x :: y :: r) = if eq x y then compL eq (x :: r) else x :: compL eq (y :: r) := by
  conv => lhs; unfold compL
theorem compL_one (eq : α → α → Bool) (x : α) : compL eq [x] = [x] := by unfold compL; rfl
theorem compL_nil (eq : α → α → Bool) : compL eq ([] : List α) = [] := by unfold compL; rfl

theorem compL_mem {eq : α → α → Bool} : ∀ (n : Nat) (l : List α), l.length ≤ n → (∀ a ∈ l, ∀ b ∈ l, eq a b = true → a = b) → ∀ z, z ∈ compL eq l ↔ z ∈ l
  | _, [], _, _, z => by rw [compL_nil]
  | _, [x], _, _, z => by rw [compL_one]
  | 0, x :: y :: r, h, _, _ => by simp at h
  | n + 1, x :: y :: r, h, h0, z => by
    rw [compL_cons2]
    split
    · rename_i e
      have e2 := h0 x List.mem_cons_self y (List.mem_cons_of_mem _ List.mem_cons_self) e
      rw [compL_mem n (x :: r) (by simp at h ⊢; omega) (fun a ha b hb => h0 a (by rcases List.mem_cons.1 ha with h | h; exact h ▸ List.mem_cons_self; exact List.mem_cons_of_mem _ (List.mem_cons_of_mem _ h)) b (by rcases List.mem_cons.1 hb with h | h; exact h ▸ List.mem_cons_self; exact List.mem_cons_of_mem _ (List.mem_cons_of_mem _ h))) z]
      simp only [List.mem_cons, ← e2]
      constructor
      · rintro (h | h)
        · exact .inl h
        · exact .inr (.inr h)
      · rintro (h | h | h)
        · exact .inl h
        · exact .inl h
        · exact .inr h
    · rw [List.mem_cons, compL_mem n (y :: r) (by simp at h ⊢; omega) (fun a ha b hb => h0 a (List.mem_cons_of_mem _ ha) b (List.mem_cons_of_mem _ hb)) z]
      simp only [List.mem_cons]
theorem compL_up (hw : WO cf) {eq : α → α → Bool} : ∀ (n : Nat) (l : List α), l.length ≤ n → (∀ a ∈ l, ∀ b ∈ l, eq a b = false → cf a b ≠ 0) → (∀ a ∈ l, ∀ b ∈ l, eq a b = true → a = b) → l.Pairwise (fun a b => cf a b ≤ 0) → Up cf (compL eq l)
  | _, [], _, _, _, _ => by rw [compL_nil]; exact List.Pairwise.nil
  | _, [x], _, _, _, _ => by rw [compL_one]; exact List.pairwise_singleton _ _
  | 0, x :: y :: r, h, _, _, _ => by simp at h
  | n + 1, x :: y :: r, h, h0, h1, hp => by
    have p1 := List.pairwise_cons.1 hp
    have p2 := List.pairwise_cons.1 p1.2
    rw [compL_cons2]
    split
    · have hs : ∀ a, a ∈ x :: r → a ∈ x :: y :: r := fun a ha => by
        rcases List.mem_cons.1 ha with h | h
        · exact h ▸ List.mem_cons_self
        · exact List.mem_cons_of_mem _ (List.mem_cons_of_mem _ h)
      exact compL_up hw n (x :: r) (by simp at h ⊢; omega) (fun a ha b hb => h0 a (hs a ha) b (hs b hb)) (fun a ha b hb => h1 a (hs a ha) b (hs b hb)) (List.pairwise_cons.2 ⟨fun b hb => p1.1 b (List.mem_cons_of_mem _ hb), p2.2⟩)
    · rename_i e
      have hne := h0 x List.mem_cons_self y (List.mem_cons_of_mem _ List.mem_cons_self) (by simpa using e)
      have hlt : cf x y < 0 := by have := p1.1 y List.mem_cons_self; omega
      refine List.pairwise_cons.2 ⟨fun z hz => ?_, compL_up hw n (y :: r) (by simp at h ⊢; omega) (fun a ha b hb => h0 a (List.mem_cons_of_mem _ ha) b (List.mem_cons_of_mem _ hb)) (fun a ha b hb => h1 a (List.mem_cons_of_mem _ ha) b (List.mem_cons_of_mem _ hb)) p1.2⟩
      rw [compL_mem (y :: r).length (y :: r) (Nat.le_refl _) (fun a ha b hb => h1 a (List.mem_cons_of_mem _ ha) b (List.mem_cons_of_mem _ hb))] at hz
      rcases List.mem_cons.1 hz with e | hz
      · rw [e]; exact hlt
      · exact hw.lt_le hlt (p2.1 z hz)

/-- Sorted, then of neighbours that are alike the first alone: the list in order, each element once. -/
theorem compL_sorted (hw : WO cf) {eq : α → α → Bool} {l d : List α} (hp : d.Perm l) (hs : d.Pairwise (fun a b => cf a b ≤ 0)) (h0 : ∀ a ∈ l, ∀ b ∈ l, cf a b = 0 → a = b) (he : ∀ a ∈ l, ∀ b ∈ l, (eq a b = true ↔ cf a b = 0)) : compL eq d = sortU cf l := by
  have hm : ∀ a, a ∈ d → a ∈ l := fun a ha => hp.mem_iff.1 ha
  have h1 : ∀ a ∈ d, ∀ b ∈ d, eq a b = true → a = b := fun a ha b hb e => h0 a (hm a ha) b (hm b hb) ((he a (hm a ha) b (hm b hb)).1 e)
  refine up_unique hw _ _ (compL_up hw d.length d (Nat.le_refl _) (fun a ha b hb e h => by have := (he a (hm a ha) b (hm b hb)).2 h; rw [e] at this; cases this) h1 hs) (sortU_up hw l) fun z => ?_
  rw [compL_mem d.length d (Nat.le_refl _) h1, sortU_mem l h0, hp.mem_iff]
theorem sortU_same (hw : WO cf) {l m : List α} (h0 : ∀ a ∈ l, ∀ b ∈ l, cf a b = 0 → a = b) (h : ∀ z, z ∈ l ↔ z ∈ m) : sortU cf l = sortU cf m := by
  refine up_unique hw _ _ (sortU_up hw l) (sortU_up hw m) fun z => ?_
  rw [sortU_mem l h0, sortU_mem m (fun a ha b hb => h0 a ((h a).2 ha) b ((h b).2 hb)), h z]
theorem sortU_done (hw : WO cf) {l : List α} (hu : Up cf l) : sortU cf l = l := by
  have h0 : ∀ a ∈ l, ∀ b ∈ l, cf a b = 0 → a = b := by
    induction l with
    | nil => intro a ha; cases ha
    | cons x l ih =>
      have p := List.pairwise_cons.1 hu
      intro a ha b hb e
      rcases List.mem_cons.1 ha with h1 | h1
      · rcases List.mem_cons.1 hb with h2 | h2
        · rw [h1, h2]
        · have := p.1 b h2; rw [h1] at e; omega
      · rcases List.mem_cons.1 hb with h2 | h2
        · have := p.1 a h1; have := hw.anti x a; rw [h2] at e; omega
        · exact ih p.2 a h1 b h2 e
  exact up_unique hw _ _ (sortU_up hw l) hu fun z => sortU_mem l h0 z
end

/-! Numbers, bytes -/
theorem wo_int : WO Lib.compareInt := by
  refine ⟨fun a b => ?_, fun a b c => ?_⟩
  · unfold Lib.compareInt; (repeat' split) <;> omega
  · unfold Lib.compareInt; (repeat' split) <;> omega
theorem int_zero {a b : Int} (h : Lib.compareInt a b = 0) : a = b := by
  unfold Lib.compareInt at h; (repeat' split at h) <;> omega
theorem int_lt {a b : Int} : Lib.compareInt a b < 0 ↔ a < b := by
  unfold Lib.compareInt; (repeat' split) <;> omega
theorem bytes_cmp : ∀ l m : List UInt8, Lib.compareBytes l m = cmpL (fun a b : UInt8 => Lib.compareInt a.toNat b.toNat) l m
  | [], [] => rfl
  | [], _ :: _ => rfl
  | _ :: _, [] => rfl
  | a :: l, b :: m => by
    simp only [Lib.compareBytes, cmpL, bytes_cmp l m, UInt8.lt_iff_toNat_lt]
    unfold Lib.compareInt
    (repeat' split) <;> first | rfl | omega
theorem wo_bytes : WO Lib.compareBytes := by
  have h : Lib.compareBytes = cmpL (fun a b : UInt8 => Lib.compareInt a.toNat b.toNat) := by funext l m; exact bytes_cmp l m
  rw [h]
  exact (wo_int.comap (fun a : UInt8 => (a.toNat : Int))).list
theorem bytes_zero {l m : List UInt8} (h : Lib.compareBytes l m = 0) : l = m := by
  rw [bytes_cmp] at h
  refine cmpL_eq (fun a b e => ?_) l m h
  have := int_zero e
  exact UInt8.toNat_inj.1 (by omega)

end Go.Proofs.YtlhbpflcffjhmaaGreat

namespace Go.Proofs.YtlhbpflcffjhmaaGreat

/-- A value. -/
structure V where
  k : Int
  n : Int
  s : List UInt8
  b : Bool
deriving DecidableEq

def rankB (b : Bool) : Int := if b then 1 else 0
def cmpB (a b : Bool) : Int := Lib.compareInt (rankB a) (rankB b)
theorem wo_bool : WO cmpB := wo_int.comap rankB
theorem bool_zero {a b : Bool} (h : cmpB a b = 0) : a = b := by
  cases a <;> cases b <;> first | rfl | (exact absurd h (by decide))

def cmpV (a b : V) : Int :=
  if a.k = b.k then (if a.k = 1 then Lib.compareInt a.n b.n else if a.k = 2 then Lib.compareBytes a.s b.s else if a.k = 3 then cmpB a.b b.b else 0)
  else Lib.compareInt a.k b.k

def vN (a : V) : Int := if a.k = 1 then a.n else 0
def vS (a : V) : List UInt8 := if a.k = 2 then a.s else []
def vB (a : V) : Bool := if a.k = 3 then a.b else false
theorem cmpV_or (a b : V) : cmpV a b = or2 (Lib.compareInt a.k b.k) (or2 (Lib.compareInt (vN a) (vN b)) (or2 (Lib.compareBytes (vS a) (vS b)) (cmpB (vB a) (vB b)))) := by
  have hr : ∀ x, Lib.compareInt x x = 0 := wo_int.refl
  have hs : Lib.compareBytes [] [] = 0 := rfl
  have hb : cmpB false false = 0 := rfl
  unfold cmpV
  by_cases hk : a.k = b.k
  · rw [if_pos hk]
    have e : Lib.compareInt a.k b.k = 0 := by rw [hk]; exact hr _
    unfold or2 vN vS vB
    rw [if_pos e]
    by_cases h1 : a.k = 1
    · have h2 : b.k = 1 := by omega
      simp only [h1, h2, if_true]
      simp [hs, hb]
    · have h1' : ¬ b.k = 1 := by omega
      simp only [if_neg h1, if_neg h1', hr, if_true]
      by_cases h2 : a.k = 2
      · have h2' : b.k = 2 := by omega
        simp only [h2, h2', if_true]
        simp [hb]
      · have h2' : ¬ b.k = 2 := by omega
        simp only [if_neg h2, if_neg h2', hs, if_true]
        by_cases h3 : a.k = 3
        · have h3' : b.k = 3 := by omega
          simp only [h3, h3', if_true]
        · have h3' : ¬ b.k = 3 := by omega
          simp only [if_neg h3, if_neg h3', hb]
  · rw [if_neg hk]
    unfold or2
    rw [if_neg (fun e => hk (int_zero e))]
theorem wo_V : WO cmpV := by
  have h : cmpV = fun a b => or2 (Lib.compareInt a.k b.k) (or2 (Lib.compareInt (vN a) (vN b)) (or2 (Lib.compareBytes (vS a) (vS b)) (cmpB (vB a) (vB b)))) := by funext a b; exact cmpV_or a b
  rw [h]
  exact (wo_int.comap V.k).or2 ((wo_int.comap vN).or2 ((wo_bytes.comap vS).or2 (wo_bool.comap vB)))
theorem cmpV_kind {a b : V} (h : cmpV a b = 0) : a.k = b.k := by
  unfold cmpV at h
  split at h
  · assumption
  · exact int_zero h

def mayV (v : V) : Bool :=
  if v.k = 1 then v.s.isEmpty && !v.b else if v.k = 2 then decide (v.n = 0) && !v.b && decide (v.s.length ≤ 32) else if v.k = 3 then decide (v.n = 0) && v.s.isEmpty else false

theorem may_zero {a b : V} (ha : mayV a = true) (hb : mayV b = true) (h : cmpV a b = 0) : a = b := by
  have hk := cmpV_kind h
  obtain ⟨ak, an, as, ab⟩ := a
  obtain ⟨bk, bn, bs, bb⟩ := b
  simp only at hk
  subst hk
  unfold mayV at ha hb
  unfold cmpV at h
  simp only [if_true] at ha hb h
  by_cases h1 : ak = 1
  · rw [if_pos h1] at ha hb h
    simp at ha hb
    have := int_zero h
    rw [ha.1, ha.2, hb.1, hb.2, this]
  · rw [if_neg h1] at ha hb h
    by_cases h2 : ak = 2
    · rw [if_pos h2] at ha hb h
      simp at ha hb
      have := bytes_zero h
      rw [ha.1.1, ha.1.2, hb.1.1, hb.1.2, this]
    · rw [if_neg h2] at ha hb h
      by_cases h3 : ak = 3
      · rw [if_pos h3] at ha hb h
        simp at ha hb
        have := bool_zero h
        rw [ha.1, ha.2, hb.1, hb.2, this]
      · rw [if_neg h3] at ha; cases ha

def wholeV (a b : V) : Int := or2 (cmpV a b) (or2 (Lib.compareInt a.n b.n) (or2 (Lib.compareBytes a.s b.s) (cmpB a.b b.b)))
theorem wo_whole : WO wholeV := wo_V.or2 ((wo_int.comap V.n).or2 ((wo_bytes.comap V.s).or2 (wo_bool.comap V.b)))
theorem or2_zero {x y : Int} (h : or2 x y = 0) : x = 0 ∧ y = 0 := by
  unfold or2 at h
  split at h
  · exact ⟨by assumption, h⟩
  · rename_i hx; exact absurd h hx
theorem whole_zero {a b : V} (h : wholeV a b = 0) : a = b := by
  obtain ⟨h1, h⟩ := or2_zero h
  obtain ⟨h2, h⟩ := or2_zero h
  obtain ⟨h3, h4⟩ := or2_zero h
  have e1 := cmpV_kind h1
  have e2 := int_zero h2
  have e3 := bytes_zero h3
  have e4 := bool_zero h4
  cases a; cases b
  simp only at e1 e2 e3 e4
  subst e1; subst e2; subst e3; subst e4
  rfl

/-- A constraint. -/
structure C where
  name : List UInt8
  op : Int
  v : V
  set : List V
deriving DecidableEq

def bareV (v : V) : Bool := decide (v = ⟨0, 0, [], false⟩)
def mayC (c : C) : Bool :=
  if c.name.length < 1 ∨ 16 < c.name.length then false
  else if c.op = 1 then bareV c.v && c.set.isEmpty
  else if 2 ≤ c.op ∧ c.op ≤ 7 then mayV c.v && c.set.isEmpty
  else if c.op = 8 then mayV c.v && decide (c.v.k = 2) && c.set.isEmpty
  else if c.op = 9 then bareV c.v && decide (1 ≤ c.set.length) && decide (c.set.length ≤ 6) && c.set.all mayV
  else false
def mayP (p : List C) : Bool := decide (p.length ≤ 6) && p.all mayC

/-- What a constraint asks of a value. -/
def holdsC (c : C) (v : V) : Bool :=
  if c.op = 1 then true
  else if c.op = 9 then c.set.any fun x => decide (cmpV v x = 0)
  else if v.k = c.v.k then
    (if c.op = 2 then decide (cmpV v c.v = 0) else if c.op = 3 then !decide (cmpV v c.v = 0) else if c.op = 4 then decide (cmpV v c.v < 0) else if c.op = 5 then decide (cmpV v c.v ≤ 0)
      else if c.op = 6 then decide (0 < cmpV v c.v) else if c.op = 7 then decide (0 ≤ cmpV v c.v) else if c.op = 8 then decide (v.k = 2) && c.v.s.isPrefixOf v.s else false)
  else false
def getE (l : List (List UInt8 × V)) (name : List UInt8) : Option V := (l.find? fun a => decide (a.1 = name)).map (·.2)
def asksE (l : List (List UInt8 × V)) (c : C) : Bool := match getE l c.name with | none => false | some v => holdsC c v
def matchP (p : List C) (l : List (List UInt8 × V)) : Bool := p.all (asksE l)

def orderC (a b : C) : Int := or2 (Lib.compareBytes a.name b.name) (or2 (Lib.compareInt a.op b.op) (or2 (wholeV a.v b.v) (cmpL wholeV a.set b.set)))
theorem wo_C : WO orderC := (wo_bytes.comap C.name).or2 ((wo_int.comap C.op).or2 ((wo_whole.comap C.v).or2 (wo_whole.list.comap C.set)))
theorem order_zero {a b : C} (h : orderC a b = 0) : a = b := by
  obtain ⟨h1, h⟩ := or2_zero h
  obtain ⟨h2, h⟩ := or2_zero h
  obtain ⟨h3, h4⟩ := or2_zero h
  have e1 := bytes_zero h1
  have e2 := int_zero h2
  have e3 := whole_zero h3
  have e4 := cmpL_eq (fun _ _ => whole_zero) _ _ h4
  cases a; cases b
  simp only at e1 e2 e3 e4
  subst e1; subst e2; subst e3; subst e4
  rfl
def cmpP (p q : List C) : Int := cmpL orderC p q
theorem wo_P : WO cmpP := wo_C.list
theorem cmpP_zero {p q : List C} (h : cmpP p q = 0) : p = q := cmpL_eq (fun _ _ => order_zero) _ _ h

/-- Normal forms. -/
def normC (c : C) : C := { c with set := sortU cmpV c.set }
def normP (p : List C) : List C := sortU orderC (p.map normC)

theorem sortU_len {α : Type} {cf : α → α → Int} (l : List α) : (sortU cf l).length ≤ l.length := by
  have hi : ∀ (x : α) (m : List α), (insU cf x m).length ≤ m.length + 1 := fun x m => by
    induction m with
    | nil => simp [insU]
    | cons y r ih => simp only [insU]; (repeat' split) <;> simp <;> omega
  induction l using snocRec with
  | nil => simp [sortU]
  | snoc l x ih => rw [sortU_snoc, List.length_append]; have := hi x (sortU cf l); simp; omega
theorem sortU_pos {α : Type} {cf : α → α → Int} (l : List α) (h : 1 ≤ l.length) : 1 ≤ (sortU cf l).length := by
  have hi : ∀ (x : α) (m : List α), 1 ≤ (insU cf x m).length := fun x m => by
    cases m with
    | nil => simp [insU]
    | cons y r => simp only [insU]; (repeat' split) <;> simp
  induction l using snocRec with
  | nil => simp at h
  | snoc l x ih => rw [sortU_snoc]; exact hi _ _

theorem set_inj {c : C} (h : mayC c = true) : ∀ a ∈ c.set, ∀ b ∈ c.set, cmpV a b = 0 → a = b := by
  intro a ha b hb e
  unfold mayC at h
  have hne : c.set.isEmpty = false := by cases hs : c.set with | nil => rw [hs] at ha; cases ha | cons _ _ => rfl
  have hall : c.set.all mayV = true := by
    split at h
    · cases h
    · split at h
      · rw [hne, Bool.and_false] at h; cases h
      · split at h
        · rw [hne, Bool.and_false] at h; cases h
        · split at h
          · rw [hne, Bool.and_false] at h; cases h
          · split at h
            · simp only [Bool.and_eq_true] at h; exact h.2
            · cases h
  exact may_zero (List.all_eq_true.1 hall a ha) (List.all_eq_true.1 hall b hb) e

theorem norm_may {c : C} (h : mayC c = true) : mayC (normC c) = true := by
  have hi := set_inj h
  have hl : (sortU cmpV c.set).length ≤ c.set.length := sortU_len _
  have he : c.set.isEmpty = true → (sortU cmpV c.set).isEmpty = true := fun e => by
    rw [List.isEmpty_iff] at e; rw [e]; rfl
  unfold mayC at h ⊢
  show (if c.name.length < 1 ∨ 16 < c.name.length then false
    else if c.op = 1 then bareV c.v && (sortU cmpV c.set).isEmpty
    else if 2 ≤ c.op ∧ c.op ≤ 7 then mayV c.v && (sortU cmpV c.set).isEmpty
    else if c.op = 8 then mayV c.v && decide (c.v.k = 2) && (sortU cmpV c.set).isEmpty
    else if c.op = 9 then bareV c.v && decide (1 ≤ (sortU cmpV c.set).length) && decide ((sortU cmpV c.set).length ≤ 6) && (sortU cmpV c.set).all mayV
    else false) = true
  split at h
  · cases h
  rename_i h0
  rw [if_neg h0]
  split at h
  · rename_i h1
    rw [if_pos h1]
    simp only [Bool.and_eq_true] at h ⊢
    exact ⟨h.1, he h.2⟩
  rename_i h1
  rw [if_neg h1]
  split at h
  · rename_i h2
    rw [if_pos h2]
    simp only [Bool.and_eq_true] at h ⊢
    exact ⟨h.1, he h.2⟩
  rename_i h2
  rw [if_neg h2]
  split at h
  · rename_i h3
    rw [if_pos h3]
    simp only [Bool.and_eq_true] at h ⊢
    exact ⟨h.1, he h.2⟩
  rename_i h3
  rw [if_neg h3]
  split at h
  · rename_i h4
    rw [if_pos h4]
    simp only [Bool.and_eq_true, decide_eq_true_eq] at h ⊢
    exact ⟨⟨⟨h.1.1.1, sortU_pos _ h.1.1.2⟩, by omega⟩, List.all_eq_true.2 fun z hz => List.all_eq_true.1 h.2 z (sortU_sub _ z hz)⟩
  · cases h

theorem norm_inj (p : List C) : ∀ a ∈ p, ∀ b ∈ p, orderC a b = 0 → a = b := fun _ _ _ _ h => order_zero h
theorem normP_mem (p : List C) (z : C) : z ∈ normP p ↔ ∃ c ∈ p, normC c = z := by
  unfold normP
  rw [sortU_mem _ (norm_inj _), List.mem_map]
theorem normP_up (p : List C) : Up orderC (normP p) := sortU_up wo_C _
theorem normP_len (p : List C) : (normP p).length ≤ p.length := by
  have := sortU_len (cf := orderC) (p.map normC); rw [List.length_map] at this; exact this
theorem normP_may {p : List C} (h : mayP p = true) : mayP (normP p) = true := by
  unfold mayP at h ⊢
  simp only [Bool.and_eq_true, decide_eq_true_eq] at h ⊢
  have hl := normP_len p
  refine ⟨by omega, List.all_eq_true.2 fun z hz => ?_⟩
  obtain ⟨c, hc, rfl⟩ := (normP_mem p z).1 hz
  exact norm_may (List.all_eq_true.1 h.2 c hc)
theorem normC_idem (c : C) : normC (normC c) = normC c := by
  unfold normC
  simp only [sortU_done wo_V (sortU_up wo_V c.set)]
theorem normP_idem (p : List C) : normP (normP p) = normP p := by
  have e : (normP p).map normC = normP p := by
    conv => rhs; rw [← List.map_id (normP p)]
    refine List.map_congr_left fun z hz => ?_
    obtain ⟨c, _, rfl⟩ := (normP_mem p z).1 hz
    exact normC_idem c
  show sortU orderC ((normP p).map normC) = _
  rw [e, sortU_done wo_C (normP_up p)]
theorem normC_holds {c : C} (h : mayC c = true) (v : V) : holdsC (normC c) v = holdsC c v := by
  have hi := set_inj h
  unfold holdsC
  show (if c.op = 1 then true else if c.op = 9 then (sortU cmpV c.set).any (fun x => decide (cmpV v x = 0)) else _) = _
  by_cases h1 : c.op = 1
  · rw [if_pos h1, if_pos h1]
  · rw [if_neg h1, if_neg h1]
    by_cases h9 : c.op = 9
    · rw [if_pos h9, if_pos h9, Bool.eq_iff_iff, List.any_eq_true, List.any_eq_true]
      constructor
      · rintro ⟨x, hx, e⟩; exact ⟨x, (sortU_mem _ hi x).1 hx, e⟩
      · rintro ⟨x, hx, e⟩; exact ⟨x, (sortU_mem _ hi x).2 hx, e⟩
    · rw [if_neg h9, if_neg h9]; rfl
theorem normP_match {p : List C} (h : mayP p = true) (l : List (List UInt8 × V)) : matchP (normP p) l = matchP p l := by
  unfold mayP at h
  simp only [Bool.and_eq_true, decide_eq_true_eq] at h
  have hc : ∀ c ∈ p, asksE l (normC c) = asksE l c := fun c hc => by
    unfold asksE
    show (match getE l c.name with | none => false | some v => holdsC (normC c) v) = _
    cases getE l c.name with
    | none => rfl
    | some v => exact normC_holds (List.all_eq_true.1 h.2 c hc) v
  unfold matchP
  rw [Bool.eq_iff_iff, List.all_eq_true, List.all_eq_true]
  constructor
  · intro a c hcp
    rw [← hc c hcp]
    exact a _ ((normP_mem p _).2 ⟨c, hcp, rfl⟩)
  · intro a z hz
    obtain ⟨c, hcp, rfl⟩ := (normP_mem p z).1 hz
    rw [hc c hcp]; exact a c hcp
theorem normP_same {p q : List C} (h : ∀ z, (∃ c ∈ p, normC c = z) ↔ ∃ c ∈ q, normC c = z) : normP p = normP q :=
  up_unique wo_C _ _ (normP_up p) (normP_up q) fun z => by rw [normP_mem, normP_mem]; exact h z

end Go.Proofs.YtlhbpflcffjhmaaGreat

namespace Go.Proofs.YtlhbpflcffjhmaaGreat
open Go.RowKit

/-- w' is w, with more memory: all that was there is as it was. -/
def Ext (w w' : World) : Prop := Below w.heap.size w w'

theorem Ext.refl (w : World) : Ext w w := Below.refl _ _
theorem Ext.trans {a b c : World} (h : Ext a b) (k : Ext b c) : Ext a c := Below.trans h (Below.mono k h.size)
theorem Ext.drew {a w : World} (h : Ext a w) : Ext a w.drew := Below.drew h
theorem Ext.alloc {a w : World} (h : Ext a w) (o : Obj) : Ext a (w.alloc o) := Below.alloc h h.size o
theorem Ext.cell {w w' : World} (h : Ext w w') {a : Addr} {v : Value} (hc : w.cell? a = some v) : w'.cell? a = some v :=
  (Below.cell h (World.block_lt_of_cell? w a hc)).trans hc

section
variable {P : Program}

/-- The slot that operation j writes. -/
def dstOf (ops : Array Oper) (j : Nat) : Option Tmp := (ops[j]?).bind (·.dst)

def depsThen (F : Nat → Value → World → Prop) (w : World) : List (Nat × Tmp) → Act → (Act → Prop) → Prop
  | [], a, k => k a
  | p :: js, a, k => ∀ v, F p.1 v w → depsThen F w js (a.put (some p.2) v) k

theorem depsThen_nil {F : Nat → Value → World → Prop} {w : World} {a : Act} {k : Act → Prop} (h : k a) : depsThen F w [] a k := h

/-- What an operation must come to: no panic, memory only grows, its value has its fact. -/
def endQ (F : Value → World → Prop) (o : Oper) (a : Act) (w : World) : Exit → Act → World → Prop :=
  fun e a' w' => e = .normal ∧ Ext w w' ∧ a'.defers = a.defers ∧ F (match o.dst with | some d => a'.tmps.getD d undef | none => undef) w'

def Ob (P : Program) (ops : Array Oper) (F : Nat → Value → World → Prop) (a0 : Act) (w0 : World) (i : Nat) (o : Oper) (D : List (Nat × Tmp)) : Prop :=
  ∀ w, Ext w0 w → depsThen F w D a0 (fun a => wpList P ops (endQ (F i) o a w) [o] a w)

def Obs (P : Program) (ops : Array Oper) (F : Nat → Value → World → Prop) (a0 : Act) (w0 : World) : Nat → List Oper → List (List (Nat × Tmp)) → Prop
  | _, [], _ => True
  | i, o :: os, D => Ob P ops F a0 w0 i o (D.headD []) ∧ Obs P ops F a0 w0 (i + 1) os D.tail

/-- The edge: i waits for j. -/
def waits (ops : Array Oper) (i j : Nat) : Bool :=
  match ops[i]? with
  | some o => o.after.any fun e => Region.binds .any e && e.on == j
  | none => false

def opOk (ops : Array Oper) (n : Nat) (i : Nat) (o : Oper) (D : List (Nat × Tmp)) : Bool :=
  (match o.dst with
    | some d => d < n && (List.range ops.size).all fun j => j == i || dstOf ops j != some d
    | none => true) &&
  (match o.op with | .select .. => false | _ => true) &&
  (D.all fun p => waits ops i p.1 && dstOf ops p.1 == some p.2) &&
  (o.after.all fun e => !Region.binds .any e || e.on < i) &&
  (o.looksAt ops).all fun s => (List.range ops.size).all fun j => dstOf ops j != some s || (D.any fun p => p.1 == j) || j == i || waits ops j i

/-- E lists every slot that is written, with the number of its operation. -/
def endOk (ops : Array Oper) (E : List (Nat × Tmp)) : Bool :=
  (E.all fun p => dstOf ops p.1 == some p.2) && (List.range ops.size).all fun j => match dstOf ops j with | some _ => E.any fun p => p.1 == j | none => true

def opsOk (ops : Array Oper) (n : Nat) : Nat → List Oper → List (List (Nat × Tmp)) → Bool
  | _, [], _ => true
  | i, o :: os, D => opOk ops n i o (D.headD []) && opsOk ops n (i + 1) os D.tail

theorem opsOk_get {ops : Array Oper} {n : Nat} : ∀ {l : List Oper} {k : Nat} {D : List (List (Nat × Tmp))}, opsOk ops n k l D = true →
    ∀ i o, l[i]? = some o → opOk ops n (k + i) o (D.getD i []) = true
  | [], _, _, _, _, _, h => by simp at h
  | o :: os, k, D, hb, i, o', h => by
    simp only [opsOk, Bool.and_eq_true] at hb
    cases i with
    | zero => simp at h; subst h; cases D <;> simpa using hb.1
    | succ i =>
      have := opsOk_get hb.2 i o' (by simpa using h)
      cases D <;> simpa [Nat.add_assoc, Nat.add_comm 1 i] using this

theorem Obs_get {ops : Array Oper} {F : Nat → Value → World → Prop} {a0 : Act} {w0 : World} : ∀ {l : List Oper} {k : Nat} {D : List (List (Nat × Tmp))}, Obs P ops F a0 w0 k l D →
    ∀ i o, l[i]? = some o → Ob P ops F a0 w0 (k + i) o (D.getD i [])
  | [], _, _, _, _, _, h => by simp at h
  | o :: os, k, D, hb, i, o', h => by
    simp only [Obs] at hb
    cases i with
    | zero => simp at h; subst h; cases D <;> simpa using hb.1
    | succ i =>
      have := Obs_get hb.2 i o' (by simpa using h)
      cases D <;> simpa [Nat.add_assoc, Nat.add_comm 1 i] using this

theorem put_size (a : Act) (d : Option Tmp) (v : Value) : (a.put d v).tmps.size = a.tmps.size := by cases d <;> simp [Act.put]
theorem put_defers (a : Act) (d : Option Tmp) (v : Value) : (a.put d v).defers = a.defers := by cases d <;> rfl
theorem put_getD_ne (a : Act) {d : Option Tmp} {v : Value} {s : Nat} (h : d ≠ some s) : (a.put d v).tmps.getD s undef = a.tmps.getD s undef := by
  cases d with
  | none => rfl
  | some d => have : d ≠ s := fun e => h (by rw [e]); simp [Act.put, Array.getElem?_setIfInBounds_ne this]
theorem put_getD_eq (a : Act) {s : Nat} {v : Value} (h : s < a.tmps.size) : (a.put (some s) v).tmps.getD s undef = v := by
  simp [Act.put, h]

theorem tmps_ext {a b : Act} (hs : a.tmps.size = b.tmps.size) {s : Nat} (h : a.tmps.getD s undef = b.tmps.getD s undef) : a.tmps[s]? = b.tmps[s]? := by
  by_cases hl : s < a.tmps.size
  · have hl' : s < b.tmps.size := hs ▸ hl
    simp [hl, hl'] at h ⊢; exact h
  · have hl' : ¬ s < b.tmps.size := hs ▸ hl
    rw [Array.getElem?_eq_none (by omega), Array.getElem?_eq_none (by omega)]

/-- What the chain gives at the values that stand in 'a'. -/
theorem depsThen_at {F : Nat → Value → World → Prop} {w : World} (a : Act) (k : Act → Prop) : ∀ (D : List (Nat × Tmp)) (b : Act),
    b.tmps.size = a.tmps.size → (∀ p ∈ D, F p.1 (a.tmps.getD p.2 undef) w) → depsThen F w D b k →
    ∃ c, k c ∧ c.tmps.size = a.tmps.size ∧ c.defers = b.defers ∧ ∀ s, c.tmps.getD s undef = if (∃ p ∈ D, p.2 = s) then a.tmps.getD s undef else b.tmps.getD s undef
  | [], b, hs, _, h => ⟨b, h, hs, rfl, fun s => by simp⟩
  | p :: js, b, hs, hF, h => by
    obtain ⟨c, hk, hc1, hc2, hc3⟩ := depsThen_at a k js _ (by rw [put_size]; exact hs) (fun j hj => hF j (List.mem_cons_of_mem _ hj)) (h _ (hF p (List.mem_cons_self)))
    refine ⟨c, hk, hc1, hc2.trans (put_defers _ _ _), fun s => ?_⟩
    rw [hc3]
    by_cases h1 : ∃ j' ∈ js, j'.2 = s
    · rw [if_pos h1, if_pos]
      obtain ⟨j', hj', e⟩ := h1
      exact ⟨j', List.mem_cons_of_mem _ hj', e⟩
    · rw [if_neg h1]
      by_cases h2 : p.2 = s
      · rw [if_pos ⟨p, List.mem_cons_self, h2⟩, ← h2]
        by_cases hl : p.2 < b.tmps.size
        · rw [put_getD_eq _ hl]
        · have hl' : ¬ p.2 < a.tmps.size := hs ▸ hl
          simp [Act.put, hl, hl']
      · rw [if_neg, put_getD_ne _ (fun e => h2 (Option.some.inj e))]
        rintro ⟨j', hj', e⟩
        rcases List.mem_cons.1 hj' with rfl | hj'
        · exact h2 e
        · exact h1 ⟨j', hj', e⟩

structure Inv (ops : Array Oper) (F : Nat → Value → World → Prop) (a0 : Act) (w0 : World) (listed : Array Bool) (a : Act) (w : World) : Prop where
  size : listed.size = ops.size
  ts : a.tmps.size = a0.tmps.size
  df : a.defers = a0.defers
  old : ∀ s, (∀ j, dstOf ops j = some s → listed.getD j false = false) → a.tmps.getD s undef = a0.tmps.getD s undef
  fact : ∀ j, j < ops.size → listed.getD j false = true → F j (match dstOf ops j with | some d => a.tmps.getD d undef | none => undef) w
  down : ∀ j, listed.getD j false = true → ∀ i, waits ops j i = true → listed.getD i false = true
  ext : Ext w0 w

theorem waits_of_ready {ops : Array Oper} {listed : Array Bool} {i : Nat} (h : i ∈ Region.ready .any ops listed) : ∀ j, waits ops i j = true → listed.getD j false = true := by
  intro j hj
  obtain ⟨_, o, ho, hall⟩ := mem_ready.1 h
  simp only [waits, ho] at hj
  obtain ⟨e, he, hb⟩ := Array.any_eq_true'.1 hj
  simp at hb
  rw [← hb.2]
  exact hall e he hb.1

theorem region_any {ops : Array Oper} {F : Nat → Value → World → Prop} {a0 : Act} {w0 : World} {D : List (List (Nat × Tmp))} {E : List (Nat × Tmp)} {Q : Exit → Act → World → Prop}
    (hok : opsOk ops a0.tmps.size 0 ops.toList D = true) (hE : endOk ops E = true)
    (hst : ∀ i v w w', Ext w w' → F i v w → F i v w')
    (hob : Obs P ops F a0 w0 0 ops.toList D)
    (hend : ∀ w, Ext w0 w → depsThen F w E a0 (fun a => Q .normal a w)) :
    ∀ (fuel : Nat) (listed : Array Bool) (a : Act) (w : World), listed.count false = fuel → Inv ops F a0 w0 listed a w → wpAny P .any ops Q fuel listed a w := by
  have hall : ∀ {i o}, ops[i]? = some o → opOk ops a0.tmps.size i o (D.getD i []) = true := fun {i o} h => by
    have := opsOk_get hok i o (by simpa using h); simpa using this
  have hobs : ∀ {i o}, ops[i]? = some o → Ob P ops F a0 w0 i o (D.getD i []) := fun {i o} h => by
    have := Obs_get hob i o (by simpa using h); simpa using this
  -- all that are listed: the end
  have fin : ∀ (listed : Array Bool) (a : Act) (w : World), (∀ j, j < ops.size → listed.getD j false = true) → Inv ops F a0 w0 listed a w → Q .normal a w := by
    intro listed a w hl hI
    simp only [endOk, Bool.and_eq_true] at hE
    have hdl : ∀ {j d}, dstOf ops j = some d → j < ops.size := fun {j d} hj => by
      unfold dstOf at hj
      rcases Nat.lt_or_ge j ops.size with h' | h'
      · exact h'
      · rw [Array.getElem?_eq_none h'] at hj; cases hj
    obtain ⟨c, hk, hc1, hc2, hc3⟩ := depsThen_at a _ E a0 hI.ts.symm (fun p hp => by
      have hd : dstOf ops p.1 = some p.2 := by simpa using List.all_eq_true.1 hE.1 p hp
      have := hI.fact p.1 (hdl hd) (hl p.1 (hdl hd))
      simp only [hd] at this
      exact this) (hend w hI.ext)
    have : c = a := by
      obtain ⟨ct, cd⟩ := c
      obtain ⟨at', ad⟩ := a
      have e2 : cd = ad := hc2.trans hI.df.symm
      have e1 : ct = at' := by
        apply Array.ext_getElem?
        intro s
        refine tmps_ext (a := ⟨ct, cd⟩) (b := ⟨at', ad⟩) hc1 ?_
        rw [hc3]
        split
        · rfl
        · rename_i hn
          refine (hI.old s fun j hj => ?_).symm
          exfalso
          have h2 := List.all_eq_true.1 hE.2 j (List.mem_range.2 (hdl hj))
          simp only [hj, List.any_eq_true, beq_iff_eq] at h2
          obtain ⟨p, hp, hpj⟩ := h2
          have hd : dstOf ops p.1 = some p.2 := by simpa using List.all_eq_true.1 hE.1 p hp
          rw [hpj, hj] at hd
          exact hn ⟨p, hp, (Option.some.inj hd).symm⟩
      rw [e1, e2]
    rw [← this]; exact hk
  -- nothing ready: all are listed
  have noReady : ∀ (listed : Array Bool), listed.size = ops.size → Region.ready .any ops listed = [] → ∀ j, j < ops.size → listed.getD j false = true := by
    intro listed hs hr j
    induction j using Nat.strongRecOn with
    | _ j ih =>
      intro hj
      cases hlj : listed.getD j false with
      | true => rfl
      | false =>
        exfalso
        have ho : ops[j]? = some ops[j] := by simp [hj]
        have hmem : j ∈ Region.ready .any ops listed := by
          refine mem_ready.2 ⟨?_, ops[j], ho, fun e he hb => ?_⟩
          · have : j < listed.size := hs ▸ hj
            simp [this] at hlj ⊢; exact hlj
          · have h1 := hall ho
            simp only [opOk, Bool.and_eq_true] at h1
            have h2 := (Array.all_eq_true_iff_forall_mem.1 h1.1.2) e he
            simp [hb] at h2
            exact ih e.on h2 (by omega)
        rw [hr] at hmem
        cases hmem
  intro fuel
  induction fuel with
  | zero =>
    intro listed a w hc hI
    have hl : ∀ j, j < ops.size → listed.getD j false = true := by
      intro j hj
      have hj' : j < listed.size := hI.size ▸ hj
      have := Array.count_eq_zero.1 hc
      have h2 : listed[j] ≠ false := fun e => this (e ▸ Array.getElem_mem hj')
      simp [hj']; simpa using h2
    refine ⟨?_, fin listed a w hl hI⟩
    cases hr : Region.ready .any ops listed with
    | nil => rfl
    | cons i rs =>
      have hm : i ∈ Region.ready .any ops listed := by rw [hr]; exact List.mem_cons_self
      obtain ⟨h0, o, ho, _⟩ := mem_ready.1 hm
      have hi : i < ops.size := (Array.getElem?_eq_some_iff.1 ho).1
      have h1 := hl i hi
      have hi' : i < listed.size := hI.size ▸ hi
      simp [hi'] at h0 h1
      rw [h0] at h1; cases h1
  | succ fuel ih =>
    intro listed a w hc hI
    refine ⟨fun hr => fin listed a w (noReady listed hI.size hr) hI, fun i hi => ?_⟩
    obtain ⟨h0, o, ho, hafter⟩ := mem_ready.1 hi
    have hil : i < ops.size := (Array.getElem?_eq_some_iff.1 ho).1
    have hil' : i < listed.size := hI.size ▸ hil
    have h0' : listed.getD i false = false := by simp [hil'] at h0 ⊢; exact h0
    have hopk := hall ho
    simp only [opOk, Bool.and_eq_true] at hopk
    obtain ⟨⟨⟨⟨hk1, hk2⟩, hk3⟩, hk4⟩, hk5⟩ := hopk
    have hdep2 : ∀ p ∈ D.getD i [], waits ops i p.1 = true ∧ dstOf ops p.1 = some p.2 := fun p hp => by
      have := List.all_eq_true.1 hk3 p hp
      simpa using this
    have hdeps : ∀ p ∈ D.getD i [], listed.getD p.1 false = true := fun p hp => waits_of_ready hi p.1 (hdep2 p hp).1
    have hsel : ∀ cs b, o.op ≠ .select cs b := by intro cs b e; rw [e] at hk2; cases hk2
    have hjlt : ∀ j, listed.getD j false = true → j < ops.size := fun j hj => by
      rcases Nat.lt_or_ge j listed.size with h' | h'
      · exact hI.size ▸ h'
      · simp [Array.getElem?_eq_none h'] at hj
    obtain ⟨c, hk, hc1, hc2, hc3⟩ := depsThen_at a _ (D.getD i []) a0 hI.ts.symm (fun p hp => by
      have := hI.fact p.1 (hjlt p.1 (hdeps p hp)) (hdeps p hp)
      simp only [(hdep2 p hp).2] at this
      exact this) (hobs ho w hI.ext)
    -- what the operation looks at stands in 'c' as in 'a'
    have same : ∀ s ∈ o.looksAt ops, c.tmps[s]? = a.tmps[s]? := by
      intro s hs
      refine tmps_ext hc1 ?_
      rw [hc3]
      split
      · rfl
      · rename_i hn
        refine (hI.old s fun j hj => ?_).symm
        have hjl : j < ops.size := by
          unfold dstOf at hj
          rcases Nat.lt_or_ge j ops.size with h' | h'
          · exact h'
          · rw [Array.getElem?_eq_none h'] at hj; cases hj
        have h1 := List.all_eq_true.1 (List.all_eq_true.1 hk5 s hs) j (List.mem_range.2 hjl)
        simp only [Bool.or_eq_true, bne_iff_ne, ne_eq, beq_iff_eq] at h1
        rcases h1 with ((h1 | h1) | h1) | h1
        · exact absurd hj h1
        · exfalso
          rw [List.any_eq_true] at h1
          obtain ⟨p, hp, hpj⟩ := h1
          have hd := (hdep2 p hp).2
          rw [eq_of_beq hpj, hj] at hd
          exact hn ⟨p, hp, (Option.some.inj hd).symm⟩
        · rw [h1]; exact h0'
        · cases hlj : listed.getD j false with
          | false => rfl
          | true => have := hI.down j hlj i h1; rw [h0'] at this; cases this
    have heval : execOp c.eval o = execOp a.eval o := execOp_congr o hsel fun x hx => by
      cases x with
      | tmp t =>
        have := same t (List.mem_append_left _ (List.mem_filterMap.2 ⟨.tmp t, by simpa using hx, rfl⟩))
        simp [Act.eval, this]
      | _ => rfl
    have hwant : Region.wanted o (yielded ops c.tmps) = Region.wanted o (yielded ops a.tmps) := by
      unfold Region.wanted
      cases hg : o.guard with
      | none => rfl
      | some gw =>
        obtain ⟨g, want⟩ := gw
        have hy : yielded ops c.tmps g = yielded ops a.tmps g := by
          unfold yielded
          cases ht : (ops[g]?).bind (·.dst) with
          | none => rfl
          | some t =>
            have := same t (by simp [Oper.looksAt, hg, ht])
            simp [this]
        simp only [hy]
    -- the invariant behind the operation
    have next : ∀ v w', Ext w w' → F i (match o.dst with | some d => (c.put o.dst v).tmps.getD d undef | none => undef) w' →
        wpAny P .any ops Q fuel (listed.setIfInBounds i true) (a.put o.dst v) w' := by
      intro v w' hx hF
      have hdst : dstOf ops i = o.dst := by simp [dstOf, ho]
      refine ih _ _ _ ?_ ⟨by simpa using hI.size, by rw [put_size]; exact hI.ts, by rw [put_defers]; exact hI.df, ?_, ?_, ?_, hI.ext.trans hx⟩
      · have hset : listed.setIfInBounds i true = listed.set i true hil' := by simp [Array.setIfInBounds, hil']
        rw [hset, Array.count_set]
        have : listed[i] = false := by simpa [hil'] using h0'
        simp [this]; omega
      · intro s hs
        have hne : o.dst ≠ some s := fun e => by
          have := hs i (hdst.trans e)
          simp [hil'] at this
        rw [put_getD_ne _ hne]
        refine hI.old s fun j hj => ?_
        by_cases hji : i = j
        · rw [← hji]; exact h0'
        · have := hs j hj
          rwa [getD_set_ne false hji] at this
      · intro j hj hlj
        by_cases hji : i = j
        · subst hji
          rw [hdst]
          cases hd : o.dst with
          | none => simp only [hd] at hF; exact hF
          | some d =>
            simp only [hd] at hF hk1
            simp only [Bool.and_eq_true, decide_eq_true_eq] at hk1
            rw [put_getD_eq _ (by rw [hc1, hI.ts]; exact hk1.1)] at hF
            show F i ((a.put (some d) v).tmps.getD d undef) w'
            rw [put_getD_eq _ (by rw [hI.ts]; exact hk1.1)]
            exact hF
        · rw [getD_set_ne false hji] at hlj
          have hfj := hst _ _ _ _ hx (hI.fact j hj hlj)
          cases hdj : dstOf ops j with
          | none => simp only [hdj] at hfj; exact hfj
          | some d =>
            simp only [hdj] at hfj
            have hne : o.dst ≠ some d := fun e => by
              rw [e] at hk1
              simp only [Bool.and_eq_true] at hk1
              have := List.all_eq_true.1 hk1.2 j (List.mem_range.2 hj)
              simp [hdj, Ne.symm hji] at this
            show F j ((a.put o.dst v).tmps.getD d undef) w'
            rw [put_getD_ne _ hne]
            exact hfj
      · intro j hlj k hw
        by_cases hji : i = j
        · subst hji; exact getD_set_true (waits_of_ready hi k hw)
        · rw [getD_set_ne false hji] at hlj
          exact getD_set_true (hI.down j hlj k hw)
    -- the operation itself
    unfold wpOp
    rw [ho]
    simp only []
    rw [← hwant]
    simp only [wpList] at hk
    split
    · rename_i hw
      rw [if_pos hw] at hk
      rcases hk with hk | ⟨_, x, y, hxy⟩
      · refine .inl ?_
        unfold Oper.wp at hk ⊢
        rw [heval] at hk
        generalize (execOp a.eval o).run P w = r at *
        cases r with
        | ok n w' =>
          cases n <;> simp only [Oper.upon] at hk ⊢
          case value u => exact next u w' hk.2.1 hk.2.2.2
          case skip => exact next undef w' hk.2.1 hk.2.2.2
          case defer d =>
            have := hk.2.2.1
            rw [put_defers] at this
            exact absurd this (by simp)
          case enter f args =>
            refine Calls.mono hk fun e w'' he => ?_
            cases e with
            | returned u => exact next u w'' he.2.1 he.2.2.2
            | panicked c => exact absurd he.1 (by simp)
            | outgrown => obtain ⟨_, _, h⟩ := he; exact absurd h.1 (by simp)
          case row row args => exact Rows.mono hk fun u w'' he => next u w'' he.2.1 he.2.2.2
        | halt x w' =>
          cases x <;> simp only [Oper.upon] at hk ⊢
          case panic u => exact absurd hk.1 (by simp)
      · exact absurd hxy.1 (by simp)
    · rename_i hw
      rw [if_neg hw] at hk
      exact next undef w hk.2.1 hk.2.2.2

/-- A fact on a value that stays true while memory only grows. -/
structure Fact where
  p : Value → World → Prop
  st : ∀ v w w', Ext w w' → p v w → p v w'

def Fact.any : Fact := ⟨fun _ _ => True, fun _ _ _ _ h => h⟩
def Fact.eq (u : Value) : Fact := ⟨fun v _ => v = u, fun _ _ _ _ h => h⟩
def Fact.cell (u : Value) : Fact := ⟨fun v w => ∃ p, v = .pointer (some p) ∧ p.spot = none ∧ w.cell? p = some u, fun _ _ _ hx ⟨p, h1, h2, h3⟩ => ⟨p, h1, h2, hx.cell h3⟩⟩

/-- The facts of the operations in order. -/
def factAt (Fs : List Fact) (i : Nat) : Value → World → Prop := (Fs.getD i Fact.any).p

/-- A REGION THAT DRAWS ITS ORDER: each operation is shown once, over the facts of those that it waits for (D: for each operation their numbers and slots; E: of all). -/
theorem wp_region_facts {id : Nat} {l : List Oper} (Fs : List Fact) (D : List (List (Nat × Tmp))) (E : List (Nat × Tmp)) {a0 : Act} {w0 : World} {Q : Exit → Act → World → Prop}
    (hm : P.follows .mixedOrders = true)
    (hok : (opsOk l.toArray a0.tmps.size 0 l D && endOk l.toArray E) = true)
    (hob : Obs P l.toArray (factAt Fs) a0 w0 0 l D)
    (hend : ∀ w, Ext w0 w → depsThen (factAt Fs) w E a0 (fun a => Q .normal a w)) :
    (Code.region id l.toArray true).wp P Q a0 w0 := by
  simp only [Bool.and_eq_true] at hok
  refine wp_region_any hm (region_any (F := factAt Fs) (D := D) (E := E) (w0 := w0) (by simpa using hok.1) hok.2 (fun i v w w' hx h => (Fs.getD i Fact.any).st v w w' hx h) (by simpa using hob) hend _ _ _ _ ?_ ?_)
  · simp
  · have hno : ∀ j, (Array.replicate l.toArray.size false).getD j false = false := fun j => by
      simp only [Array.getD_eq_getD_getElem?, Array.getElem?_replicate]; split <;> rfl
    exact ⟨by simp, rfl, rfl, fun _ _ => rfl, fun j _ h => (by rw [hno] at h; cases h), fun j h => (by rw [hno] at h; cases h), (Ext.refl w0).drew⟩

end
end Go.Proofs.YtlhbpflcffjhmaaGreat

namespace Go.Proofs.YtlhbpflcffjhmaaGreat
open Go.RowKit

/-- The slice v has n elements of 'size' cells each, the cells hold xs. -/
def Row (w : World) (size : Nat) (v : Value) (n : Nat) (xs : List Value) : Prop :=
  xs.length = n * size ∧ ∃ a cap, v = .slice a n cap ∧ n ≤ cap ∧ cap ≤ maxLen ∧ (a = none → cap = 0) ∧ (∀ p, a = some p → 0 < cap → p.spot = none) ∧
    ∀ j u, xs[j]? = some u → ∃ p, a = some p ∧ w.cell? ⟨p.block, p.off + j, none⟩ = some u

theorem Row.ext {w w' : World} {size n : Nat} {v : Value} {xs : List Value} (h : Row w size v n xs) (hx : Ext w w') : Row w' size v n xs := by
  obtain ⟨h1, a, cap, h2, h3, h4, h5, h6, h7⟩ := h
  exact ⟨h1, a, cap, h2, h3, h4, h5, h6, fun j u hj => let ⟨p, hp, hc⟩ := h7 j u hj; ⟨p, hp, hx.cell hc⟩⟩

theorem Row.nil (w : World) (size : Nat) : Row w size (.slice none 0 0) 0 [] :=
  ⟨by simp, none, 0, rfl, Nat.le_refl _, by simp [maxLen], fun _ => rfl, by simp, by simp⟩

/-- What the call owns can be read. -/
theorem Row.of_own {w : World} {base : Nat} {e : TypeId} {size n : Nat} {v : Value} {xs : List Value} (h : w.ownsRow base e size v n xs) : Row w size v n xs := by
  refine ⟨h.1, ?_⟩
  rcases h.2 with ⟨rfl, rfl⟩ | ⟨g, cap, cur, rfl, _, hg, hn, hc, hs, ht⟩
  · have : xs = [] := List.eq_nil_of_length_eq_zero (by simpa using h.1)
    subst this
    exact ⟨none, 0, rfl, Nat.le_refl _, by simp [maxLen], fun _ => rfl, by simp, by simp⟩
  · refine ⟨some ⟨g, 0, none⟩, cap, rfl, hn, hc, by simp, by simp, fun j u hj => ⟨_, rfl, ?_⟩⟩
    simp only [Nat.zero_add]
    rw [cell_of_row w g j cur e (0, 0) hg]
    rw [← ht, List.getElem?_take] at hj
    split at hj
    · simpa using hj
    · cases hj

theorem Row.len_le {w : World} {size n : Nat} {v : Value} {xs : List Value} (h : Row w size v n xs) : n ≤ maxLen := by
  obtain ⟨_, _, _, _, h3, h4, _⟩ := h; omega

section
variable {P : Program}

theorem wpList_val {ops : Array Oper} {Q : Exit → Act → World → Prop} {a : Act} {w w' : World} {rest : List Oper} {o : Oper} {v : Value}
    (hw : Region.wanted o (yielded ops a.tmps) = true) (hr : (execOp a.eval o).run P w = .ok (.value v) w')
    (h : wpList P ops Q rest (a.put o.dst v) w') : wpList P ops Q (o :: rest) a w := by
  simp only [wpList, hw, if_true]
  refine .inl ?_
  unfold Oper.wp
  rw [hr]
  exact h

theorem wpList_skipped {ops : Array Oper} {Q : Exit → Act → World → Prop} {a : Act} {w : World} {rest : List Oper} {o : Oper}
    (hw : Region.wanted o (yielded ops a.tmps) = false) (h : wpList P ops Q rest (a.put o.dst undef) w) : wpList P ops Q (o :: rest) a w := by
  simp only [wpList, hw]; exact h

/-- A bound of a cut: absent, or a number. -/
def BoundIs (a : Act) (x : Option Operand) (d i : Nat) : Prop :=
  match x with
  | none => i = d
  | some y => ∃ k n, a.eval y = .int k n ∧ 0 ≤ n ∧ n.toNat = i

theorem run_sliceBound_nat (w : World) (k : IntKind) (n : Int) (y i : Nat) (code : BoundsCode) (h0 : 0 ≤ n) (hn : n.toNat = i) (hy : i ≤ y) :
    (Instr.sliceBound (.int k n) y code).run P w = .ok i w := by
  rw [run_sliceBound w k n y code h0 (by omega), hn]

theorem run_sliceBounds_nat (w : World) (a : Act) (lo hi : Option Operand) {len cap i j : Nat} (hlo : BoundIs a lo 0 i) (hhi : BoundIs a hi len j) (hij : i ≤ j) (hj : j ≤ len) (hc : len ≤ cap) :
    (Instr.sliceBounds true len cap (lo.map a.eval) (hi.map a.eval) none).run P w = .ok (i, j, cap) w := by
  cases hi with
  | none =>
    simp only [BoundIs] at hhi
    subst hhi
    cases lo with
    | none => simp only [BoundIs] at hlo; subst hlo; simp [Instr.sliceBounds]
    | some y =>
      obtain ⟨k, n, he, h0, hn⟩ := hlo
      simp [Instr.sliceBounds, he, run_sliceBound_nat w k n j i _ h0 hn hij]
  | some x =>
    obtain ⟨k', n', he', h0', hn'⟩ := hhi
    cases lo with
    | none => simp only [BoundIs] at hlo; subst hlo; simp [Instr.sliceBounds, he', run_sliceBound_nat w k' n' cap j _ h0' hn' (by omega)]
    | some y =>
      obtain ⟨k, n, he, h0, hn⟩ := hlo
      simp [Instr.sliceBounds, he, he', run_sliceBound_nat w k n j i _ h0 hn hij, run_sliceBound_nat w k' n' cap j _ h0' hn' (by omega)]

/-- 'x[lo:hi]' of a slice, within its length. -/
theorem wpList_cut {ops : Array Oper} {Q : Exit → Act → World → Prop} {a : Act} {w : World} {rest : List Oper} {o : Oper}
    (t e : TypeId) (x : Operand) (lo hi : Option Operand) (size n i j : Nat) (xs : List Value)
    (ho : o.op = .slice t x lo hi none) (ht : P.underlying t = some (.slice e)) (hs : (P.info? e).map (·.size) = some size)
    (hw : Region.wanted o (yielded ops a.tmps) = true) (hx : Row w size (a.eval x) n xs)
    (hlo : BoundIs a lo 0 i) (hhi : BoundIs a hi n j) (hij : i ≤ j) (hj : j ≤ n)
    (h : ∀ v, Row w size v (j - i) ((xs.take (j * size)).drop (i * size)) → wpList P ops Q rest (a.put o.dst v) w) : wpList P ops Q (o :: rest) a w := by
  obtain ⟨hl, ad, cap, hv, hc, hm, hnil, hspot, hcell⟩ := hx
  have hi' : ∃ q, P.info? e = some q ∧ q.size = size := by
    cases hq : P.info? e with
    | none => rw [hq] at hs; cases hs
    | some q => rw [hq] at hs; exact ⟨q, rfl, by simpa using hs⟩
  obtain ⟨q, hq, hqs⟩ := hi'
  have hr : (execOp a.eval o).run P w = .ok (.value (.slice (if cap = i then ad else ad.map (·.add (i * size))) (j - i) (cap - i))) w := by
    simp [execOp, ho, Instr.sliceAt, run_underlying ht, Instr.slice, hv, run_sliceBounds_nat w a lo hi hlo hhi hij hj hc, sizeOf, typeInfo, hq, hqs]
  refine wpList_val hw hr (h _ ?_)
  refine ⟨?_, _, _, rfl, by omega, by omega, ?_, ?_, ?_⟩
  · rw [List.length_drop, List.length_take, hl, Nat.sub_mul, Nat.min_eq_left (Nat.mul_le_mul_right _ hj)]
  · intro he
    split at he
    · have := hnil he; omega
    · cases ad with
      | none => have := hnil rfl; omega
      | some p => simp at he
  · intro p hp h0
    split at hp
    · exact hspot p hp (by omega)
    · cases ad with
      | none => simp at hp
      | some p' =>
        simp at hp
        rw [← hp]
        unfold Addr.add
        split
        · exact hspot p' rfl (by omega)
        · rfl
  · intro k u hk
    rw [List.getElem?_drop, List.getElem?_take] at hk
    split at hk
    · rename_i hlt
      obtain ⟨p, hp, hcl⟩ := hcell _ _ hk
      have hne : ¬ cap = i := by
        intro he
        have : j = i := by omega
        subst this
        omega
      rw [if_neg hne, hp]
      refine ⟨p.add (i * size), rfl, ?_⟩
      have hps := hspot p hp (by omega)
      have e1 : (p.add (i * size)).block = p.block := by unfold Addr.add; split <;> rfl
      have e2 : (p.add (i * size)).off = p.off + i * size := by
        unfold Addr.add; split
        · simp_all
        · rfl
      rw [e1, e2, Nat.add_assoc]; exact hcl
    · cases hk

/-- The address of an element, and what it holds. -/
def CellIs (w : World) (v u : Value) : Prop := ∃ p, v = .pointer (some p) ∧ p.spot = none ∧ w.cell? p = some u
theorem CellIs.ext {w w' : World} {v u : Value} (h : CellIs w v u) (hx : Ext w w') : CellIs w' v u := by
  obtain ⟨p, h1, h2, h3⟩ := h; exact ⟨p, h1, h2, hx.cell h3⟩

theorem wpList_indexAddr {ops : Array Oper} {Q : Exit → Act → World → Prop} {a : Act} {w : World} {rest : List Oper} {o : Oper}
    (t e : TypeId) (x y : Operand) (n i : Nat) (k : IntKind) (xs : List Value)
    (ho : o.op = .indexAddr t x y) (ht : P.underlying t = some (.slice e)) (hs : (P.info? e).map (·.size) = some 1)
    (hw : Region.wanted o (yielded ops a.tmps) = true) (hx : Row w 1 (a.eval x) n xs) (hy : a.eval y = .int k i) (hi : i < n)
    (h : ∀ v u, xs[i]? = some u → CellIs w v u → wpList P ops Q rest (a.put o.dst v) w) : wpList P ops Q (o :: rest) a w := by
  obtain ⟨hl, ad, cap, hv, hc, hm, hnil, hspot, hcell⟩ := hx
  have hi' : ∃ q, P.info? e = some q ∧ q.size = 1 := by
    cases hq : P.info? e with
    | none => rw [hq] at hs; cases hs
    | some q => rw [hq] at hs; exact ⟨q, rfl, by simpa using hs⟩
  obtain ⟨q, hq, hqs⟩ := hi'
  have hil : i < xs.length := by omega
  obtain ⟨p, rfl, hcl⟩ := hcell i xs[i] (by simp [hil])
  have hr : (execOp a.eval o).run P w = .ok (.value (.pointer (some (p.add i)))) w := by
    have h0 : (0 : Int) ≤ (i : Int) ∧ (i : Int) < (n : Int) := by omega
    simp [execOp, ho, Instr.indexAt, run_underlying ht, hv, hy, asIntOf, hi, sizeOf, typeInfo, hq, hqs]
  refine wpList_val hw hr (h _ xs[i] (by simp [hil]) ⟨p.add i, rfl, ?_, ?_⟩)
  · unfold Addr.add; split
    · exact hspot p rfl (by omega)
    · rfl
  · have hps := hspot p rfl (by omega)
    have : p.add i = ⟨p.block, p.off + i, none⟩ := by
      obtain ⟨pb, po, ps⟩ := p
      simp only at hps; subst hps
      unfold Addr.add; split <;> simp_all
    rw [this]; exact hcl

def Bytes (w : World) (v : Value) (l : List UInt8) : Prop := Row w 1 v l.length (l.map fun b => Value.int .u8 (b.toNat : Int))

theorem Bytes.ext {w w' : World} {v : Value} {l : List UInt8} (h : Bytes w v l) (hx : Ext w w') : Bytes w' v l := Row.ext h hx
theorem Bytes.nil (w : World) : Bytes w (.slice none 0 0) [] := Row.nil w 1
theorem Bytes.shape {w : World} {v : Value} {l : List UInt8} (h : Bytes w v l) : ∃ a cap, v = .slice a l.length cap ∧ l.length ≤ cap ∧ cap ≤ maxLen := by
  obtain ⟨_, a, cap, h1, h2, h3, _⟩ := h; exact ⟨a, cap, h1, h2, h3⟩

def strOf (l : List UInt8) : ByteArray := ⟨l.toArray⟩
theorem strOf_inj {l m : List UInt8} : strOf l = strOf m ↔ l = m := by
  constructor
  · intro h; have := congrArg (fun b : ByteArray => b.data.toList) h; simpa [strOf] using this
  · rintro rfl; rfl

theorem ba_len (b : ByteArray) : b.data.toList.length = b.size := by cases b; exact Array.length_toList
theorem toList_loop (b : ByteArray) : ∀ (n i : Nat) (acc : List UInt8), b.size - i = n → ByteArray.toList.loop b i acc = acc.reverse ++ b.data.toList.drop i
  | 0, i, acc, h => by
    unfold ByteArray.toList.loop
    have := ba_len b
    rw [if_neg (by omega), List.drop_eq_nil_of_le (by omega), List.append_nil]
  | n + 1, i, acc, h => by
    unfold ByteArray.toList.loop
    have hi : i < b.size := by omega
    have hl : i < b.data.toList.length := by rw [ba_len]; exact hi
    have hl2 : i < b.data.size := by rw [← Array.length_toList]; exact hl
    rw [if_pos hi, toList_loop b n (i + 1) _ (by omega), List.reverse_cons, List.append_assoc, List.drop_eq_getElem_cons hl]
    congr 2
    cases b with | mk d =>
    show [d[i]!] ++ _ = _
    simp only [] at hl2
    rw [getElem!_pos d i hl2]; rfl
theorem toList_data (b : ByteArray) : b.toList = b.data.toList := by
  rw [ByteArray.toList, toList_loop b _ 0 [] rfl]; rfl
@[go_sem] theorem strOf_toList (l : List UInt8) : (strOf l).toList = l := by rw [toList_data]; rfl

theorem run_bytes_str (w : World) (src dst e : TypeId) (hs : P.underlying src = some (.slice e)) (he : P.underlying e = some (.int .u8)) (hd : P.underlying dst = some .string)
    {v : Value} {l : List UInt8} (hv : Bytes w v l) : (convert src dst v).run P w = .ok (.string (strOf l)) w := by
  obtain ⟨hl, ad, cap, rfl, hc, hm, hnil, hspot, hcell⟩ := hv
  cases ad with
  | none =>
    have : cap = 0 := hnil rfl
    have hl0 : l = [] := List.eq_nil_of_length_eq_zero (by omega)
    subst hl0
    rw [run_convert_bytes_nil w src e hs he _ _ dst hd]
    rfl
  | some p =>
    by_cases hl0 : l = []
    · subst hl0
      rw [run_convert_bytes_string w src dst e _ _ _ hs he hd]
      rw [List.length_nil, run_bytesToString w p 0 cap [] (by simp [loadCells, loadCellsFrom])]
      rfl
    obtain ⟨pb, po, ps⟩ := p
    have hpos : 0 < l.length := List.length_pos_iff.2 hl0
    have := hspot _ rfl (by omega)
    simp only at this; subst this
    have hr := run_convert_bytes_arg (P := P) w src e hs he pb po l.length cap (l.map fun b => (b.toNat : Int)) (by simp) (fun i hi => by
      obtain ⟨p, hp, hcl⟩ := hcell i (.int .u8 (l[i].toNat : Int)) (by simp [hi])
      simp at hp; subst hp
      simp only at hcl
      rw [hcl]; simp [List.getD, hi]) dst hd
    rw [hr]
    congr 2
    simp only [strOfNums, strOf, List.map_map]
    congr 2
    conv => rhs; rw [← List.map_id l]
    apply List.map_congr_left
    intro b _
    simp

theorem wpList_str {ops : Array Oper} {Q : Exit → Act → World → Prop} {a : Act} {w : World} {rest : List Oper} {o : Oper}
    (src dst e : TypeId) (x : Operand) (l : List UInt8)
    (ho : o.op = .convert src dst x) (hs : P.underlying src = some (.slice e)) (he : P.underlying e = some (.int .u8)) (hd : P.underlying dst = some .string)
    (hw : Region.wanted o (yielded ops a.tmps) = true) (hx : Bytes w (a.eval x) l)
    (h : wpList P ops Q rest (a.put o.dst (.string (strOf l))) w) : wpList P ops Q (o :: rest) a w :=
  wpList_val hw (by simp [execOp, ho, run_bytes_str w src dst e hs he hd hx]) h

/-- 'append(s, x...)' behind memory of the call's own, any x that can be read. -/
theorem wpList_append_row {ops : Array Oper} {Q : Exit → Act → World → Prop} {a : Act} {w : World} {rest : List Oper} {o : Oper}
    (t e : TypeId) (s x : Operand) (ho : o.op = .call { callee := .builtin .append, args := #[s, x], argTypes := #[t, t] })
    (base : Nat) (z : Value) (size bytes : Nat) (ht : P.underlying t = some (.slice e)) (hi : (P.info? e).map (fun i => (i.zero, i.size, i.bytes)) = some (some z, size, bytes))
    (hzs : z.cells.size = size) (hsz : 0 < size)
    (hw : Region.wanted o (yielded ops a.tmps) = true)
    (v : Value) (n : Nat) (xs : List Value) (hs : a.eval s = v) (hown : w.ownsRow base e size v n xs)
    (m : Nat) (news : List Value) (hx : Row w size (a.eval x) m news) (h1 : ∀ u ∈ news, u.oneCell' = true)
    (hbytes : (n + m) * bytes ≤ 140737488355328) (h63 : n + m ≤ maxLen) (hbase : base ≤ w.heap.size)
    (h : ∀ v' w', w'.ownsRow base e size v' (n + m) (xs ++ news) → w.grownBy w' v.ownBlock → wpList P ops Q rest (a.put o.dst v') w') : wpList P ops Q (o :: rest) a w := by
  obtain ⟨i, hi1, hi2, hi3, hi4⟩ := info_parts hi
  obtain ⟨hl, ad, cap, hv, hc, hm, hnil, hspot, hcell⟩ := hx
  have hexec : ∀ r : Result Value, (Builtin.append_ #[t, t] o.type #[v, a.eval x]).run P w = r → (execOp a.eval o).run P w = r.andThen fun y w' => .ok (.value y) w' := by
    intro r hr
    simp only [execOp, ho, resolve, invoke, builtin, Sem.run_bind, Sem.run_pure, Result.andThen_ok, List.map_toArray, List.map_cons, List.map_nil, hs, hr]
  cases ad with
  | none =>
    have hc0 : cap = 0 := hnil rfl
    subst hc0
    have hm0 : m = 0 := by omega
    subst hm0
    have hn0 : news = [] := List.eq_nil_of_length_eq_zero (by simpa using hl)
    subst hn0
    have hr := run_append_owned_none (P := P) (w := w) base t o.type e i size ht hi1 v n xs hown
    rw [← hv] at hr
    refine wpList_val hw (hexec _ hr) ?_
    have := h v w (by simpa using hown) (World.grownBy.refl w _)
    exact this
  | some p =>
    obtain ⟨v', w', hr, ho', hg, _⟩ := run_append_own (P := P) w base t o.type e i z size bytes ht hi1 hi2 hi3 hi4 hzs hsz v n xs hown p m cap news hl (fun j u hj => by
      obtain ⟨p', hp', hcl⟩ := hcell j u hj
      simp at hp'; subst hp'
      have hps := hspot _ rfl (by
        have hjl : j < news.length := by
          rcases Nat.lt_or_ge j news.length with h' | h'
          · exact h'
          · rw [List.getElem?_eq_none h'] at hj; cases hj
        rcases Nat.eq_zero_or_pos m with h' | h'
        · subst h'; simp at hl; subst hl; simp at hjl
        · omega)
      have : p.add j = ⟨p.block, p.off + j, none⟩ := by
        obtain ⟨pb, po, ps⟩ := p
        simp only at hps; subst hps
        unfold Addr.add; split <;> simp_all
      rw [this]; exact hcl) h1 h63 hbytes hbase
    rw [← hv] at hr
    exact wpList_val hw (hexec _ hr) (h v' w' ho' hg)

/-- A whole array or struct is stored into a block of its size. -/
theorem wpList_store_whole {ops : Array Oper} {Q : Exit → Act → World → Prop} {a : Act} {w : World} {rest : List Oper} {o : Oper}
    (ty : TypeId) (x y : Operand) (ho : o.op = .store ty x y) (hw : Region.wanted o (yielded ops a.tmps) = true)
    (g : Nat) (hx : a.eval x = .pointer (some ⟨g, 0, none⟩)) (cs : Array Value) (hy : a.eval y = .agg cs) (c : Array Value) (t : TypeId)
    (hg : w.heap[g]? = some (.cells c t (0, 0))) (hsz : c.size = cs.size) (hi : (P.info? ty).map (·.size) = some cs.size) (h1 : ∀ v ∈ cs.toList, v.oneCell' = true)
    (h : wpList P ops Q rest (a.put o.dst undef) (w.setRow g cs)) : wpList P ops Q (o :: rest) a w := by
  have hst := run_storeCells_at P g 0 t cs.toList 0 c w hg (by simp [hsz]) h1
  have hlen : List.drop cs.size c.toList = [] := List.drop_eq_nil_of_le (by simp [hsz])
  simp [hlen] at hst
  have hr : (execOp a.eval o).run P w = .ok .skip (w.setRow g cs) := by
    cases hq : P.info? ty with
    | none => simp [hq] at hi
    | some i =>
      have hs : cs.size = i.size := by simp [hq] at hi; omega
      simp [execOp, ho, hx, hy, Instr.storeAt, Instr.sureAddr, storeVar, sizeOf, typeInfo, hq, Value.cells, hs, hst]
  simp only [wpList, hw, if_true]
  refine .inl ?_
  unfold Oper.wp
  rw [hr]
  exact h

theorem Ext.setRow {a w : World} (h : Ext a w) {g : Nat} (hg : a.heap.size ≤ g) (cs : Array Value) : Ext a (w.setRow g cs) :=
  Below.trans h ⟨rfl, rfl, rfl, by simp, fun k hk => setRow_other w g k cs (by omega)⟩
theorem Ext.setCell {a w : World} (h : Ext a w) {p : Addr} (hp : a.heap.size ≤ p.block) (u : Value) : Ext a (w.setCell p u) := Below.setCell h hp u

/-! The small operations of a region that draws -/
theorem ob_val {F : Value → World → Prop} {ops : Array Oper} {a : Act} {w w' : World} {o : Oper} {v : Value} {d : Nat}
    (hw : Region.wanted o (yielded ops a.tmps) = true) (hr : (execOp a.eval o).run P w = .ok (.value v) w') (hx : Ext w w') (hd : o.dst = some d) (hs : decide (d < a.tmps.size) = true) (hf : F v w') :
    wpList P ops (endQ F o a w) [o] a w := by
  refine wpList_val hw hr (wpList_nil ⟨rfl, hx, put_defers _ _ _, ?_⟩)
  rw [hd]
  show F ((a.put (some d) v).tmps.getD d undef) w'
  rw [put_getD_eq _ (of_decide_eq_true hs)]; exact hf
theorem ob_move {F : Value → World → Prop} {ops : Array Oper} {a : Act} {w : World} {o : Oper} {x : Operand} {d : Nat}
    (hw : Region.wanted o (yielded ops a.tmps) = true) (ho : o.op = .move x) (hd : o.dst = some d) (hs : decide (d < a.tmps.size) = true) (hf : F (a.eval x) w) :
    wpList P ops (endQ F o a w) [o] a w := ob_val hw (by simp [execOp, ho]) (Ext.refl w) hd hs hf
theorem ob_assign {F : Value → World → Prop} {ops : Array Oper} {a : Act} {w : World} {o : Oper} {x : Operand} {d : Nat}
    (hw : Region.wanted o (yielded ops a.tmps) = true) (ho : o.op = .assign x) (hd : o.dst = some d) (hs : decide (d < a.tmps.size) = true) (hf : F (a.eval x) w) :
    wpList P ops (endQ F o a w) [o] a w := ob_val hw (by simp [execOp, ho]) (Ext.refl w) hd hs hf
theorem ob_pick {F : Value → World → Prop} {ops : Array Oper} {a : Act} {w : World} {o : Oper} {c x y : Operand} {d : Nat} {b : Bool}
    (hw : Region.wanted o (yielded ops a.tmps) = true) (ho : o.op = .pick c x y) (hd : o.dst = some d) (hs : decide (d < a.tmps.size) = true) (hb : a.eval c = .bool b) (hf : F (if b then a.eval x else a.eval y) w) :
    wpList P ops (endQ F o a w) [o] a w := ob_val hw (by simp [execOp, ho, hb, asBool]) (Ext.refl w) hd hs hf
theorem ob_skip {F : Value → World → Prop} {ops : Array Oper} {a : Act} {w : World} {o : Oper} {d : Nat}
    (hw : Region.wanted o (yielded ops a.tmps) = false) (hd : o.dst = some d) (hs : decide (d < a.tmps.size) = true) (hf : F undef w) :
    wpList P ops (endQ F o a w) [o] a w := by
  refine wpList_skipped hw (wpList_nil ⟨rfl, Ext.refl w, put_defers _ _ _, ?_⟩)
  rw [hd]
  show F ((a.put (some d) undef).tmps.getD d undef) w
  rw [put_getD_eq _ (of_decide_eq_true hs)]; exact hf

theorem Ext.grown_none {a w w' : World} {v : Value} (h : Ext a w) (hg : w.grownBy w' v.ownBlock) (hr : ∀ k, v.ownBlock = some k → a.heap.size ≤ k) : Ext a w' :=
  Below.grown h hg h.size hr

theorem own_base {w : World} {base : Nat} {e : TypeId} {size n : Nat} {v : Value} {xs : List Value} (h : w.ownsRow base e size v n xs) : ∀ k, v.ownBlock = some k → base ≤ k :=
  fun k hk => (h.lt k hk).1

end
end Go.Proofs.YtlhbpflcffjhmaaGreat
