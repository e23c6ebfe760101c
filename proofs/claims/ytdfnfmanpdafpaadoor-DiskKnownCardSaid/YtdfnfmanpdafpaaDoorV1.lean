/- Orders, plainly: comparisons that answer a number; lists in order without repeats. No program is in sight. -/
import Derived.Lib.Bytealg
import Derived.Lib.Small
namespace Go.Proofs.YtdfnfmanpdafpaaDoor

/-- A comparison whose signs are those of a total preorder. -/
structure WO {α : Type} (cf : α → α → Int) : Prop where
  anti : ∀ a b, cf b a = - cf a b
  trans : ∀ a b c, cf a b ≤ 0 → cf b c ≤ 0 → cf a c ≤ 0

theorem snocRec {α : Type} {motive : List α → Prop} (nil : motive []) (snoc : ∀ l x, motive l → motive (l ++ [x])) (t : List α) : motive t := by
  have h : ∀ m : List α, motive m.reverse := fun m => by
    induction m with
    | nil => exact nil
    | cons x m ih => rw [List.reverse_cons]; exact snoc _ _ ih
  have := h t.reverse
  rwa [List.reverse_reverse] at this

section
variable {α : Type} {cf : α → α → Int}
theorem WO.refl (h : WO cf) (a : α) : cf a a = 0 := by have := h.anti a a; omega
theorem WO.lt_le (h : WO cf) {a b c : α} (h1 : cf a b < 0) (h2 : cf b c ≤ 0) : cf a c < 0 := by
  have h3 := h.trans a b c (by omega) h2
  rcases Int.lt_or_eq_of_le h3 with h4 | h4
  · exact h4
  · have h5 := h.anti a c
    have h6 := h.trans b c a h2 (by omega)
    have h7 := h.anti a b
    omega
theorem WO.le_lt (h : WO cf) {a b c : α} (h1 : cf a b ≤ 0) (h2 : cf b c < 0) : cf a c < 0 := by
  have h3 := h.trans a b c h1 (by omega)
  rcases Int.lt_or_eq_of_le h3 with h4 | h4
  · exact h4
  · have h5 := h.anti a c
    have h6 := h.trans c a b (by omega) h1
    have h7 := h.anti b c
    omega
theorem WO.lt_trans (h : WO cf) {a b c : α} (h1 : cf a b < 0) (h2 : cf b c < 0) : cf a c < 0 := h.lt_le h1 (by omega)
theorem WO.eq_trans (h : WO cf) {a b c : α} (h1 : cf a b = 0) (h2 : cf b c = 0) : cf a c = 0 := by
  have h3 := h.trans a b c (by omega) (by omega)
  have h4 := h.anti a b
  have h5 := h.anti b c
  have h6 := h.trans c b a (by omega) (by omega)
  have h7 := h.anti a c
  omega
theorem WO.comap {β : Type} (h : WO cf) (f : β → α) : WO (fun a b => cf (f a) (f b)) := ⟨fun _ _ => h.anti _ _, fun _ _ _ h1 h2 => h.trans _ _ _ h1 h2⟩

/-- The first of two that is not 0. -/
def or2 (x y : Int) : Int := if x = 0 then y else x
theorem WO.or2 {cg : α → α → Int} (h : WO cf) (k : WO cg) : WO (fun a b => or2 (cf a b) (cg a b)) := by
  refine ⟨fun a b => ?_, fun a b c h1 h2 => ?_⟩
  · have h1 := h.anti a b
    have h2 := k.anti a b
    simp only [Proofs.YtdfnfmanpdafpaaDoor.or2]
    by_cases e : cf a b = 0
    · rw [if_pos (by omega), if_pos e]; exact h2
    · rw [if_neg (by omega), if_neg e]; exact h1
  · simp only [Proofs.YtdfnfmanpdafpaaDoor.or2] at h1 h2 ⊢
    by_cases e1 : cf a b = 0
    · rw [if_pos e1] at h1
      by_cases e2 : cf b c = 0
      · rw [if_pos e2] at h2
        rw [if_pos (h.eq_trans e1 e2)]
        exact k.trans _ _ _ h1 h2
      · rw [if_neg e2] at h2
        have := h.le_lt (a := a) (b := b) (c := c) (by omega) (by omega)
        rw [if_neg (by omega)]; omega
    · rw [if_neg e1] at h1
      have h3 : cf a c < 0 := by
        by_cases e2 : cf b c = 0
        · exact h.lt_le (b := b) (by omega) (by omega)
        · rw [if_neg e2] at h2
          exact h.lt_le (b := b) (by omega) (by omega)
      rw [if_neg (by omega)]; omega

/-! Lists, the first difference decides, then the length -/
def cmpL (cf : α → α → Int) : List α → List α → Int
  | [], [] => 0
  | [], _ :: _ => -1
  | _ :: _, [] => 1
  | a :: l, b :: m => if cf a b = 0 then cmpL cf l m else cf a b
theorem WO.list (h : WO cf) : WO (cmpL cf) := by
  refine ⟨fun a => ?_, fun a => ?_⟩
  · induction a with
    | nil => intro b; cases b <;> simp [cmpL]
    | cons x a ih =>
      intro b
      cases b with
      | nil => simp [cmpL]
      | cons y b =>
        simp only [cmpL]
        have := h.anti x y
        by_cases e : cf x y = 0
        · rw [if_pos e, if_pos (by omega)]; exact ih b
        · rw [if_neg e, if_neg (by omega)]; exact this
  · induction a with
    | nil => intro b c; cases c <;> simp [cmpL]
    | cons x a ih =>
      intro b c h1 h2
      cases b with
      | nil => simp [cmpL] at h1
      | cons y b =>
        cases c with
        | nil => simp [cmpL] at h2
        | cons z c =>
          simp only [cmpL] at h1 h2 ⊢
          by_cases e1 : cf x y = 0
          · rw [if_pos e1] at h1
            by_cases e2 : cf y z = 0
            · rw [if_pos e2] at h2
              rw [if_pos (h.eq_trans e1 e2)]
              exact ih b c h1 h2
            · rw [if_neg e2] at h2
              have := h.le_lt (a := x) (b := y) (c := z) (by omega) (by omega)
              rw [if_neg (by omega)]; omega
          · rw [if_neg e1] at h1
            have h3 : cf x z < 0 := by
              by_cases e2 : cf y z = 0
              · exact h.lt_le (b := y) (by omega) (by omega)
              · rw [if_neg e2] at h2
                exact h.lt_le (b := y) (by omega) (by omega)
            rw [if_neg (by omega)]; omega
theorem cmpL_eq (h0 : ∀ a b, cf a b = 0 → a = b) : ∀ (l m : List α), cmpL cf l m = 0 → l = m
  | [], [], _ => rfl
  | [], _ :: _, h => by simp [cmpL] at h
  | _ :: _, [], h => by simp [cmpL] at h
  | a :: l, b :: m, h => by
    simp only [cmpL] at h
    by_cases e : cf a b = 0
    · rw [if_pos e] at h
      rw [h0 _ _ e, cmpL_eq h0 l m h]
    · rw [if_neg e] at h; exact absurd h e

/-! Lists in order, each element once -/
def Up (cf : α → α → Int) (l : List α) : Prop := l.Pairwise fun a b => cf a b < 0
def insU (cf : α → α → Int) (x : α) : List α → List α
  | [] => [x]
  | y :: r => if cf y x < 0 then y :: insU cf x r else if cf y x = 0 then y :: r else x :: y :: r
def sortU (cf : α → α → Int) (l : List α) : List α := l.foldl (fun acc x => insU cf x acc) []

theorem sortU_snoc (l : List α) (x : α) : sortU cf (l ++ [x]) = insU cf x (sortU cf l) := by simp [sortU]

theorem insU_sub (x z : α) : ∀ l : List α, z ∈ insU cf x l → z = x ∨ z ∈ l
  | [], h => by simp [insU] at h; exact .inl h
  | y :: r, h => by
    simp only [insU] at h
    split at h
    · rcases List.mem_cons.1 h with h | h
      · exact .inr (h ▸ List.mem_cons_self)
      · rcases insU_sub x z r h with h | h
        · exact .inl h
        · exact .inr (List.mem_cons_of_mem _ h)
    · split at h
      · exact .inr h
      · rcases List.mem_cons.1 h with h | h
        · exact .inl h
        · exact .inr h
theorem insU_old (x z : α) : ∀ l : List α, z ∈ l → z ∈ insU cf x l
  | [], h => by cases h
  | y :: r, h => by
    simp only [insU]
    split
    · rcases List.mem_cons.1 h with h | h
      · exact h ▸ List.mem_cons_self
      · exact List.mem_cons_of_mem _ (insU_old x z r h)
    · split
      · exact h
      · exact List.mem_cons_of_mem _ h
theorem insU_new (x : α) : ∀ l : List α, x ∈ insU cf x l ∨ ∃ y ∈ l, cf y x = 0
  | [] => .inl (by simp [insU])
  | y :: r => by
    simp only [insU]
    split
    · rcases insU_new x r with h | ⟨y', h, e⟩
      · exact .inl (List.mem_cons_of_mem _ h)
      · exact .inr ⟨y', List.mem_cons_of_mem _ h, e⟩
    · split
      · rename_i e; exact .inr ⟨y, List.mem_cons_self, e⟩
      · exact .inl List.mem_cons_self
theorem insU_up (hw : WO cf) (x : α) : ∀ l : List α, Up cf l → Up cf (insU cf x l)
  | [], _ => by simp [insU, Up]
  | y :: r, h => by
    have h' := List.pairwise_cons.1 h
    simp only [insU]
    split
    · rename_i h1
      refine List.pairwise_cons.2 ⟨fun z hz => ?_, insU_up hw x r h'.2⟩
      rcases insU_sub x z r hz with e | hz
      · rw [e]; exact h1
      · exact h'.1 z hz
    · split
      · exact h
      · rename_i h1 h2
        have h3 : cf x y < 0 := by have := hw.anti x y; omega
        refine List.pairwise_cons.2 ⟨fun z hz => ?_, h⟩
        rcases List.mem_cons.1 hz with e | hz
        · rw [e]; exact h3
        · exact hw.lt_trans h3 (h'.1 z hz)
theorem sortU_up (hw : WO cf) (l : List α) : Up cf (sortU cf l) := by
  induction l using snocRec with
  | nil => exact List.Pairwise.nil
  | snoc l x ih => rw [sortU_snoc]; exact insU_up hw x _ ih
theorem sortU_mem (l : List α) (h0 : ∀ a ∈ l, ∀ b ∈ l, cf a b = 0 → a = b) (z : α) : z ∈ sortU cf l ↔ z ∈ l := by
  induction l using snocRec generalizing z with
  | nil => simp [sortU]
  | snoc l x ih =>
    have ih' := ih fun a ha b hb => h0 a (List.mem_append_left _ ha) b (List.mem_append_left _ hb)
    rw [sortU_snoc, List.mem_append, List.mem_singleton]
    constructor
    · intro h
      rcases insU_sub x z _ h with h | h
      · exact .inr h
      · exact .inl ((ih' z).1 h)
    · rintro (h | h)
      · exact insU_old x z _ ((ih' z).2 h)
      · subst h
        rcases insU_new z (sortU cf l) (cf := cf) with h | ⟨y, hy, e⟩
        · exact h
        · have := h0 y (List.mem_append_left _ ((ih' y).1 hy)) z (List.mem_append_right _ (List.mem_singleton.2 rfl)) e
          subst this
          exact insU_old y y _ hy
theorem sortU_sub (l : List α) (z : α) (h : z ∈ sortU cf l) : z ∈ l := by
  induction l using snocRec generalizing z with
  | nil => simp [sortU] at h
  | snoc l x ih =>
    rw [sortU_snoc] at h
    rcases insU_sub x z _ h with h | h
    · rw [h]; simp
    · exact List.mem_append_left _ (ih z h)

/-- Two lists in strict order of the same elements are one. -/
theorem up_unique (hw : WO cf) : ∀ (l m : List α), Up cf l → Up cf m → (∀ z, z ∈ l ↔ z ∈ m) → l = m
  | [], [], _, _, _ => rfl
  | [], b :: m, _, _, h => by have := (h b).2 List.mem_cons_self; cases this
  | a :: l, [], _, _, h => by have := (h a).1 List.mem_cons_self; cases this
  | a :: l, b :: m, h1, h2, h => by
    have p1 := List.pairwise_cons.1 h1
    have p2 := List.pairwise_cons.1 h2
    have e : a = b := by
      rcases List.mem_cons.1 ((h a).1 List.mem_cons_self) with e | ha
      · exact e
      · rcases List.mem_cons.1 ((h b).2 List.mem_cons_self) with e | hb
        · exact e.symm
        · have q1 := p1.1 b hb
          have q2 := p2.1 a ha
          have := hw.anti a b
          omega
    subst e
    congr 1
    refine up_unique hw l m p1.2 p2.2 fun z => ⟨fun hz => ?_, fun hz => ?_⟩
    · rcases List.mem_cons.1 ((h z).1 (List.mem_cons_of_mem _ hz)) with e | h'
      · subst e; have := p1.1 z hz; have := hw.refl z; omega
      · exact h'
    · rcases List.mem_cons.1 ((h z).2 (List.mem_cons_of_mem _ hz)) with e | h'
      · subst e; have := p2.1 z hz; have := hw.refl z; omega
      · exact h'

/-- Of neighbours that are alike the first alone. -/
def compL (eq : α → α → Bool) : List α → List α
  | [] => []
  | x :: l => match l with
    | [] => [x]
    | y :: r => if eq x y then compL eq (x :: r) else x :: compL eq (y :: r)
termination_by l => l.length

theorem compL_cons2 (eq : α → α → Bool) (x y : α) (r : List α) : compL eq (x :: y :: r) = if eq x y then compL eq (x :: r) else x :: compL eq (y :: r) := by
  conv => lhs; unfold compL
theorem compL_one (eq : α → α → Bool) (x : α) : compL eq [x] = [x] := by unfold compL; rfl
theorem compL_nil (eq : α → α → Bool) : compL eq ([] : List α) = [] := by unfold compL; rfl

theorem compL_mem {eq : α → α → Bool} : ∀ (n : Nat) (l : List α), l.length ≤ n → (∀ a ∈ l, ∀ b ∈ l, eq a b = true → a = b) → ∀ z, z ∈ compL eq l ↔ z ∈ l
  | _, [], _, _, z => by rw [compL_nil]
  | _, [x], _, _, z => by rw [compL_one]
  | 0, x :: y :: r, h, _, _ => by simp at h
  | n + 1, x :: y :: r, h, h0, z => by
    rw [compL_cons2]
    split
    · rename_i e
      have e2 := h0 x List.mem_cons_self y (List.mem_cons_of_mem _ List.mem_cons_self) e
      rw [compL_mem n (x :: r) (by simp at h ⊢; omega) (fun a ha b hb => h0 a (by rcases List.mem_cons.1 ha with h | h; exact h ▸ List.mem_cons_self; exact List.mem_cons_of_mem _ (List.mem_cons_of_mem _ h)) b (by rcases List.mem_cons.1 hb with h | h; exact h ▸ List.mem_cons_self; exact List.mem_cons_of_mem _ (List.mem_cons_of_mem _ h))) z]
      simp only [List.mem_cons, ← e2]
      constructor
      · rintro (h | h)
        · exact .inl h
        · exact .inr (.inr h)
      · rintro (h | h | h)
        · exact .inl h
        · exact .inl h
        · exact .inr h
    · rw [List.mem_cons, compL_mem n (y :: r) (by simp at h ⊢; omega) (fun a ha b hb => h0 a (List.mem_cons_of_mem _ ha) b (List.mem_cons_of_mem _ hb)) z]
      simp only [List.mem_cons]
theorem compL_up (hw : WO cf) {eq : α → α → Bool} : ∀ (n : Nat) (l : List α), l.length ≤ n → (∀ a ∈ l, ∀ b ∈ l, eq a b = false → cf a b ≠ 0) → (∀ a ∈ l, ∀ b ∈ l, eq a b = true → a = b) → l.Pairwise (fun a b => cf a b ≤ 0) → Up cf (compL eq l)
  | _, [], _, _, _, _ => by rw [compL_nil]; exact List.Pairwise.nil
  | _, [x], _, _, _, _ => by rw [compL_one]; exact List.pairwise_singleton _ _
  | 0, x :: y :: r, h, _, _, _ => by simp at h
  | n + 1, x :: y :: r, h, h0, h1, hp => by
    have p1 := List.pairwise_cons.1 hp
    have p2 := List.pairwise_cons.1 p1.2
    rw [compL_cons2]
    split
    · have hs : ∀ a, a ∈ x :: r → a ∈ x :: y :: r := fun a ha => by
        rcases List.mem_cons.1 ha with h | h
        · exact h ▸ List.mem_cons_self
        · exact List.mem_cons_of_mem _ (List.mem_cons_of_mem _ h)
      exact compL_up hw n (x :: r) (by simp at h ⊢; omega) (fun a ha b hb => h0 a (hs a ha) b (hs b hb)) (fun a ha b hb => h1 a (hs a ha) b (hs b hb)) (List.pairwise_cons.2 ⟨fun b hb => p1.1 b (List.mem_cons_of_mem _ hb), p2.2⟩)
    · rename_i e
      have hne := h0 x List.mem_cons_self y (List.mem_cons_of_mem _ List.mem_cons_self) (by simpa using e)
      have hlt : cf x y < 0 := by have := p1.1 y List.mem_cons_self; omega
      refine List.pairwise_cons.2 ⟨fun z hz => ?_, compL_up hw n (y :: r) (by simp at h ⊢; omega) (fun a ha b hb => h0 a (List.mem_cons_of_mem _ ha) b (List.mem_cons_of_mem _ hb)) (fun a ha b hb => h1 a (List.mem_cons_of_mem _ ha) b (List.mem_cons_of_mem _ hb)) p1.2⟩
      rw [compL_mem (y :: r).length (y :: r) (Nat.le_refl _) (fun a ha b hb => h1 a (List.mem_cons_of_mem _ ha) b (List.mem_cons_of_mem _ hb))] at hz
      rcases List.mem_cons.1 hz with e | hz
      · rw [e]; exact hlt
      · exact hw.lt_le hlt (p2.1 z hz)

/-- Sorted, then of neighbours that are alike the first alone: the list in order, each element once. -/
theorem compL_sorted (hw : WO cf) {eq : α → α → Bool} {l d : List α} (hp : d.Perm l) (hs : d.Pairwise (fun a b => cf a b ≤ 0)) (h0 : ∀ a ∈ l, ∀ b ∈ l, cf a b = 0 → a = b) (he : ∀ a ∈ l, ∀ b ∈ l, (eq a b = true ↔ cf a b = 0)) : compL eq d = sortU cf l := by
  have hm : ∀ a, a ∈ d → a ∈ l := fun a ha => hp.mem_iff.1 ha
  have h1 : ∀ a ∈ d, ∀ b ∈ d, eq a b = true → a = b := fun a ha b hb e => h0 a (hm a ha) b (hm b hb) ((he a (hm a ha) b (hm b hb)).1 e)
  refine up_unique hw _ _ (compL_up hw d.length d (Nat.le_refl _) (fun a ha b hb e h => by have := (he a (hm a ha) b (hm b hb)).2 h; rw [e] at this; cases this) h1 hs) (sortU_up hw l) fun z => ?_
  rw [compL_mem d.length d (Nat.le_refl _) h1, sortU_mem l h0, hp.mem_iff]
theorem sortU_same (hw : WO cf) {l m : List α} (h0 : ∀ a ∈ l, ∀ b ∈ l, cf a b = 0 → a = b) (h : ∀ z, z ∈ l ↔ z ∈ m) : sortU cf l = sortU cf m := by
  refine up_unique hw _ _ (sortU_up hw l) (sortU_up hw m) fun z => ?_
  rw [sortU_mem l h0, sortU_mem m (fun a ha b hb => h0 a ((h a).2 ha) b ((h b).2 hb)), h z]
theorem sortU_done (hw : WO cf) {l : List α} (hu : Up cf l) : sortU cf l = l := by
  have h0 : ∀ a ∈ l, ∀ b ∈ l, cf a b = 0 → a = b := by
    induction l with
    | nil => intro a ha; cases ha
    | cons x l ih =>
      have p := List.pairwise_cons.1 hu
      intro a ha b hb e
      rcases List.mem_cons.1 ha with h1 | h1
      · rcases List.mem_cons.1 hb with h2 | h2
        · rw [h1, h2]
        · have := p.1 b h2; rw [h1] at e; omega
      · rcases List.mem_cons.1 hb with h2 | h2
        · have := p.1 a h1; have := hw.anti x a; rw [h2] at e; omega
        · exact ih p.2 a h1 b h2 e
  exact up_unique hw _ _ (sortU_up hw l) hu fun z => sortU_mem l h0 z
end

/-! Numbers, bytes -/
theorem wo_int : WO Lib.compareInt := by
  refine ⟨fun a b => ?_, fun a b c => ?_⟩
  · unfold Lib.compareInt; (repeat' split) <;> omega
  · unfold Lib.compareInt; (repeat' split) <;> omega
theorem int_zero {a b : Int} (h : Lib.compareInt a b = 0) : a = b := by
  unfold Lib.compareInt at h; (repeat' split at h) <;> omega
theorem int_lt {a b : Int} : Lib.compareInt a b < 0 ↔ a < b := by
  unfold Lib.compareInt; (repeat' split) <;> omega
theorem bytes_cmp : ∀ l m : List UInt8, Lib.compareBytes l m = cmpL (fun a b : UInt8 => Lib.compareInt a.toNat b.toNat) l m
  | [], [] => rfl
  | [], _ :: _ => rfl
  | _ :: _, [] => rfl
  | a :: l, b :: m => by
    simp only [Lib.compareBytes, cmpL, bytes_cmp l m, UInt8.lt_iff_toNat_lt]
    unfold Lib.compareInt
    (repeat' split) <;> first | rfl | omega
theorem wo_bytes : WO Lib.compareBytes := by
  have h : Lib.compareBytes = cmpL (fun a b : UInt8 => Lib.compareInt a.toNat b.toNat) := by funext l m; exact bytes_cmp l m
  rw [h]
  exact (wo_int.comap (fun a : UInt8 => (a.toNat : Int))).list
theorem bytes_zero {l m : List UInt8} (h : Lib.compareBytes l m = 0) : l = m := by
  rw [bytes_cmp] at h
  refine cmpL_eq (fun a b e => ?_) l m h
  have := int_zero e
  exact UInt8.toNat_inj.1 (by omega)

end Go.Proofs.YtdfnfmanpdafpaaDoor
