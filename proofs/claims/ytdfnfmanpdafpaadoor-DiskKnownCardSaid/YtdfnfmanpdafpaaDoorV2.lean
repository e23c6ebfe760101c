/- Values, constraints, predicates, plainly: which may be, their order, what holds, normal forms. No program is in sight. -/
import Derived.Test.YtdfnfmanpdafpaaDoorV1
namespace Go.Proofs.YtdfnfmanpdafpaaDoor

/-- A value. -/
structure V where
  k : Int
  n : Int
  s : List UInt8
  b : Bool
deriving DecidableEq

def rankB (b : Bool) : Int := if b then 1 else 0
def cmpB (a b : Bool) : Int := Lib.compareInt (rankB a) (rankB b)
theorem wo_bool : WO cmpB := wo_int.comap rankB
theorem bool_zero {a b : Bool} (h : cmpB a b = 0) : a = b := by
  cases a <;> cases b <;> first | rfl | (exact absurd h (by decide))

def cmpV (a b : V) : Int :=
  if a.k = b.k then (if a.k = 1 then Lib.compareInt a.n b.n else if a.k = 2 then Lib.compareBytes a.s b.s else if a.k = 3 then cmpB a.b b.b else 0)
  else Lib.compareInt a.k b.k

def vN (a : V) : Int := if a.k = 1 then a.n else 0
def vS (a : V) : List UInt8 := if a.k = 2 then a.s else []
def vB (a : V) : Bool := if a.k = 3 then a.b else false
theorem cmpV_or (a b : V) : cmpV a b = or2 (Lib.compareInt a.k b.k) (or2 (Lib.compareInt (vN a) (vN b)) (or2 (Lib.compareBytes (vS a) (vS b)) (cmpB (vB a) (vB b)))) := by
  have hr : ∀ x, Lib.compareInt x x = 0 := wo_int.refl
  have hs : Lib.compareBytes [] [] = 0 := rfl
  have hb : cmpB false false = 0 := rfl
  unfold cmpV
  by_cases hk : a.k = b.k
  · rw [if_pos hk]
    have e : Lib.compareInt a.k b.k = 0 := by rw [hk]; exact hr _
    unfold or2 vN vS vB
    rw [if_pos e]
    by_cases h1 : a.k = 1
    · have h2 : b.k = 1 := by omega
      simp only [h1, h2, if_true]
      simp [hs, hb]
    · have h1' : ¬ b.k = 1 := by omega
      simp only [if_neg h1, if_neg h1', hr, if_true]
      by_cases h2 : a.k = 2
      · have h2' : b.k = 2 := by omega
        simp only [h2, h2', if_true]
        simp [hb]
      · have h2' : ¬ b.k = 2 := by omega
        simp only [if_neg h2, if_neg h2', hs, if_true]
        by_cases h3 : a.k = 3
        · have h3' : b.k = 3 := by omega
          simp only [h3, h3', if_true]
        · have h3' : ¬ b.k = 3 := by omega
          simp only [if_neg h3, if_neg h3', hb]
  · rw [if_neg hk]
    unfold or2
    rw [if_neg (fun e => hk (int_zero e))]
theorem wo_V : WO cmpV := by
  have h : cmpV = fun a b => or2 (Lib.compareInt a.k b.k) (or2 (Lib.compareInt (vN a) (vN b)) (or2 (Lib.compareBytes (vS a) (vS b)) (cmpB (vB a) (vB b)))) := by funext a b; exact cmpV_or a b
  rw [h]
  exact (wo_int.comap V.k).or2 ((wo_int.comap vN).or2 ((wo_bytes.comap vS).or2 (wo_bool.comap vB)))
theorem cmpV_kind {a b : V} (h : cmpV a b = 0) : a.k = b.k := by
  unfold cmpV at h
  split at h
  · assumption
  · exact int_zero h

def mayV (v : V) : Bool :=
  if v.k = 1 then v.s.isEmpty && !v.b else if v.k = 2 then decide (v.n = 0) && !v.b && decide (v.s.length ≤ 32) else if v.k = 3 then decide (v.n = 0) && v.s.isEmpty else false

theorem may_zero {a b : V} (ha : mayV a = true) (hb : mayV b = true) (h : cmpV a b = 0) : a = b := by
  have hk := cmpV_kind h
  obtain ⟨ak, an, as, ab⟩ := a
  obtain ⟨bk, bn, bs, bb⟩ := b
  simp only at hk
  subst hk
  unfold mayV at ha hb
  unfold cmpV at h
  simp only [if_true] at ha hb h
  by_cases h1 : ak = 1
  · rw [if_pos h1] at ha hb h
    simp at ha hb
    have := int_zero h
    rw [ha.1, ha.2, hb.1, hb.2, this]
  · rw [if_neg h1] at ha hb h
    by_cases h2 : ak = 2
    · rw [if_pos h2] at ha hb h
      simp at ha hb
      have := bytes_zero h
      rw [ha.1.1, ha.1.2, hb.1.1, hb.1.2, this]
    · rw [if_neg h2] at ha hb h
      by_cases h3 : ak = 3
      · rw [if_pos h3] at ha hb h
        simp at ha hb
        have := bool_zero h
        rw [ha.1, ha.2, hb.1, hb.2, this]
      · rw [if_neg h3] at ha; cases ha

def wholeV (a b : V) : Int := or2 (cmpV a b) (or2 (Lib.compareInt a.n b.n) (or2 (Lib.compareBytes a.s b.s) (cmpB a.b b.b)))
theorem wo_whole : WO wholeV := wo_V.or2 ((wo_int.comap V.n).or2 ((wo_bytes.comap V.s).or2 (wo_bool.comap V.b)))
theorem or2_zero {x y : Int} (h : or2 x y = 0) : x = 0 ∧ y = 0 := by
  unfold or2 at h
  split at h
  · exact ⟨by assumption, h⟩
  · rename_i hx; exact absurd h hx
theorem whole_zero {a b : V} (h : wholeV a b = 0) : a = b := by
  obtain ⟨h1, h⟩ := or2_zero h
  obtain ⟨h2, h⟩ := or2_zero h
  obtain ⟨h3, h4⟩ := or2_zero h
  have e1 := cmpV_kind h1
  have e2 := int_zero h2
  have e3 := bytes_zero h3
  have e4 := bool_zero h4
  cases a; cases b
  simp only at e1 e2 e3 e4
  subst e1; subst e2; subst e3; subst e4
  rfl

/-- A constraint. -/
structure C where
  name : List UInt8
  op : Int
  v : V
  set : List V
deriving DecidableEq

def bareV (v : V) : Bool := decide (v = ⟨0, 0, [], false⟩)
def mayC (c : C) : Bool :=
  if c.name.length < 1 ∨ 16 < c.name.length then false
  else if c.op = 1 then bareV c.v && c.set.isEmpty
  else if 2 ≤ c.op ∧ c.op ≤ 7 then mayV c.v && c.set.isEmpty
  else if c.op = 8 then mayV c.v && decide (c.v.k = 2) && c.set.isEmpty
  else if c.op = 9 then bareV c.v && decide (1 ≤ c.set.length) && decide (c.set.length ≤ 6) && c.set.all mayV
  else false
def mayP (p : List C) : Bool := decide (p.length ≤ 6) && p.all mayC

/-- What a constraint asks of a value. -/
def holdsC (c : C) (v : V) : Bool :=
  if c.op = 1 then true
  else if c.op = 9 then c.set.any fun x => decide (cmpV v x = 0)
  else if v.k = c.v.k then
    (if c.op = 2 then decide (cmpV v c.v = 0) else if c.op = 3 then !decide (cmpV v c.v = 0) else if c.op = 4 then decide (cmpV v c.v < 0) else if c.op = 5 then decide (cmpV v c.v ≤ 0)
      else if c.op = 6 then decide (0 < cmpV v c.v) else if c.op = 7 then decide (0 ≤ cmpV v c.v) else if c.op = 8 then decide (v.k = 2) && c.v.s.isPrefixOf v.s else false)
  else false
def getE (l : List (List UInt8 × V)) (name : List UInt8) : Option V := (l.find? fun a => decide (a.1 = name)).map (·.2)
def asksE (l : List (List UInt8 × V)) (c : C) : Bool := match getE l c.name with | none => false | some v => holdsC c v
def matchP (p : List C) (l : List (List UInt8 × V)) : Bool := p.all (asksE l)

def orderC (a b : C) : Int := or2 (Lib.compareBytes a.name b.name) (or2 (Lib.compareInt a.op b.op) (or2 (wholeV a.v b.v) (cmpL wholeV a.set b.set)))
theorem wo_C : WO orderC := (wo_bytes.comap C.name).or2 ((wo_int.comap C.op).or2 ((wo_whole.comap C.v).or2 (wo_whole.list.comap C.set)))
theorem order_zero {a b : C} (h : orderC a b = 0) : a = b := by
  obtain ⟨h1, h⟩ := or2_zero h
  obtain ⟨h2, h⟩ := or2_zero h
  obtain ⟨h3, h4⟩ := or2_zero h
  have e1 := bytes_zero h1
  have e2 := int_zero h2
  have e3 := whole_zero h3
  have e4 := cmpL_eq (fun _ _ => whole_zero) _ _ h4
  cases a; cases b
  simp only at e1 e2 e3 e4
  subst e1; subst e2; subst e3; subst e4
  rfl
def cmpP (p q : List C) : Int := cmpL orderC p q
theorem wo_P : WO cmpP := wo_C.list
theorem cmpP_zero {p q : List C} (h : cmpP p q = 0) : p = q := cmpL_eq (fun _ _ => order_zero) _ _ h

/-- Normal forms. -/
def normC (c : C) : C := { c with set := sortU cmpV c.set }
def normP (p : List C) : List C := sortU orderC (p.map normC)

theorem sortU_len {α : Type} {cf : α → α → Int} (l : List α) : (sortU cf l).length ≤ l.length := by
  have hi : ∀ (x : α) (m : List α), (insU cf x m).length ≤ m.length + 1 := fun x m => by
    induction m with
    | nil => simp [insU]
    | cons y r ih => simp only [insU]; (repeat' split) <;> simp <;> omega
  induction l using snocRec with
  | nil => simp [sortU]
  | snoc l x ih => rw [sortU_snoc, List.length_append]; have := hi x (sortU cf l); simp; omega
theorem sortU_pos {α : Type} {cf : α → α → Int} (l : List α) (h : 1 ≤ l.length) : 1 ≤ (sortU cf l).length := by
  have hi : ∀ (x : α) (m : List α), 1 ≤ (insU cf x m).length := fun x m => by
    cases m with
    | nil => simp [insU]
    | cons y r => simp only [insU]; (repeat' split) <;> simp
  induction l using snocRec with
  | nil => simp at h
  | snoc l x ih => rw [sortU_snoc]; exact hi _ _

theorem set_inj {c : C} (h : mayC c = true) : ∀ a ∈ c.set, ∀ b ∈ c.set, cmpV a b = 0 → a = b := by
  intro a ha b hb e
  unfold mayC at h
  have hne : c.set.isEmpty = false := by cases hs : c.set with | nil => rw [hs] at ha; cases ha | cons _ _ => rfl
  have hall : c.set.all mayV = true := by
    split at h
    · cases h
    · split at h
      · rw [hne, Bool.and_false] at h; cases h
      · split at h
        · rw [hne, Bool.and_false] at h; cases h
        · split at h
          · rw [hne, Bool.and_false] at h; cases h
          · split at h
            · simp only [Bool.and_eq_true] at h; exact h.2
            · cases h
  exact may_zero (List.all_eq_true.1 hall a ha) (List.all_eq_true.1 hall b hb) e

theorem norm_may {c : C} (h : mayC c = true) : mayC (normC c) = true := by
  have hi := set_inj h
  have hl : (sortU cmpV c.set).length ≤ c.set.length := sortU_len _
  have he : c.set.isEmpty = true → (sortU cmpV c.set).isEmpty = true := fun e => by
    rw [List.isEmpty_iff] at e; rw [e]; rfl
  unfold mayC at h ⊢
  show (if c.name.length < 1 ∨ 16 < c.name.length then false
    else if c.op = 1 then bareV c.v && (sortU cmpV c.set).isEmpty
    else if 2 ≤ c.op ∧ c.op ≤ 7 then mayV c.v && (sortU cmpV c.set).isEmpty
    else if c.op = 8 then mayV c.v && decide (c.v.k = 2) && (sortU cmpV c.set).isEmpty
    else if c.op = 9 then bareV c.v && decide (1 ≤ (sortU cmpV c.set).length) && decide ((sortU cmpV c.set).length ≤ 6) && (sortU cmpV c.set).all mayV
    else false) = true
  split at h
  · cases h
  rename_i h0
  rw [if_neg h0]
  split at h
  · rename_i h1
    rw [if_pos h1]
    simp only [Bool.and_eq_true] at h ⊢
    exact ⟨h.1, he h.2⟩
  rename_i h1
  rw [if_neg h1]
  split at h
  · rename_i h2
    rw [if_pos h2]
    simp only [Bool.and_eq_true] at h ⊢
    exact ⟨h.1, he h.2⟩
  rename_i h2
  rw [if_neg h2]
  split at h
  · rename_i h3
    rw [if_pos h3]
    simp only [Bool.and_eq_true] at h ⊢
    exact ⟨h.1, he h.2⟩
  rename_i h3
  rw [if_neg h3]
  split at h
  · rename_i h4
    rw [if_pos h4]
    simp only [Bool.and_eq_true, decide_eq_true_eq] at h ⊢
    exact ⟨⟨⟨h.1.1.1, sortU_pos _ h.1.1.2⟩, by omega⟩, List.all_eq_true.2 fun z hz => List.all_eq_true.1 h.2 z (sortU_sub _ z hz)⟩
  · cases h

theorem norm_inj (p : List C) : ∀ a ∈ p, ∀ b ∈ p, orderC a b = 0 → a = b := fun _ _ _ _ h => order_zero h
theorem normP_mem (p : List C) (z : C) : z ∈ normP p ↔ ∃ c ∈ p, normC c = z := by
  unfold normP
  rw [sortU_mem _ (norm_inj _), List.mem_map]
theorem normP_up (p : List C) : Up orderC (normP p) := sortU_up wo_C _
theorem normP_len (p : List C) : (normP p).length ≤ p.length := by
  have := sortU_len (cf := orderC) (p.map normC); rw [List.length_map] at this; exact this
theorem normP_may {p : List C} (h : mayP p = true) : mayP (normP p) = true := by
  unfold mayP at h ⊢
  simp only [Bool.and_eq_true, decide_eq_true_eq] at h ⊢
  have hl := normP_len p
  refine ⟨by omega, List.all_eq_true.2 fun z hz => ?_⟩
  obtain ⟨c, hc, rfl⟩ := (normP_mem p z).1 hz
  exact norm_may (List.all_eq_true.1 h.2 c hc)
theorem normC_idem (c : C) : normC (normC c) = normC c := by
  unfold normC
  simp only [sortU_done wo_V (sortU_up wo_V c.set)]
theorem normP_idem (p : List C) : normP (normP p) = normP p := by
  have e : (normP p).map normC = normP p := by
    conv => rhs; rw [← List.map_id (normP p)]
    refine List.map_congr_left fun z hz => ?_
    obtain ⟨c, _, rfl⟩ := (normP_mem p z).1 hz
    exact normC_idem c
  show sortU orderC ((normP p).map normC) = _
  rw [e, sortU_done wo_C (normP_up p)]
theorem normC_holds {c : C} (h : mayC c = true) (v : V) : holdsC (normC c) v = holdsC c v := by
  have hi := set_inj h
  unfold holdsC
  show (if c.op = 1 then true else if c.op = 9 then (sortU cmpV c.set).any (fun x => decide (cmpV v x = 0)) else _) = _
  by_cases h1 : c.op = 1
  · rw [if_pos h1, if_pos h1]
  · rw [if_neg h1, if_neg h1]
    by_cases h9 : c.op = 9
    · rw [if_pos h9, if_pos h9, Bool.eq_iff_iff, List.any_eq_true, List.any_eq_true]
      constructor
      · rintro ⟨x, hx, e⟩; exact ⟨x, (sortU_mem _ hi x).1 hx, e⟩
      · rintro ⟨x, hx, e⟩; exact ⟨x, (sortU_mem _ hi x).2 hx, e⟩
    · rw [if_neg h9, if_neg h9]; rfl
theorem normP_match {p : List C} (h : mayP p = true) (l : List (List UInt8 × V)) : matchP (normP p) l = matchP p l := by
  unfold mayP at h
  simp only [Bool.and_eq_true, decide_eq_true_eq] at h
  have hc : ∀ c ∈ p, asksE l (normC c) = asksE l c := fun c hc => by
    unfold asksE
    show (match getE l c.name with | none => false | some v => holdsC (normC c) v) = _
    cases getE l c.name with
    | none => rfl
    | some v => exact normC_holds (List.all_eq_true.1 h.2 c hc) v
  unfold matchP
  rw [Bool.eq_iff_iff, List.all_eq_true, List.all_eq_true]
  constructor
  · intro a c hcp
    rw [← hc c hcp]
    exact a _ ((normP_mem p _).2 ⟨c, hcp, rfl⟩)
  · intro a z hz
    obtain ⟨c, hcp, rfl⟩ := (normP_mem p z).1 hz
    rw [hc c hcp]; exact a c hcp
theorem normP_same {p q : List C} (h : ∀ z, (∃ c ∈ p, normC c = z) ↔ ∃ c ∈ q, normC c = z) : normP p = normP q :=
  up_unique wo_C _ _ (normP_up p) (normP_up q) fun z => by rw [normP_mem, normP_mem]; exact h z

end Go.Proofs.YtdfnfmanpdafpaaDoor
