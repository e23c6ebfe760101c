/- pred.list's sorted and once. -/
import Derived.Test.YtkefppdacigbmaaS7
namespace Go.Proofs.Ytkefppdacigbmaa
open Go.RowKit Go.Sort

theorem own_keep {w w' : World} {base size n : Nat} {e : TypeId} {v : Value} {xs : List Value} {row : Option Nat} (h : w.ownsRow base e size v n xs) (hg : w.grownBy w' row) (hne : ∀ k, v.ownBlock = some k → row ≠ some k) : w'.ownsRow base e size v n xs := by
  refine ⟨h.1, ?_⟩
  rcases h.2 with h0 | ⟨g, cap, cur, rfl, hb, hgg, hn, hm, hs, ht⟩
  · exact .inl h0
  · exact .inr ⟨g, cap, cur, rfl, hb, by rw [hg.block g (Array.getElem?_eq_some_iff.1 hgg).1 (fun e => hne g rfl e.symm)]; exact hgg, hn, hm, hs, ht⟩
theorem own_low {w : World} {base b2 size n : Nat} {e : TypeId} {v : Value} {xs : List Value} (h : w.ownsRow base e size v n xs) (hb : b2 ≤ base) : w.ownsRow b2 e size v n xs := by
  refine ⟨h.1, ?_⟩
  rcases h.2 with h0 | ⟨g, cap, cur, rfl, hb', hgg, hn, hm, hs, ht⟩
  · exact .inl h0
  · exact .inr ⟨g, cap, cur, rfl, Nat.le_trans hb hb', hgg, hn, hm, hs, ht⟩
/-- Rows of two types lie apart. -/
theorem own_apart {w : World} {base b2 size s2 n m : Nat} {e e2 : TypeId} {v u : Value} {xs ys : List Value} (h : w.ownsRow base e size v n xs) (k : w.ownsRow b2 e2 s2 u m ys) (he : e ≠ e2) : ∀ q, u.ownBlock = some q → v.ownBlock ≠ some q := by
  intro q hq hv
  rcases h.2 with ⟨rfl, _⟩ | ⟨g, cap, cur, rfl, _, hg, _⟩
  · simp [Value.ownBlock] at hv
  · rcases k.2 with ⟨rfl, _⟩ | ⟨g2, cap2, cur2, rfl, _, hg2, _⟩
    · simp [Value.ownBlock] at hq
    · simp only [Value.ownBlock, Option.some.injEq] at hq hv
      subst hq
      subst hv
      rw [hg] at hg2
      cases hg2
      exact he rfl

theorem own_some {w : World} {base size n : Nat} {e : TypeId} {v : Value} {xs : List Value} (h : w.ownsRow base e size v n xs) (hn : 0 < n) : v.ownBlock ≠ none := by
  rcases h.2 with ⟨rfl, e0⟩ | ⟨g, cap, cur, rfl, _⟩
  · omega
  · simp [Value.ownBlock]

/-- A constraint's set, made by the call from block b on. -/
def SetO (b : Nat) (w : World) (x : CS) : Prop := w.ownsRow b 28 4 x.h x.c.set.length (x.c.set.flatMap vC)
theorem SetO.set {b : Nat} {w : World} {x : CS} (h : SetO b w x) : SetR w x.h x.c.set := Row.of_own h
theorem SetO.ext {b : Nat} {w w' : World} {x : CS} (h : SetO b w x) (hx : Ext w w') : SetO b w' x := own_ext h hx
theorem SetO.keep {b base n : Nat} {w w' : World} {x : CS} {v : Value} {xs : List Value} (h : SetO b w x) (hv : w.ownsRow base 31 7 v n xs) (hg : w.grownBy w' v.ownBlock) : SetO b w' x := own_keep h hg (own_apart hv h (by decide))
theorem SetO.one {b : Nat} {w : World} {x : CS} (h : SetO b w x) : x.h.oneCell' = true := set_one h.set
theorem SetO.ne {b base n : Nat} {w : World} {x : CS} {v : Value} {xs : List Value} (h : SetO b w x) (hv : w.ownsRow base 31 7 v n xs) (hs : v.ownBlock ≠ none) : x.h.ownBlock ≠ v.ownBlock := by
  cases hq : x.h.ownBlock with
  | none => exact fun e => hs e.symm
  | some q => exact fun e => own_apart hv h (by decide) q hq e.symm

set_option maxRecDepth 100000 in
set_option maxHeartbeats 2000000 in
theorem insort_nil (w : World) : Calls Try.prog 161 #[.slice none 0 0, .int .i64 0, .int .i64 0, .func (.func 65) #[] #[]] w fun e w' => e = .returned (.tuple #[]) ∧ w' = w := by
  go_enter Try.func161, Try.ntmps161
  go_wp2_with fail
  refine wp_loop_rounds 1 ?_
  rw [rounds_succ]
  go_wp2_with fail
  go_end0
  exact ⟨rfl, rfl⟩
set_option maxRecDepth 100000 in
set_option maxHeartbeats 2000000 in
theorem pdq_nil (w : World) (lim : Int) : Calls Try.prog 152 #[.slice none 0 0, .int .i64 0, .int .i64 0, .int .i64 lim, .func (.func 65) #[] #[]] w fun e w' => e = .returned (.tuple #[]) ∧ w' = w := by
  go_enter Try.func152, Try.ntmps152
  go_wp2_with fail
  refine wp_loop_rounds 1 ?_
  rw [rounds_succ]
  go_wp2_with (go_at_call 161; refine (insort_nil _).mono ?_; rintro e w' ⟨rfl, rfl⟩)
  exact bodyPost_ret (v := .tuple #[]) (by simp [results, go_sem]) rfl ⟨rfl, rfl⟩
set_option maxRecDepth 100000 in
set_option maxHeartbeats 2000000 in
theorem sortC_nil (w : World) : Calls Try.prog 117 #[.slice none 0 0, .func (.func 65) #[] #[]] w fun e w' => e = .returned (.tuple #[]) ∧ w' = w := by
  have hbl := bits115_any 0 (by omega) w
  go_enter Try.func117, Try.ntmps117
  go_wp2_with (first | (go_at_call 115; refine hbl.mono ?_; rintro e w' ⟨rfl, rfl⟩) | (go_at_call 152; refine (pdq_nil _ _).mono ?_; rintro e w' ⟨rfl, rfl⟩))
  go_end0
  exact ⟨rfl, rfl⟩

/-- The sort at a row that may be nil. -/
theorem sort117_any (w : World) (base : Nat) (v : Value) (us : List CS) (ho : w.ownsRow base 31 7 v us.length (us.flatMap csC)) (hl : us.length ≤ 12) (h0 : us = [] → v = .slice none 0 0)
    (hs : ∀ x ∈ us, SetR w x.h x.c.set ∧ x.h.ownBlock ≠ v.ownBlock) :
    Calls Try.prog 117 #[v, .func (.func 65) #[] #[]] w
      fun e w' => e = .returned (.tuple #[]) ∧ ∃ us' : List CS, us'.Perm us ∧ (us'.Pairwise fun a b => orderC a.c b.c ≤ 0) ∧ w'.ownsRow base 31 7 v us.length (us'.flatMap csC) ∧ w.grownBy w' v.ownBlock := by
  by_cases he : us = []
  · obtain rfl := h0 he
    subst he
    refine (sortC_nil w).mono ?_
    rintro e w' ⟨rfl, rfl⟩
    exact ⟨rfl, [], List.Perm.refl _, List.Pairwise.nil, ho, ⟨rfl, rfl, rfl, Nat.le_refl _, fun _ _ _ => rfl⟩⟩
  · rcases ho.2 with ⟨rfl, e0⟩ | ⟨g, cap, cur, rfl, _⟩
    · exact absurd (List.length_eq_zero_iff.1 e0) he
    · exact sortC_any w base g cap us ho hl he hs

set_option maxRecDepth 100000 in
set_option maxHeartbeats 2000000 in
theorem sorted_any (w : World) (b : Nat) (v : Value) (us : List CS) (h : Row w 7 v us.length (us.flatMap csC)) (hl : us.length ≤ 12) (hs : ∀ x ∈ us, SetO b w x) (h0 : us = [] → v = .slice none 0 0) :
    Calls Try.prog 61 #[v] w fun e w' => ∃ v' us', e = .returned v' ∧ us'.Perm us ∧ (us'.Pairwise fun a b => orderC a.c b.c ≤ 0) ∧ w'.ownsRow w.heap.size 31 7 v' us'.length (us'.flatMap csC) ∧ (∀ x ∈ us', SetO b w' x) ∧ Ext w w' ∧ (us' = [] → v' = .slice none 0 0) := by
  have hcl := cloneC_any w v us h (fun x hx => (hs x hx).one) (by omega)
  obtain ⟨a, cap, rfl, hc, hm⟩ := Row.shape h
  have HCL := Lib.hid hcl
  have hso : ∀ (w2 : World) (v2 : Value), Ext w w2 → w2.ownsRow w.heap.size 31 7 v2 us.length (us.flatMap csC) → (Value.slice a us.length cap = .slice none 0 0 → v2 = .slice none 0 0) → Calls Try.prog 117 #[v2, .func (.func 65) #[] #[]] w2
      fun e w' => e = .returned (.tuple #[]) ∧ ∃ us' : List CS, us'.Perm us ∧ (us'.Pairwise fun a b => orderC a.c b.c ≤ 0) ∧ w'.ownsRow w.heap.size 31 7 v2 us'.length (us'.flatMap csC) ∧ (∀ x ∈ us', SetO b w' x) ∧ Ext w w' ∧ (us' = [] → v2 = .slice none 0 0) := by
    intro w2 v2 hx2 hown hnil
    have hs2 : ∀ x ∈ us, SetO b w2 x := fun x hx => (hs x hx).ext hx2
    refine (sort117_any w2 _ v2 us hown hl (fun e => hnil (h0 e)) fun x hx => ⟨(hs2 x hx).set, (hs2 x hx).ne hown (own_some hown (List.length_pos_of_mem hx))⟩).mono ?_
    rintro e w' ⟨rfl, us', p1, p2, p3, p4⟩
    refine ⟨rfl, us', p1, p2, by rw [p1.length_eq]; exact p3, fun x hx => (hs2 x (p1.mem_iff.1 hx)).keep hown p4, hx2.grown_none p4 (own_base hown), fun e => hnil (h0 ?_)⟩
    rw [e] at p1
    exact p1.nil_eq.symm
  have HSO := Lib.hid hso
  clear hcl hs h0 hl h hc hm hso
  go_enter Try.func61, Try.ntmps61
  go_wp2_with (go_at_call 116; refine HCL.out.mono ?_; rintro e w2 ⟨v2, rfl, hown, hx2, hnil⟩; have HOWN := Lib.hid hown; have HX2 := Lib.hid hx2; have HN := Lib.hid hnil; clear hown hx2 hnil)
  refine (HSO.out _ _ HX2.out HOWN.out HN.out).mono ?_
  rintro e w3 ⟨rfl, us', h3⟩
  have H3 := Lib.hid h3
  clear h3
  go_wp2_with fail
  go_ret
  exact ⟨_, us', rfl, H3.out⟩

theorem map_compF {α β : Type} [DecidableEq β] (f : α → β) : ∀ (n : Nat) (l : List α), l.length ≤ n → (compF f l).map f = compL (fun a b => decide (a = b)) (l.map f)
  | _, [], _ => by rw [compF_nil, List.map_nil, compL_nil]
  | _, [x], _ => by rw [compF_one, List.map_singleton, compL_one]
  | 0, x :: y :: r, h => by simp at h
  | n + 1, x :: y :: r, h => by
    rw [compF_cons2, List.map_cons, List.map_cons, compL_cons2]
    by_cases e : f x = f y
    · rw [if_pos e, if_pos (decide_eq_true e), map_compF f n (x :: r) (by simp at h ⊢; omega), List.map_cons]
    · rw [if_neg e, if_neg (by simpa using e), List.map_cons, map_compF f n (y :: r) (by simp at h ⊢; omega), List.map_cons]
theorem compF_sub {α β : Type} [DecidableEq β] (f : α → β) : ∀ (n : Nat) (l : List α), l.length ≤ n → ∀ x ∈ compF f l, x ∈ l
  | _, [], _, x, h => by rw [compF_nil] at h; exact h
  | _, [y], _, x, h => by rw [compF_one] at h; exact h
  | 0, x :: y :: r, h, _, _ => by simp at h
  | n + 1, x :: y :: r, h, z, hz => by
    rw [compF_cons2] at hz
    split at hz
    · rcases List.mem_cons.1 (compF_sub f n (x :: r) (by simp at h ⊢; omega) z hz) with e | e
      · exact e ▸ List.mem_cons_self
      · exact List.mem_cons_of_mem _ (List.mem_cons_of_mem _ e)
    · rcases List.mem_cons.1 hz with e | e
      · exact e ▸ List.mem_cons_self
      · exact List.mem_cons_of_mem _ (compF_sub f n (y :: r) (by simp at h ⊢; omega) z e)

set_option maxRecDepth 100000 in
set_option maxHeartbeats 2000000 in
theorem once_any (w : World) (b : Nat) (v : Value) (us : List CS) (h : Row w 7 v us.length (us.flatMap csC)) (hl : us.length ≤ 12) (hs : ∀ x ∈ us, SetO b w x) :
    Calls Try.prog 62 #[v] w fun e w' => ∃ v', e = .returned v' ∧ w'.ownsRow w.heap.size 31 7 v' (compF CS.c us).length ((compF CS.c us).flatMap csC) ∧ (∀ x ∈ compF CS.c us, SetO b w' x) ∧ Ext w w' := by
  have hcl := cloneC_any w v us h (fun x hx => (hs x hx).one) (by omega)
  obtain ⟨a, cap, rfl, hc, hm⟩ := Row.shape h
  have HCL := Lib.hid hcl
  have hco : ∀ (w2 : World) (v2 : Value), Ext w w2 → w2.ownsRow w.heap.size 31 7 v2 us.length (us.flatMap csC) → Calls Try.prog 118 #[v2, .func (.func 119) #[] #[]] w2
      fun e w' => ∃ v', e = .returned v' ∧ w'.ownsRow w.heap.size 31 7 v' (compF CS.c us).length ((compF CS.c us).flatMap csC) ∧ (∀ x ∈ compF CS.c us, SetO b w' x) ∧ Ext w w' := by
    intro w2 v2 hx2 hown
    have hs2 : ∀ x ∈ us, SetO b w2 x := fun x hx => (hs x hx).ext hx2
    refine (compactC_any w2 _ v2 us hown (by omega) fun x hx => ⟨(hs2 x hx).set, (hs2 x hx).ne hown (own_some hown (List.length_pos_of_mem hx))⟩).mono ?_
    rintro e w' ⟨v', rfl, p3, p4, p5⟩
    exact ⟨v', rfl, p3, fun x hx => (hs2 x (compF_sub _ _ _ (Nat.le_refl _) x hx)).keep hown p4, hx2.grown_none p4 (own_base hown)⟩
  have HCO := Lib.hid hco
  clear hcl hs hl h hc hm hco
  go_enter Try.func62, Try.ntmps62
  go_wp2_with (go_at_call 116; refine HCL.out.mono ?_; rintro e w2 ⟨v2, rfl, hown, hx2, hnil⟩; have HOWN := Lib.hid hown; have HX2 := Lib.hid hx2; clear hown hx2 hnil)
  refine (HCO.out _ _ HX2.out HOWN.out).mono ?_
  rintro e w3 ⟨v3, rfl, h3⟩
  have H3 := Lib.hid h3
  clear h3
  go_wp2_with fail
  go_ret
  exact ⟨_, rfl, H3.out⟩
end Go.Proofs.Ytkefppdacigbmaa
