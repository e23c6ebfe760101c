/- pred.list's sorted and once.
The event that speaks against covering: Counter. (Printed by a program.)
Literals where they lie; con, str, truth. -/
import Derived.Test.YtcgflkfbjnpdiaaGreatP12
import Derived.Test.YtcgflkfbjnpdiaaGreatP16
import Derived.Test.YtcgflkfbjnpdiaaGreatP10
namespace Go.Proofs.YtcgflkfbjnpdiaaGreat
open Go.RowKit Go.Sort

theorem own_keep {w w' : World} {base size n : Nat} {e : TypeId} {v : Value} {xs : List Value} {row : Option Nat} (h : w.ownsRow base e size v n xs) (hg : w.grownBy w' row) (hne : ∀ k, v.ownBlock = some k → row ≠ some k) : w'.ownsRow base e size v n xs := by
  refine ⟨h.1, ?_⟩
  rcases h.2 with h0 | ⟨g, cap, cur, rfl, hb, hgg, hn, hm, hs, ht⟩
  · exact .inl h0
  · exact .inr ⟨g, cap, cur, rfl, hb, by rw [hg.block g (Array.getElem?_eq_some_iff.1 hgg).1 (fun e => hne g rfl e.symm)]; exact hgg, hn, hm, hs, ht⟩
theorem own_low {w : World} {base b2 size n : Nat} {e : TypeId} {v : Value} {xs : List Value} (h : w.ownsRow base e size v n xs) (hb : b2 ≤ base) : w.ownsRow b2 e size v n xs := by
  refine ⟨h.1, ?_⟩
  rcases h.2 with h0 | ⟨g, cap, cur, rfl, hb', hgg, hn, hm, hs, ht⟩
  · exact .inl h0
  · exact .inr ⟨g, cap, cur, rfl, Nat.le_trans hb hb', hgg, hn, hm, hs, ht⟩
/-- Rows of two types lie apart. -/
theorem own_apart {w : World} {base b2 size s2 n m : Nat} {e e2 : TypeId} {v u : Value} {xs ys : List Value} (h : w.ownsRow base e size v n xs) (k : w.ownsRow b2 e2 s2 u m ys) (he : e ≠ e2) : ∀ q, u.ownBlock = some q → v.ownBlock ≠ some q := by
  intro q hq hv
  rcases h.2 with ⟨rfl, _⟩ | ⟨g, cap, cur, rfl, _, hg, _⟩
  · simp [Value.ownBlock] at hv
  · rcases k.2 with ⟨rfl, _⟩ | ⟨g2, cap2, cur2, rfl, _, hg2, _⟩
    · simp [Value.ownBlock] at hq
    · simp only [Value.ownBlock, Option.some.injEq] at hq hv
      subst hq
      subst hv
      rw [hg] at hg2
      cases hg2
      exact he rfl

theorem own_some {w : World} {base size n : Nat} {e : TypeId} {v : Value} {xs : List Value} (h : w.ownsRow base e size v n xs) (hn : 0 < n) : v.ownBlock ≠ none := by
  rcases h.2 with ⟨rfl, e0⟩ | ⟨g, cap, cur, rfl, _⟩
  · omega
  · simp [Value.ownBlock]

/-- A constraint's set, made by the call from block b on. -/
def SetO (b : Nat) (w : World) (x : CS) : Prop := w.ownsRow b 34 4 x.h x.c.set.length (x.c.set.flatMap vC)
theorem SetO.set {b : Nat} {w : World} {x : CS} (h : SetO b w x) : SetR w x.h x.c.set := Row.of_own h
theorem SetO.ext {b : Nat} {w w' : World} {x : CS} (h : SetO b w x) (hx : Ext w w') : SetO b w' x := own_ext h hx
theorem SetO.keep {b base n : Nat} {w w' : World} {x : CS} {v : Value} {xs : List Value} (h : SetO b w x) (hv : w.ownsRow base 37 7 v n xs) (hg : w.grownBy w' v.ownBlock) : SetO b w' x := own_keep h hg (own_apart hv h (by decide))
theorem SetO.one {b : Nat} {w : World} {x : CS} (h : SetO b w x) : x.h.oneCell' = true := set_one h.set
theorem SetO.ne {b base n : Nat} {w : World} {x : CS} {v : Value} {xs : List Value} (h : SetO b w x) (hv : w.ownsRow base 37 7 v n xs) (hs : v.ownBlock ≠ none) : x.h.ownBlock ≠ v.ownBlock := by
  cases hq : x.h.ownBlock with
  | none => exact fun e => hs e.symm
  | some q => exact fun e => own_apart hv h (by decide) q hq e.symm

set_option maxRecDepth 100000 in
set_option maxHeartbeats 2000000 in
theorem insort_nil (w : World) : Calls Tryz.prog 125 #[.slice none 0 0, .int .i64 0, .int .i64 0, .func (.func 30) #[] #[]] w fun e w' => e = .returned (.tuple #[]) ∧ w' = w := by
  go_enter Tryz.func125, Tryz.ntmps125
  go_wp2_with fail
  refine wp_loop_rounds 1 ?_
  rw [rounds_succ]
  go_wp2_with fail
  go_end0
  exact ⟨rfl, rfl⟩
set_option maxRecDepth 100000 in
set_option maxHeartbeats 2000000 in
theorem pdq_nil (w : World) (lim : Int) : Calls Tryz.prog 104 #[.slice none 0 0, .int .i64 0, .int .i64 0, .int .i64 lim, .func (.func 30) #[] #[]] w fun e w' => e = .returned (.tuple #[]) ∧ w' = w := by
  go_enter Tryz.func104, Tryz.ntmps104
  go_wp2_with fail
  refine wp_loop_rounds 1 ?_
  rw [rounds_succ]
  go_wp2_with (go_at_call 125; refine (insort_nil _).mono ?_; rintro e w' ⟨rfl, rfl⟩)
  exact bodyPost_ret (v := .tuple #[]) (by simp [results, go_sem]) rfl ⟨rfl, rfl⟩
set_option maxRecDepth 100000 in
set_option maxHeartbeats 2000000 in
theorem sortC_nil (w : World) : Calls Tryz.prog 63 #[.slice none 0 0, .func (.func 30) #[] #[]] w fun e w' => e = .returned (.tuple #[]) ∧ w' = w := by
  have hbl := bits115_any 0 (by omega) w
  go_enter Tryz.func63, Tryz.ntmps63
  go_wp2_with (first | (go_at_call 56; refine hbl.mono ?_; rintro e w' ⟨rfl, rfl⟩) | (go_at_call 104; refine (pdq_nil _ _).mono ?_; rintro e w' ⟨rfl, rfl⟩))
  go_end0
  exact ⟨rfl, rfl⟩

/-- The sort at a row that may be nil. -/
theorem sort117_any (w : World) (base : Nat) (v : Value) (us : List CS) (ho : w.ownsRow base 37 7 v us.length (us.flatMap csC)) (hl : us.length ≤ 12) (h0 : us = [] → v = .slice none 0 0)
    (hs : ∀ x ∈ us, SetR w x.h x.c.set ∧ x.h.ownBlock ≠ v.ownBlock) :
    Calls Tryz.prog 63 #[v, .func (.func 30) #[] #[]] w
      fun e w' => e = .returned (.tuple #[]) ∧ ∃ us' : List CS, us'.Perm us ∧ (us'.Pairwise fun a b => orderC a.c b.c ≤ 0) ∧ w'.ownsRow base 37 7 v us.length (us'.flatMap csC) ∧ w.grownBy w' v.ownBlock := by
  by_cases he : us = []
  · obtain rfl := h0 he
    subst he
    refine (sortC_nil w).mono ?_
    rintro e w' ⟨rfl, rfl⟩
    exact ⟨rfl, [], List.Perm.refl _, List.Pairwise.nil, ho, ⟨rfl, rfl, rfl, Nat.le_refl _, fun _ _ _ => rfl⟩⟩
  · rcases ho.2 with ⟨rfl, e0⟩ | ⟨g, cap, cur, rfl, _⟩
    · exact absurd (List.length_eq_zero_iff.1 e0) he
    · exact sortC_any w base g cap us ho hl he hs

set_option maxRecDepth 100000 in
set_option maxHeartbeats 2000000 in
theorem sorted_any (w : World) (b : Nat) (v : Value) (us : List CS) (h : Row w 7 v us.length (us.flatMap csC)) (hl : us.length ≤ 12) (hs : ∀ x ∈ us, SetO b w x) (h0 : us = [] → v = .slice none 0 0) :
    Calls Tryz.prog 24 #[v] w fun e w' => ∃ v' us', e = .returned v' ∧ us'.Perm us ∧ (us'.Pairwise fun a b => orderC a.c b.c ≤ 0) ∧ w'.ownsRow w.heap.size 37 7 v' us'.length (us'.flatMap csC) ∧ (∀ x ∈ us', SetO b w' x) ∧ Ext w w' ∧ (us' = [] → v' = .slice none 0 0) := by
  have hcl := cloneC_any w v us h (fun x hx => (hs x hx).one) (by omega)
  obtain ⟨a, cap, rfl, hc, hm⟩ := Row.shape h
  have HCL := Lib.hid hcl
  have hso : ∀ (w2 : World) (v2 : Value), Ext w w2 → w2.ownsRow w.heap.size 37 7 v2 us.length (us.flatMap csC) → (Value.slice a us.length cap = .slice none 0 0 → v2 = .slice none 0 0) → Calls Tryz.prog 63 #[v2, .func (.func 30) #[] #[]] w2
      fun e w' => e = .returned (.tuple #[]) ∧ ∃ us' : List CS, us'.Perm us ∧ (us'.Pairwise fun a b => orderC a.c b.c ≤ 0) ∧ w'.ownsRow w.heap.size 37 7 v2 us'.length (us'.flatMap csC) ∧ (∀ x ∈ us', SetO b w' x) ∧ Ext w w' ∧ (us' = [] → v2 = .slice none 0 0) := by
    intro w2 v2 hx2 hown hnil
    have hs2 : ∀ x ∈ us, SetO b w2 x := fun x hx => (hs x hx).ext hx2
    refine (sort117_any w2 _ v2 us hown hl (fun e => hnil (h0 e)) fun x hx => ⟨(hs2 x hx).set, (hs2 x hx).ne hown (own_some hown (List.length_pos_of_mem hx))⟩).mono ?_
    rintro e w' ⟨rfl, us', p1, p2, p3, p4⟩
    refine ⟨rfl, us', p1, p2, by rw [p1.length_eq]; exact p3, fun x hx => (hs2 x (p1.mem_iff.1 hx)).keep hown p4, hx2.grown_none p4 (own_base hown), fun e => hnil (h0 ?_)⟩
    rw [e] at p1
    exact p1.nil_eq.symm
  have HSO := Lib.hid hso
  clear hcl hs h0 hl h hc hm hso
  go_enter Tryz.func24, Tryz.ntmps24
  go_wp2_with (go_at_call 62; refine HCL.out.mono ?_; rintro e w2 ⟨v2, rfl, hown, hx2, hnil⟩; have HOWN := Lib.hid hown; have HX2 := Lib.hid hx2; have HN := Lib.hid hnil; clear hown hx2 hnil)
  refine (HSO.out _ _ HX2.out HOWN.out HN.out).mono ?_
  rintro e w3 ⟨rfl, us', h3⟩
  have H3 := Lib.hid h3
  clear h3
  go_wp2_with fail
  go_ret
  exact ⟨_, us', rfl, H3.out⟩

theorem map_compF {α β : Type} [DecidableEq β] (f : α → β) : ∀ (n : Nat) (l : List α), l.length ≤ n → (compF f l).map f = compL (fun a b => decide (a = b)) (l.map f)
  | _, [], _ => by rw [compF_nil, List.map_nil, compL_nil]
  | _, [x], _ => by rw [compF_one, List.map_singleton, compL_one]
  | 0, x :: y :: r, h => by simp at h
  | n + 1, x :: y :: r, h => by
    rw [compF_cons2, List.map_cons, List.map_cons, compL_cons2]
    by_cases e : f x = f y
    · rw [if_pos e, if_pos (decide_eq_true e), map_compF f n (x :: r) (by simp at h ⊢; omega), List.map_cons]
    · rw [if_neg e, if_neg (by simpa using e), List.map_cons, map_compF f n (y :: r) (by simp at h ⊢; omega), List.map_cons]
theorem compF_sub {α β : Type} [DecidableEq β] (f : α → β) : ∀ (n : Nat) (l : List α), l.length ≤ n → ∀ x ∈ compF f l, x ∈ l
  | _, [], _, x, h => by rw [compF_nil] at h; exact h
  | _, [y], _, x, h => by rw [compF_one] at h; exact h
  | 0, x :: y :: r, h, _, _ => by simp at h
  | n + 1, x :: y :: r, h, z, hz => by
    rw [compF_cons2] at hz
    split at hz
    · rcases List.mem_cons.1 (compF_sub f n (x :: r) (by simp at h ⊢; omega) z hz) with e | e
      · exact e ▸ List.mem_cons_self
      · exact List.mem_cons_of_mem _ (List.mem_cons_of_mem _ e)
    · rcases List.mem_cons.1 hz with e | e
      · exact e ▸ List.mem_cons_self
      · exact List.mem_cons_of_mem _ (compF_sub f n (y :: r) (by simp at h ⊢; omega) z e)

set_option maxRecDepth 100000 in
set_option maxHeartbeats 2000000 in
theorem once_any (w : World) (b : Nat) (v : Value) (us : List CS) (h : Row w 7 v us.length (us.flatMap csC)) (hl : us.length ≤ 12) (hs : ∀ x ∈ us, SetO b w x) :
    Calls Tryz.prog 25 #[v] w fun e w' => ∃ v', e = .returned v' ∧ w'.ownsRow w.heap.size 37 7 v' (compF CS.c us).length ((compF CS.c us).flatMap csC) ∧ (∀ x ∈ compF CS.c us, SetO b w' x) ∧ Ext w w' := by
  have hcl := cloneC_any w v us h (fun x hx => (hs x hx).one) (by omega)
  obtain ⟨a, cap, rfl, hc, hm⟩ := Row.shape h
  have HCL := Lib.hid hcl
  have hco : ∀ (w2 : World) (v2 : Value), Ext w w2 → w2.ownsRow w.heap.size 37 7 v2 us.length (us.flatMap csC) → Calls Tryz.prog 64 #[v2, .func (.func 65) #[] #[]] w2
      fun e w' => ∃ v', e = .returned v' ∧ w'.ownsRow w.heap.size 37 7 v' (compF CS.c us).length ((compF CS.c us).flatMap csC) ∧ (∀ x ∈ compF CS.c us, SetO b w' x) ∧ Ext w w' := by
    intro w2 v2 hx2 hown
    have hs2 : ∀ x ∈ us, SetO b w2 x := fun x hx => (hs x hx).ext hx2
    refine (compactC_any w2 _ v2 us hown (by omega) fun x hx => ⟨(hs2 x hx).set, (hs2 x hx).ne hown (own_some hown (List.length_pos_of_mem hx))⟩).mono ?_
    rintro e w' ⟨v', rfl, p3, p4, p5⟩
    exact ⟨v', rfl, p3, fun x hx => (hs2 x (compF_sub _ _ _ (Nat.le_refl _) x hx)).keep hown p4, hx2.grown_none p4 (own_base hown)⟩
  have HCO := Lib.hid hco
  clear hcl hs hl h hc hm hco
  go_enter Tryz.func25, Tryz.ntmps25
  go_wp2_with (go_at_call 62; refine HCL.out.mono ?_; rintro e w2 ⟨v2, rfl, hown, hx2, hnil⟩; have HOWN := Lib.hid hown; have HX2 := Lib.hid hx2; clear hown hx2 hnil)
  refine (HCO.out _ _ HX2.out HOWN.out).mono ?_
  rintro e w3 ⟨v3, rfl, h3⟩
  have H3 := Lib.hid h3
  clear h3
  go_wp2_with fail
  go_ret
  exact ⟨_, rfl, H3.out⟩
end Go.Proofs.YtcgflkfbjnpdiaaGreat

namespace Go.Proofs.YtcgflkfbjnpdiaaGreat
open Go.RowKit Go.Sort

def ctrS (p q : List C) (s : Bool × List (List UInt8 × V)) (n : List UInt8) : Bool × List (List UInt8 × V) :=
  if !s.1 && !((askedF q n).minus (askedF p n)).empty then (true, s.2 ++ [(n, (someR ((askedF q n).minus (askedF p n))).1)]) else (s.1, s.2 ++ [(n, (someR (askedF q n)).1)])
def ctrL (p q : List C) (l : List (List UInt8)) : Bool × List (List UInt8 × V) := l.foldl (ctrS p q) (false, [])
theorem ctrL_snoc (p q : List C) (l : List (List UInt8)) (n : List UInt8) : ctrL p q (l ++ [n]) = ctrS p q (ctrL p q l) n := by unfold ctrL; rw [List.foldl_append]; rfl
def counterF (p q : List C) : List (List UInt8 × V) × Bool := if !mayP p || !mayP q || coversF p q then ([], false) else ((ctrL p q (namesF q)).2, true)
theorem ctrL_len (p q : List C) (l : List (List UInt8)) : (ctrL p q l).2.length = l.length := by
  induction l using snocRec with
  | nil => rfl
  | snoc l n ih =>
    rw [ctrL_snoc]
    unfold ctrS
    split <;> simp [ih]

theorem insU_len (cf : List UInt8 → List UInt8 → Int) (x : List UInt8) : ∀ l : List (List UInt8), (insU cf x l).length ≤ l.length + 1
  | [] => by simp [insU]
  | y :: r => by
    have := insU_len cf x r
    unfold insU
    (repeat' split) <;> simp <;> omega
theorem names_len (p : List C) : (namesF p).length ≤ p.length := by
  unfold namesF
  rw [← List.length_map (f := C.name)]
  generalize p.map C.name = l
  induction l using snocRec with
  | nil => simp [sortU]
  | snoc l x ih =>
    rw [sortU_snoc, List.length_append]
    exact Nat.le_trans (insU_len _ _ _) (by simp; exact ih)
theorem own_ne {w : World} {base size n b : Nat} {e t : TypeId} {v : Value} {xs : List Value} {c : Array Value} {fr : Nat × Nat} (h : w.ownsRow base e size v n xs) (hb : w.heap[b]? = some (.cells c t fr)) (he : e ≠ t) : v.ownBlock ≠ some b := by
  intro hv
  rcases h.2 with ⟨rfl, _⟩ | ⟨g, cap, cur, rfl, _, hg, _⟩
  · simp [Value.ownBlock] at hv
  · simp only [Value.ownBlock, Option.some.injEq] at hv
    subst hv
    rw [hg] at hb
    cases hb
    exact he rfl
theorem own_cell {w : World} {base size n b : Nat} {e t : TypeId} {v : Value} {xs : List Value} {c : Array Value} {fr : Nat × Nat} (h : w.ownsRow base e size v n xs) (hb : w.heap[b]? = some (.cells c t fr)) (he : e ≠ t) (o : Nat) (u : Value) : (w.setCell ⟨b, o, none⟩ u).ownsRow base e size v n xs := by
  have hne := own_ne h hb he
  refine ⟨h.1, ?_⟩
  rcases h.2 with h0 | ⟨g, cap, cur, rfl, h1, h2, h3⟩
  · exact .inl h0
  · refine .inr ⟨g, cap, cur, rfl, h1, ?_, h3⟩
    rw [setCell_block_other w ⟨b, o, none⟩ u g (fun e => hne (by rw [e]; rfl))]
    exact h2
theorem own_setRow {w : World} {base size n b : Nat} {e t : TypeId} {v : Value} {xs : List Value} {c : Array Value} {fr : Nat × Nat} (h : w.ownsRow base e size v n xs) (hb : w.heap[b]? = some (.cells c t fr)) (he : e ≠ t) (cs : Array Value) : (w.setRow b cs).ownsRow base e size v n xs := by
  have hne := own_ne h hb he
  refine ⟨h.1, ?_⟩
  rcases h.2 with h0 | ⟨g, cap, cur, rfl, h1, h2, h3⟩
  · exact .inl h0
  · refine .inr ⟨g, cap, cur, rfl, h1, ?_, h3⟩
    rw [setRow_other w b g cs (fun e => hne (by rw [e]; rfl))]
    exact h2
theorem info52t : (Tryz.prog.info? 60).map (fun i => (i.zero, i.size, i.bytes)) = some (some (.agg #[.string ⟨#[]⟩, .int .i64 0, .int .i64 0, .string ⟨#[]⟩, .bool false]), 5, 56) := by kernel_rfl
theorem info57s : (Tryz.prog.info? 57).map (·.size) = some 2 := by kernel_rfl
theorem aC_one (x : List UInt8 × V) : ∀ u ∈ aC x, u.oneCell' = true := by
  intro u hu
  simp only [aC, List.mem_cons, List.not_mem_nil, or_false] at hu
  rcases hu with rfl | rfl | rfl | rfl | rfl <;> rfl
theorem attr_row (w : World) (x : List UInt8 × V) : Row (w.alloc (.cells #[.string (strOf x.1), .int .i64 x.2.k, .int .i64 x.2.n, .string (strOf x.2.s), .bool x.2.b] 60)) 5 (.slice (some ⟨w.heap.size, 0, none⟩) 1 1) 1 (aC x) :=
  Row.of_own (World.ownsRow_lit (base := w.heap.size) (e := 60) (size := 5) w #[.string (strOf x.1), .int .i64 x.2.k, .int .i64 x.2.n, .string (strOf x.2.s), .bool x.2.b] 1 (Nat.le_refl _) (by decide) rfl)

set_option maxRecDepth 100000 in
set_option maxHeartbeats 4000000 in
theorem ctr_no1 (w : World) (vp vq : Value) (p q : List C) (hp : PredR w vp p) (hq : PredR w vq q) (kp : ∀ c ∈ p, okC c) (kq : ∀ c ∈ q, okC c) (m1 : mayP p = false) :
    Calls Tryz.prog 52 #[vp, vq] w fun e w' => e = .returned (.tuple #[.agg #[.string ⟨#[]⟩, .slice none 0 0], .bool false]) ∧ Ext w w' := by
  obtain ⟨hx0, hT⟩ := boxes1 w (.cells #[.string ⟨#[]⟩, .slice none 0 0] 57)
  have h1 := pmay_any _ vp p (hp.ext hx0)
  have h2 := fun W (hW : Ext w W) => pmay_any W vq q (hq.ext hW)
  have h3 := fun W (hW : Ext w W) => covers_any W vp vq p q (hp.ext hW) (hq.ext hW) kp kq
  rw [m1] at h1
  clear m1
  obtain ⟨a1, cap1, rfl, _, _⟩ := hp.shape
  obtain ⟨a2, cap2, rfl, _, _⟩ := hq.shape
  have HT := Lib.hid hT
  have H1 := Lib.hid h1
  have H2 := Lib.hid h2
  have H3 := Lib.hid h3
  clear h1 h2 h3 hp hq kp kq hT
  generalize p.length = np at *
  generalize q.length = nq at *
  go_enter Tryz.func52, Tryz.ntmps52
  go_wp2_with fail
  refine H1.out.mono ?_
  rintro e y ⟨rfl, hy⟩
  have hxw := hx0.trans hy
  have HT := Lib.hid (block_later HT.out hy)
  clear hy hx0
  go_wp2_with (refine wpList_store_whole 57 (.tmp 4) (.tmp 30) rfl rfl w.heap.size rfl #[.string ⟨#[]⟩, .slice none 0 0] rfl _ 57 HT.out rfl info57s (by simp [Value.oneCell']) ?_)
  have hq := setRow_heap _ _ _ #[.string ⟨#[]⟩, .slice none 0 0] _ _ HT.out
  have g0 := cell_of_row _ _ 0 _ _ _ hq
  have g1 := cell_of_row _ _ 1 _ _ _ hq
  refine bodyPost_ret (v := .tuple #[.agg #[.string ⟨#[]⟩, .slice none 0 0], .bool false]) (by simp [results, Tryz.results52, go_sem, g0, g1]) rfl ⟨rfl, hxw.setRow (Nat.le_refl _) _⟩

set_option maxRecDepth 100000 in
set_option maxHeartbeats 4000000 in
theorem ctr_no2 (w : World) (vp vq : Value) (p q : List C) (hp : PredR w vp p) (hq : PredR w vq q) (kp : ∀ c ∈ p, okC c) (kq : ∀ c ∈ q, okC c) (m1 : mayP p = true) (m2 : mayP q = false) :
    Calls Tryz.prog 52 #[vp, vq] w fun e w' => e = .returned (.tuple #[.agg #[.string ⟨#[]⟩, .slice none 0 0], .bool false]) ∧ Ext w w' := by
  obtain ⟨hx0, hT⟩ := boxes1 w (.cells #[.string ⟨#[]⟩, .slice none 0 0] 57)
  have h1 := pmay_any _ vp p (hp.ext hx0)
  have h2 := fun W (hW : Ext w W) => pmay_any W vq q (hq.ext hW)
  have h3 := fun W (hW : Ext w W) => covers_any W vp vq p q (hp.ext hW) (hq.ext hW) kp kq
  rw [m1] at h1
  rw [m2] at h2
  clear m1 m2
  obtain ⟨a1, cap1, rfl, _, _⟩ := hp.shape
  obtain ⟨a2, cap2, rfl, _, _⟩ := hq.shape
  have HT := Lib.hid hT
  have H1 := Lib.hid h1
  have H2 := Lib.hid h2
  have H3 := Lib.hid h3
  clear h1 h2 h3 hp hq kp kq hT
  generalize p.length = np at *
  generalize q.length = nq at *
  go_enter Tryz.func52, Tryz.ntmps52
  go_wp2_with fail
  refine H1.out.mono ?_
  rintro e y ⟨rfl, hy⟩
  have hxw := hx0.trans hy
  have HT := Lib.hid (block_later HT.out hy)
  clear hy hx0
  go_wp2_with fail
  refine (H2.out _ hxw).mono ?_
  rintro e y2 ⟨rfl, hy⟩
  have hxw := hxw.trans hy
  have HT := Lib.hid (block_later HT.out hy)
  clear hy
  go_wp2_with (refine wpList_store_whole 57 (.tmp 4) (.tmp 30) rfl rfl w.heap.size rfl #[.string ⟨#[]⟩, .slice none 0 0] rfl _ 57 HT.out rfl info57s (by simp [Value.oneCell']) ?_)
  have hq := setRow_heap _ _ _ #[.string ⟨#[]⟩, .slice none 0 0] _ _ HT.out
  have g0 := cell_of_row _ _ 0 _ _ _ hq
  have g1 := cell_of_row _ _ 1 _ _ _ hq
  refine bodyPost_ret (v := .tuple #[.agg #[.string ⟨#[]⟩, .slice none 0 0], .bool false]) (by simp [results, Tryz.results52, go_sem, g0, g1]) rfl ⟨rfl, hxw.setRow (Nat.le_refl _) _⟩

set_option maxRecDepth 100000 in
set_option maxHeartbeats 4000000 in
theorem ctr_no3 (w : World) (vp vq : Value) (p q : List C) (hp : PredR w vp p) (hq : PredR w vq q) (kp : ∀ c ∈ p, okC c) (kq : ∀ c ∈ q, okC c) (m1 : mayP p = true) (m2 : mayP q = true) (m3 : coversF p q = true) :
    Calls Tryz.prog 52 #[vp, vq] w fun e w' => e = .returned (.tuple #[.agg #[.string ⟨#[]⟩, .slice none 0 0], .bool false]) ∧ Ext w w' := by
  obtain ⟨hx0, hT⟩ := boxes1 w (.cells #[.string ⟨#[]⟩, .slice none 0 0] 57)
  have h1 := pmay_any _ vp p (hp.ext hx0)
  have h2 := fun W (hW : Ext w W) => pmay_any W vq q (hq.ext hW)
  have h3 := fun W (hW : Ext w W) => covers_any W vp vq p q (hp.ext hW) (hq.ext hW) kp kq
  rw [m1] at h1
  rw [m2] at h2
  rw [m3] at h3
  clear m1 m2 m3
  obtain ⟨a1, cap1, rfl, _, _⟩ := hp.shape
  obtain ⟨a2, cap2, rfl, _, _⟩ := hq.shape
  have HT := Lib.hid hT
  have H1 := Lib.hid h1
  have H2 := Lib.hid h2
  have H3 := Lib.hid h3
  clear h1 h2 h3 hp hq kp kq hT
  generalize p.length = np at *
  generalize q.length = nq at *
  go_enter Tryz.func52, Tryz.ntmps52
  go_wp2_with fail
  refine H1.out.mono ?_
  rintro e y ⟨rfl, hy⟩
  have hxw := hx0.trans hy
  have HT := Lib.hid (block_later HT.out hy)
  clear hy hx0
  go_wp2_with fail
  refine (H2.out _ hxw).mono ?_
  rintro e y2 ⟨rfl, hy⟩
  have hxw := hxw.trans hy
  have HT := Lib.hid (block_later HT.out hy)
  clear hy
  go_wp2_with fail
  refine (H3.out _ hxw).mono ?_
  rintro e y2 ⟨rfl, hy⟩
  have hxw := hxw.trans hy
  have HT := Lib.hid (block_later HT.out hy)
  clear hy
  go_wp2_with (refine wpList_store_whole 57 (.tmp 4) (.tmp 30) rfl rfl w.heap.size rfl #[.string ⟨#[]⟩, .slice none 0 0] rfl _ 57 HT.out rfl info57s (by simp [Value.oneCell']) ?_)
  have hq := setRow_heap _ _ _ #[.string ⟨#[]⟩, .slice none 0 0] _ _ HT.out
  have g0 := cell_of_row _ _ 0 _ _ _ hq
  have g1 := cell_of_row _ _ 1 _ _ _ hq
  refine bodyPost_ret (v := .tuple #[.agg #[.string ⟨#[]⟩, .slice none 0 0], .bool false]) (by simp [results, Tryz.results52, go_sem, g0, g1]) rfl ⟨rfl, hxw.setRow (Nat.le_refl _) _⟩

set_option maxRecDepth 100000 in
set_option maxHeartbeats 8000000 in
theorem ctr_yes (w : World) (vp vq : Value) (p q : List C) (hp : PredR w vp p) (hq : PredR w vq q) (kp : ∀ c ∈ p, okC c) (kq : ∀ c ∈ q, okC c) (m1 : mayP p = true) (m2 : mayP q = true) (m3 : coversF p q = false) :
    Calls Tryz.prog 52 #[vp, vq] w fun e w' => ∃ va, e = .returned (.tuple #[.agg #[.string ⟨#[]⟩, va], .bool true]) ∧ AttrR w' va (ctrL p q (namesF q)).2 ∧ Ext w w' := by
  obtain ⟨hx0, hT⟩ := boxes1 w (.cells #[.string ⟨#[]⟩, .slice none 0 0] 57)
  have h1 := pmay_any _ vp p (hp.ext hx0)
  have h2 := fun W (hW : Ext w W) => pmay_any W vq q (hq.ext hW)
  have h3 := fun W (hW : Ext w W) => covers_any W vp vq p q (hp.ext hW) (hq.ext hW) kp kq
  rw [m1] at h1
  rw [m2] at h2
  rw [m3] at h3
  have hl1 := may_len m1
  have hl2 := may_len m2
  have hnl0 : (namesF q).length ≤ 6 := Nat.le_trans (names_len q) hl2
  have h4 := fun W (hW : Ext w W) => names_any W vq q (hq.ext hW) (by omega)
  have h5 := fun W name (hW : Ext w W) => asked_any W vp p name (hp.ext hW) kp
  have h6 := fun W name (hW : Ext w W) => asked_any W vq q name (hq.ext hW) kq
  rw [m1] at h5
  rw [m2] at h6
  simp only [if_true] at h5 h6
  obtain ⟨a1, cap1, rfl, _, _⟩ := hp.shape
  obtain ⟨a2, cap2, rfl, _, _⟩ := hq.shape
  have HT := Lib.hid hT
  have H1 := Lib.hid h1
  have H2 := Lib.hid h2
  have H3 := Lib.hid h3
  have H4 := Lib.hid h4
  have H5 := Lib.hid h5
  have H6 := Lib.hid h6
  clear h1 h2 h3 h4 h5 h6 hp hq kp kq hT m1 m2 m3
  generalize p.length = np at *
  generalize q.length = nq at *
  go_enter Tryz.func52, Tryz.ntmps52
  go_wp2_with fail
  refine H1.out.mono ?_
  rintro e y ⟨rfl, hy⟩
  have hxw := hx0.trans hy
  have HT := Lib.hid (block_later HT.out hy)
  clear hy hx0
  go_wp2_with fail
  refine (H2.out _ hxw).mono ?_
  rintro e y2 ⟨rfl, hy⟩
  have hxw := hxw.trans hy
  have HT := Lib.hid (block_later HT.out hy)
  clear hy
  go_wp2_with fail
  refine (H3.out _ hxw).mono ?_
  rintro e yb ⟨rfl, hy⟩
  obtain ⟨hxa, hB6⟩ := boxes1 yb (.cells #[.string ⟨#[]⟩, .slice none 0 0] 57)
  have hxy := hy.trans hxa
  have hxw := hxw.trans hxy
  have hlt6 := (Array.getElem?_eq_some_iff.1 (block_later HT.out hy)).1
  have HT := Lib.hid (block_later HT.out hxy)
  clear hy hxa hxy H1 H2 H3
  go_wp2_with fail
  refine (H4.out _ hxw).mono ?_
  rintro e yn ⟨v, rfl, hv, hy⟩
  have hxw := hxw.trans hy
  have HT := Lib.hid (block_later HT.out hy)
  have HB6 := Lib.hid (block_later hB6 hy)
  generalize hns : namesF q = ns at *
  have HNS := Lib.hid hns
  have hnl : ns.length ≤ 6 := hnl0
  obtain ⟨bN, hbN⟩ : ∃ bN, bN = (yb.alloc (.cells #[.string ⟨#[]⟩, .slice none 0 0] 57)).heap.size := ⟨_, rfl⟩
  rw [← hbN] at hv
  clear hbN hns hB6 hy H4
  obtain ⟨ao, co, rfl, _, _⟩ := Row.shape (Row.of_own hv)
  generalize hno : ns.length = no at *
  have HNO := Lib.hid hno
  have HON := Lib.hid hv
  clear hno hv
  have H0 : Hid ((false, ([] : List (List UInt8 × V))) = ctrL p q (ns.take 0)) := rfl
  have HOA : Hid (yn.ownsRow w.heap.size 60 5 (.slice none 0 0) ([] : List (List UInt8 × V)).length (([] : List (List UInt8 × V)).flatMap aC)) := ⟨rfl, .inl ⟨rfl, rfl⟩⟩
  go_wp2_with fail
  go_loopw [7, 34] (fun fnd i wr => ∃ (k : Nat) (f : Bool) (L : List (List UInt8 × V)) (va : Value), k ≤ no ∧ i = .int .i64 k ∧ fnd = .bool f ∧ Hid ((f, L) = ctrL p q (ns.take k)) ∧ Hid (wr.heap[yb.heap.size]? = some (.cells #[.string ⟨#[]⟩, va] 57 (0, 0))) ∧ Hid (wr.ownsRow w.heap.size 60 5 va L.length (L.flatMap aC)) ∧ Hid (wr.ownsRow bN 9 1 (.slice ao no co) no (ns.map stC)) ∧ Hid (wr.heap[w.heap.size]? = some (.cells #[.string ⟨#[]⟩, .slice none 0 0] 57 (0, 0))) ∧ Ext w wr) (fun _ i _ => no - (intOf i).toNat)
  case atStart => exact ⟨0, false, [], _, Nat.zero_le _, rfl, rfl, H0, HB6, HOA, HON, HT, hxw⟩
  case round =>
    clear H0 HB6 HOA HON HT hxw
    obtain ⟨k, f, L, va, hk, rfl, rfl, hst, HB6, HOA, HON, HT, hx⟩ := hrel
    by_cases hlt : k < no
    · have hI : decide ((k : Int) < (no : Int)) = true := decide_eq_true (by omega)
      have hkl : k < ns.length := by rw [HNO.out]; exact hlt
      have hstr : StrR wr (.slice ao no co) ns := by have := Row.of_own HON.out; unfold StrR; rw [HNO.out]; exact this
      obtain ⟨B, o, rfl, f0⟩ := StrR.at hstr hkl
      have hstep : ctrL p q (ns.take (k + 1)) = ctrS p q (f, L) ns[k] := by
        rw [List.take_succ_eq_append_getElem hkl, ctrL_snoc, ← hst.out]
      have hlen : L.length ≤ 6 := by
        have := ctrL_len p q (ns.take k)
        rw [← hst.out, List.length_take, HNO.out] at this
        simp only at this
        omega
      have HSTEP := Lib.hid hstep
      clear hstep hstr hst
      obtain ⟨va1, va2, rfl, _, _⟩ := Row.shape (Row.of_own HOA.out)
      generalize hm : L.length = m at *
      have HM := Lib.hid hm
      clear hm
      generalize ns[k] = name at *
      have hfp := few_asked p name
      have hfq := few_asked q name
      have HFP := Lib.hid hfp
      have HFQ := Lib.hid hfq
      have HGP := Lib.hid (good_asked p name)
      have HGQ := Lib.hid (good_asked q name)
      have h5 := fun W (hW : Ext w W) => H5.out W name hW
      have h6 := fun W (hW : Ext w W) => H6.out W name hW
      have HSTEP2 : Hid (ctrL p q (ns.take (k + 1)) = if !f && !((askedF q name).minus (askedF p name)).empty then (true, L ++ [(name, (someR ((askedF q name).minus (askedF p name))).1)]) else (f, L ++ [(name, (someR (askedF q name)).1)])) := HSTEP.out
      have H5n := Lib.hid h5
      have H6n := Lib.hid h6
      clear hfp hfq h5 h6 HSTEP
      generalize askedF p name = P at *
      generalize askedF q name = Q at *
      go_wp2_with fail
      refine (H5n.out _ hx).mono ?_
      rintro e y1 ⟨v, rfl, hv, hy1⟩
      obtain ⟨r1, r4, r2, r5, r3, r6, rfl, _, _, _⟩ := hv.ex
      obtain ⟨hxa, hD⟩ := boxes1 y1 (.cells #[.slice r1 P.i.length r4, .slice r2 P.s.length r5, .slice r3 P.b.length r6, .bool P.odd] 69)
      have hxr := hy1.trans hxa
      have HVP := Lib.hid (hv.ext hxa)
      have HD := Lib.hid hD
      clear hv hD hy1 hxa H5n f0
      generalize P.i.length = m1 at *
      generalize P.s.length = m2 at *
      generalize P.b.length = m3 at *
      generalize P.odd = mo at *
      go_wp2_with fail
      refine (H6n.out _ (hx.trans hxr)).mono ?_
      rintro e y2 ⟨v, rfl, hv, hy2⟩
      obtain ⟨s1, s4, s2, s5, s3, s6, rfl, _, _, _⟩ := hv.ex
      obtain ⟨hxa, hE⟩ := boxes1 y2 (.cells #[.slice s1 Q.i.length s4, .slice s2 Q.s.length s5, .slice s3 Q.b.length s6, .bool Q.odd] 69)
      have hxy := hy2.trans hxa
      have hlt12 : wr.heap.size ≤ y2.heap.size := (hxr.trans hy2).size
      have hxr := hxr.trans hxy
      have HVP := Lib.hid (HVP.out.ext hxy)
      have HD := Lib.hid (block_later HD.out hxy)
      have HVQ := Lib.hid (hv.ext hxa)
      have HE := Lib.hid hE
      have hmin := minusR_any _ _ _ Q P HVQ.out HVP.out HFQ.out.1 HGP.out.full (HFQ.out.2.mono (by omega)) (HFP.out.2.mono (by omega))
      have HMIN := Lib.hid hmin
      have q0 := cell_of_row _ _ 0 _ _ _ HD.out
      have q1 := cell_of_row _ _ 1 _ _ _ HD.out
      have q2 := cell_of_row _ _ 2 _ _ _ HD.out
      have q3 := cell_of_row _ _ 3 _ _ _ HD.out
      have z0 := cell_of_row _ _ 0 _ _ _ HE.out
      have z1 := cell_of_row _ _ 1 _ _ _ HE.out
      have z2 := cell_of_row _ _ 2 _ _ _ HE.out
      have z3 := cell_of_row _ _ 3 _ _ _ HE.out
      clear hv hE hy2 hxa hxy hmin H6n HVP HD HFP HFQ
      have HGM := Lib.hid (HGQ.out.minus HGP.out)
      generalize hMq : Q.minus P = M at *
      clear hMq
      generalize Q.i.length = n1 at *
      generalize Q.s.length = n2 at *
      generalize Q.b.length = n3 at *
      generalize Q.odd = qo at *
      go_wp2_with fail
      refine HMIN.out.mono ?_
      rintro e y3 ⟨v, rfl, hv, hy3⟩
      obtain ⟨t1, t4, t2, t5, t3, t6, rfl, _, _, _⟩ := hv.ex
      obtain ⟨hxa, hG⟩ := boxes1 y3 (.cells #[.slice t1 M.i.length t4, .slice t2 M.s.length t5, .slice t3 M.b.length t6, .bool M.odd] 69)
      have hxy := hy3.trans hxa
      have hxr := hxr.trans hxy
      have HVQ := Lib.hid (HVQ.out.ext hxy)
      have HE := Lib.hid (block_later HE.out hxy)
      have HVM := Lib.hid (hv.ext hxa)
      have HG := Lib.hid hG
      clear hv hG hy3 hxa hxy HMIN q0 q1 q2 q3 z0 z1 z2 z3
      generalize M.i.length = x1 at *
      generalize M.s.length = x2 at *
      generalize M.b.length = x3 at *
      generalize M.odd = xo at *
      go_upto_region 11 with fail
      generalize y3.alloc (.cells #[.slice t1 x1 t4, .slice t2 x2 t5, .slice t3 x3 t6, .bool xo] 69) = yc at *
      cases f with
      | true =>
        have HNEW : Hid (ctrL p q (ns.take (k + 1)) = (true, L ++ [(name, (someR Q).1)])) := HSTEP2.out
        have HVT := HVQ
        have HGT := HGQ
        clear HSTEP2 HVQ HGQ HVM HG HGM HGP
        have hsome := some_any _ _ _ HVT.out HGT.out
        have HSOME := Lib.hid hsome
        have z0 := cell_of_row _ _ 0 _ _ _ HE.out
        have z1 := cell_of_row _ _ 1 _ _ _ HE.out
        have z2 := cell_of_row _ _ 2 _ _ _ HE.out
        have z3 := cell_of_row _ _ 3 _ _ _ HE.out
        clear hsome HVT HGT
        generalize hST : someR Q = st at *
        have HST := Lib.hid hST
        clear hST
        go_wp2_with fail
        refine HSOME.out.mono ?_
        rintro e y5 ⟨rfl, hy5⟩
        obtain ⟨hxd, hF⟩ := boxes1 y5 (.cells #[.int .i64 st.1.k, .int .i64 st.1.n, .string (strOf st.1.s), .bool st.1.b] 34)
        have hrow := attr_row (y5.alloc (.cells #[.int .i64 st.1.k, .int .i64 st.1.n, .string (strOf st.1.s), .bool st.1.b] 34)) (name, st.1)
        rw [World.size_alloc] at hrow
        have hxe := hxd.alloc (.cells #[.string (strOf name), .int .i64 st.1.k, .int .i64 st.1.n, .string (strOf st.1.s), .bool st.1.b] 60)
        have hye := hxr.trans (hy5.trans hxe)
        have hxw := hx.trans hye
        have hB6a := block_later HB6.out (hxr.trans (hy5.trans hxd))
        have c1 := cell_of_row _ _ 1 _ _ _ hB6a
        have HB6 := Lib.hid (block_later HB6.out hye)
        have HT := Lib.hid (block_later HT.out hye)
        have HOA := Lib.hid (own_ext HOA.out hye)
        have HON := Lib.hid (own_ext HON.out hye)
        have f0 := cell_of_row _ _ 0 _ _ _ hF
        have f1 := cell_of_row _ _ 1 _ _ _ hF
        have f2 := cell_of_row _ _ 2 _ _ _ hF
        have f3 := cell_of_row _ _ 3 _ _ _ hF
        have HROW := Lib.hid hrow
        have hbase := hxw.size
        clear hF hrow hxd hxe hye hy5 z0 z1 z2 z3 HE hB6a hxr hx
        go_wp2_with (at_builtin; refine wpList_append_row 55 60 (.tmp 67) (.tmp 71) rfl w.heap.size _ 5 56 Tryz.underlying55 info52t rfl (by decide) rfl _ m (L.flatMap aC) rfl HOA.out 1 (aC (name, st.1)) HROW.out (aC_one _) (by omega) (by unfold maxLen; omega) hbase ?_; intro v' w' hown2 hg; obtain ⟨nb1, nb2, rfl, _, _⟩ := Row.shape (Row.of_own hown2); have hne6 := own_ne HOA.out HB6.out (by decide); have hb6n := (hg.block _ (Array.getElem?_eq_some_iff.1 HB6.out).1 (fun e => hne6 e.symm)).trans HB6.out; have hneT := own_ne HOA.out HT.out (by decide); have HT := Lib.hid ((hg.block _ (Array.getElem?_eq_some_iff.1 HT.out).1 (fun e => hneT e.symm)).trans HT.out); have HON := Lib.hid (own_keep HON.out hg (fun k hk e => own_apart HOA.out HON.out (by decide) k hk e)); have hxw := hxw.grown_none hg (own_base HOA.out); have d1 := cell_of_row _ _ 1 _ _ _ hb6n; have hfz : w'.frozen? ⟨yb.heap.size, 1, none⟩ = false := (by simp [World.frozen?, hb6n]); have HB6 := Lib.hid hb6n; have HOA := Lib.hid hown2; clear hown2 hg hne6 hneT hb6n)
        have hfin : ∃ L' : List (List UInt8 × V), Hid ((true, L') = ctrL p q (ns.take (k + 1))) ∧ L'.length = m + 1 ∧ L'.flatMap aC = L.flatMap aC ++ aC (name, st.1) := ⟨L ++ [(name, st.1)], HNEW.out.symm, (by simp [HM.out]), (by simp)⟩
        obtain ⟨L', hL1, hL2, hL3⟩ := hfin
        have HL2 := Lib.hid hL2
        have HL3 := Lib.hid hL3
        clear hL2 hL3
        go_roundw
        case rel =>
          refine ⟨k + 1, true, L', _, hlt, by go_num, rfl, hL1, setCell_block w' yb.heap.size 1 _ _ _ _ HB6.out, ?_, own_cell HON.out HB6.out (by decide) 1 _, (setCell_block_other w' ⟨yb.heap.size, 1, none⟩ _ w.heap.size (by simp; omega)).trans HT.out, hxw.setCell (by simp; omega) _⟩
          show World.ownsRow _ _ _ _ _ _ _
          rw [HL2.out, HL3.out]
          exact own_cell HOA.out HB6.out (by decide) 1 _
        case measure => simp [intOf]; omega
      | false =>
        have hem := empty_any yc _ M HVM.out
        have HEM := Lib.hid hem
        have q0 := cell_of_row _ _ 0 _ _ _ HG.out
        have q1 := cell_of_row _ _ 1 _ _ _ HG.out
        have q2 := cell_of_row _ _ 2 _ _ _ HG.out
        have q3 := cell_of_row _ _ 3 _ _ _ HG.out
        clear hem
        go_wp2_with fail
        refine HEM.out.mono ?_
        rintro e yd ⟨rfl, hyd⟩
        have hxr := hxr.trans hyd
        have HE := Lib.hid (block_later HE.out hyd)
        have HG := Lib.hid (block_later HG.out hyd)
        have HVQ := Lib.hid (HVQ.out.ext hyd)
        have HVM := Lib.hid (HVM.out.ext hyd)
        clear hyd q0 q1 q2 q3 HEM
        generalize hME : M.empty = em at *
        clear hME
        cases em with
        | true =>
          have HNEW : Hid (ctrL p q (ns.take (k + 1)) = (false, L ++ [(name, (someR Q).1)])) := HSTEP2.out
          have HVT := HVQ
          have HGT := HGQ
          clear HSTEP2 HVQ HGQ HVM HG HGM HGP
          have hsome := some_any _ _ _ HVT.out HGT.out
          have HSOME := Lib.hid hsome
          have z0 := cell_of_row _ _ 0 _ _ _ HE.out
          have z1 := cell_of_row _ _ 1 _ _ _ HE.out
          have z2 := cell_of_row _ _ 2 _ _ _ HE.out
          have z3 := cell_of_row _ _ 3 _ _ _ HE.out
          clear hsome HVT HGT
          generalize hST : someR Q = st at *
          have HST := Lib.hid hST
          clear hST
          go_wp2_with fail
          refine HSOME.out.mono ?_
          rintro e y5 ⟨rfl, hy5⟩
          obtain ⟨hxd, hF⟩ := boxes1 y5 (.cells #[.int .i64 st.1.k, .int .i64 st.1.n, .string (strOf st.1.s), .bool st.1.b] 34)
          have hrow := attr_row (y5.alloc (.cells #[.int .i64 st.1.k, .int .i64 st.1.n, .string (strOf st.1.s), .bool st.1.b] 34)) (name, st.1)
          rw [World.size_alloc] at hrow
          have hxe := hxd.alloc (.cells #[.string (strOf name), .int .i64 st.1.k, .int .i64 st.1.n, .string (strOf st.1.s), .bool st.1.b] 60)
          have hye := hxr.trans (hy5.trans hxe)
          have hxw := hx.trans hye
          have hB6a := block_later HB6.out (hxr.trans (hy5.trans hxd))
          have c1 := cell_of_row _ _ 1 _ _ _ hB6a
          have HB6 := Lib.hid (block_later HB6.out hye)
          have HT := Lib.hid (block_later HT.out hye)
          have HOA := Lib.hid (own_ext HOA.out hye)
          have HON := Lib.hid (own_ext HON.out hye)
          have f0 := cell_of_row _ _ 0 _ _ _ hF
          have f1 := cell_of_row _ _ 1 _ _ _ hF
          have f2 := cell_of_row _ _ 2 _ _ _ hF
          have f3 := cell_of_row _ _ 3 _ _ _ hF
          have HROW := Lib.hid hrow
          have hbase := hxw.size
          clear hF hrow hxd hxe hye hy5 z0 z1 z2 z3 HE hB6a hxr hx
          go_wp2_with (at_builtin; refine wpList_append_row 55 60 (.tmp 67) (.tmp 71) rfl w.heap.size _ 5 56 Tryz.underlying55 info52t rfl (by decide) rfl _ m (L.flatMap aC) rfl HOA.out 1 (aC (name, st.1)) HROW.out (aC_one _) (by omega) (by unfold maxLen; omega) hbase ?_; intro v' w' hown2 hg; obtain ⟨nb1, nb2, rfl, _, _⟩ := Row.shape (Row.of_own hown2); have hne6 := own_ne HOA.out HB6.out (by decide); have hb6n := (hg.block _ (Array.getElem?_eq_some_iff.1 HB6.out).1 (fun e => hne6 e.symm)).trans HB6.out; have hneT := own_ne HOA.out HT.out (by decide); have HT := Lib.hid ((hg.block _ (Array.getElem?_eq_some_iff.1 HT.out).1 (fun e => hneT e.symm)).trans HT.out); have HON := Lib.hid (own_keep HON.out hg (fun k hk e => own_apart HOA.out HON.out (by decide) k hk e)); have hxw := hxw.grown_none hg (own_base HOA.out); have d1 := cell_of_row _ _ 1 _ _ _ hb6n; have hfz : w'.frozen? ⟨yb.heap.size, 1, none⟩ = false := (by simp [World.frozen?, hb6n]); have HB6 := Lib.hid hb6n; have HOA := Lib.hid hown2; clear hown2 hg hne6 hneT hb6n)
          have hfin : ∃ L' : List (List UInt8 × V), Hid ((false, L') = ctrL p q (ns.take (k + 1))) ∧ L'.length = m + 1 ∧ L'.flatMap aC = L.flatMap aC ++ aC (name, st.1) := ⟨L ++ [(name, st.1)], HNEW.out.symm, (by simp [HM.out]), (by simp)⟩
          obtain ⟨L', hL1, hL2, hL3⟩ := hfin
          have HL2 := Lib.hid hL2
          have HL3 := Lib.hid hL3
          clear hL2 hL3
          go_roundw
          case rel =>
            refine ⟨k + 1, false, L', _, hlt, by go_num, rfl, hL1, setCell_block w' yb.heap.size 1 _ _ _ _ HB6.out, ?_, own_cell HON.out HB6.out (by decide) 1 _, (setCell_block_other w' ⟨yb.heap.size, 1, none⟩ _ w.heap.size (by simp; omega)).trans HT.out, hxw.setCell (by simp; omega) _⟩
            show World.ownsRow _ _ _ _ _ _ _
            rw [HL2.out, HL3.out]
            exact own_cell HOA.out HB6.out (by decide) 1 _
          case measure => simp [intOf]; omega
        | false =>
          have HNEW : Hid (ctrL p q (ns.take (k + 1)) = (true, L ++ [(name, (someR M).1)])) := HSTEP2.out
          have q0 := cell_of_row _ _ 0 _ _ _ HG.out
          have q1 := cell_of_row _ _ 1 _ _ _ HG.out
          have q2 := cell_of_row _ _ 2 _ _ _ HG.out
          have q3 := cell_of_row _ _ 3 _ _ _ HG.out
          have hq := setRow_heap _ _ _ #[.slice t1 x1 t4, .slice t2 x2 t5, .slice t3 x3 t6, .bool xo] _ _ HE.out
          have hvt := rgr_set (cs := #[.slice t1 x1 t4, .slice t2 x2 t5, .slice t3 x3 t6, .bool xo]) HVM.out HE.out (by simp)
          have hxr2 := hxr.setRow hlt12 #[.slice t1 x1 t4, .slice t2 x2 t5, .slice t3 x3 t6, .bool xo]
          generalize hye : yd.setRow y2.heap.size #[.slice t1 x1 t4, .slice t2 x2 t5, .slice t3 x3 t6, .bool xo] = ye at *
          have HYE := Lib.hid hye
          have HOE := HE
          have HE := Lib.hid hq
          have HVT := Lib.hid hvt
          have HGT := HGM
          clear hye hq hvt HSTEP2 HVQ HGQ HVM HG HGM HGP hxr
          have hxr := hxr2
          clear hxr2
          go_upto_region 13 with (refine wpList_store_whole 69 (.tmp 12) (.tmp 60) rfl rfl y2.heap.size rfl #[.slice t1 x1 t4, .slice t2 x2 t5, .slice t3 x3 t6, .bool xo] rfl _ 69 HOE.out rfl info69s (by simp [Value.oneCell']) ?_; rw [HYE.out])
          clear q0 q1 q2 q3 HOE HYE
          have hsome := some_any _ _ _ HVT.out HGT.out
          have HSOME := Lib.hid hsome
          have z0 := cell_of_row _ _ 0 _ _ _ HE.out
          have z1 := cell_of_row _ _ 1 _ _ _ HE.out
          have z2 := cell_of_row _ _ 2 _ _ _ HE.out
          have z3 := cell_of_row _ _ 3 _ _ _ HE.out
          clear hsome HVT HGT
          generalize hST : someR M = st at *
          have HST := Lib.hid hST
          clear hST
          go_wp2_with fail
          refine HSOME.out.mono ?_
          rintro e y5 ⟨rfl, hy5⟩
          obtain ⟨hxd, hF⟩ := boxes1 y5 (.cells #[.int .i64 st.1.k, .int .i64 st.1.n, .string (strOf st.1.s), .bool st.1.b] 34)
          have hrow := attr_row (y5.alloc (.cells #[.int .i64 st.1.k, .int .i64 st.1.n, .string (strOf st.1.s), .bool st.1.b] 34)) (name, st.1)
          rw [World.size_alloc] at hrow
          have hxe := hxd.alloc (.cells #[.string (strOf name), .int .i64 st.1.k, .int .i64 st.1.n, .string (strOf st.1.s), .bool st.1.b] 60)
          have hye := hxr.trans (hy5.trans hxe)
          have hxw := hx.trans hye
          have hB6a := block_later HB6.out (hxr.trans (hy5.trans hxd))
          have c1 := cell_of_row _ _ 1 _ _ _ hB6a
          have HB6 := Lib.hid (block_later HB6.out hye)
          have HT := Lib.hid (block_later HT.out hye)
          have HOA := Lib.hid (own_ext HOA.out hye)
          have HON := Lib.hid (own_ext HON.out hye)
          have f0 := cell_of_row _ _ 0 _ _ _ hF
          have f1 := cell_of_row _ _ 1 _ _ _ hF
          have f2 := cell_of_row _ _ 2 _ _ _ hF
          have f3 := cell_of_row _ _ 3 _ _ _ hF
          have HROW := Lib.hid hrow
          have hbase := hxw.size
          clear hF hrow hxd hxe hye hy5 z0 z1 z2 z3 HE hB6a hxr hx
          go_wp2_with (at_builtin; refine wpList_append_row 55 60 (.tmp 67) (.tmp 71) rfl w.heap.size _ 5 56 Tryz.underlying55 info52t rfl (by decide) rfl _ m (L.flatMap aC) rfl HOA.out 1 (aC (name, st.1)) HROW.out (aC_one _) (by omega) (by unfold maxLen; omega) hbase ?_; intro v' w' hown2 hg; obtain ⟨nb1, nb2, rfl, _, _⟩ := Row.shape (Row.of_own hown2); have hne6 := own_ne HOA.out HB6.out (by decide); have hb6n := (hg.block _ (Array.getElem?_eq_some_iff.1 HB6.out).1 (fun e => hne6 e.symm)).trans HB6.out; have hneT := own_ne HOA.out HT.out (by decide); have HT := Lib.hid ((hg.block _ (Array.getElem?_eq_some_iff.1 HT.out).1 (fun e => hneT e.symm)).trans HT.out); have HON := Lib.hid (own_keep HON.out hg (fun k hk e => own_apart HOA.out HON.out (by decide) k hk e)); have hxw := hxw.grown_none hg (own_base HOA.out); have d1 := cell_of_row _ _ 1 _ _ _ hb6n; have hfz : w'.frozen? ⟨yb.heap.size, 1, none⟩ = false := (by simp [World.frozen?, hb6n]); have HB6 := Lib.hid hb6n; have HOA := Lib.hid hown2; clear hown2 hg hne6 hneT hb6n)
          have hfin : ∃ L' : List (List UInt8 × V), Hid ((true, L') = ctrL p q (ns.take (k + 1))) ∧ L'.length = m + 1 ∧ L'.flatMap aC = L.flatMap aC ++ aC (name, st.1) := ⟨L ++ [(name, st.1)], HNEW.out.symm, (by simp [HM.out]), (by simp)⟩
          obtain ⟨L', hL1, hL2, hL3⟩ := hfin
          have HL2 := Lib.hid hL2
          have HL3 := Lib.hid hL3
          clear hL2 hL3
          go_roundw
          case rel =>
            refine ⟨k + 1, true, L', _, hlt, by go_num, rfl, hL1, setCell_block w' yb.heap.size 1 _ _ _ _ HB6.out, ?_, own_cell HON.out HB6.out (by decide) 1 _, (setCell_block_other w' ⟨yb.heap.size, 1, none⟩ _ w.heap.size (by simp; omega)).trans HT.out, hxw.setCell (by simp; omega) _⟩
            show World.ownsRow _ _ _ _ _ _ _
            rw [HL2.out, HL3.out]
            exact own_cell HOA.out HB6.out (by decide) 1 _
          case measure => simp [intOf]; omega
    · obtain rfl : k = no := by omega
      have hI : decide ((k : Int) < (k : Int)) = false := decide_eq_false (by omega)
      have hfin : Hid ((ctrL p q ns).2 = L) := by
        have h := congrArg Prod.snd hst.out
        rw [List.take_of_length_le (by rw [HNO.out]; exact Nat.le_refl _)] at h
        exact h.symm
      obtain ⟨va1, va2, rfl, _, _⟩ := Row.shape (Row.of_own HOA.out)
      have d0 := cell_of_row _ _ 0 _ _ _ HB6.out
      have d1 := cell_of_row _ _ 1 _ _ _ HB6.out
      have hres := own_setRow HOA.out HT.out (by decide) #[.string ⟨#[]⟩, .slice va1 L.length va2]
      have HRES := Lib.hid hres
      clear hres HOA hst
      generalize hm : L.length = m at *
      have HM := Lib.hid hm
      clear hm
      go_wp2_with (refine wpList_store_whole 57 (.tmp 4) (.tmp 75) rfl rfl w.heap.size rfl #[.string ⟨#[]⟩, .slice va1 m va2] rfl _ 57 HT.out rfl info57s (by simp [Value.oneCell']) ?_)
      have hq := setRow_heap _ _ _ #[.string ⟨#[]⟩, .slice va1 m va2] _ _ HT.out
      have g0 := cell_of_row _ _ 0 _ _ _ hq
      have g1 := cell_of_row _ _ 1 _ _ _ hq
      refine bodyPost_ret (v := .tuple #[.agg #[.string ⟨#[]⟩, .slice va1 m va2], .bool true]) (by simp [results, Tryz.results52, go_sem, g0, g1]) rfl ⟨_, rfl, ?_, hx.setRow (Nat.le_refl _) _⟩
      rw [HNS.out, hfin.out]
      unfold AttrR
      rw [HM.out]
      exact Row.of_own HRES.out

theorem counter_any (w : World) (vp vq : Value) (p q : List C) (hp : PredR w vp p) (hq : PredR w vq q) (kp : ∀ c ∈ p, okC c) (kq : ∀ c ∈ q, okC c) :
    Calls Tryz.prog 52 #[vp, vq] w fun e w' => ∃ va, e = .returned (.tuple #[.agg #[.string ⟨#[]⟩, va], .bool (counterF p q).2]) ∧ AttrR w' va (counterF p q).1 ∧ Ext w w' := by
  unfold counterF
  have no : Calls Tryz.prog 52 #[vp, vq] w (fun e w' => e = .returned (.tuple #[.agg #[.string ⟨#[]⟩, .slice none 0 0], .bool false]) ∧ Ext w w') → Calls Tryz.prog 52 #[vp, vq] w fun e w' => ∃ va, e = .returned (.tuple #[.agg #[.string ⟨#[]⟩, va], .bool false]) ∧ AttrR w' va [] ∧ Ext w w' := fun h =>
    h.mono fun e w' ⟨he, hx⟩ => ⟨_, he, AttrR.nil w', hx⟩
  cases m1 : mayP p with
  | false => exact no (ctr_no1 w vp vq p q hp hq kp kq m1)
  | true =>
    cases m2 : mayP q with
    | false => exact no (ctr_no2 w vp vq p q hp hq kp kq m1 m2)
    | true =>
      cases m3 : coversF p q with
      | true => exact no (ctr_no3 w vp vq p q hp hq kp kq m1 m2 m3)
      | false => exact ctr_yes w vp vq p q hp hq kp kq m1 m2 m3
end Go.Proofs.YtcgflkfbjnpdiaaGreat

namespace Go.Proofs.YtcgflkfbjnpdiaaGreat
open Go.RowKit

theorem row_at {w : World} {b n size : Nat} {ty : TypeId} {xs : List Value} (h : w.heap[b]? = some (.cells xs.toArray ty (0, 0))) (hl : xs.length = n * size) (hm : n ≤ maxLen) : Row w size (.slice (some ⟨b, 0, none⟩) n n) n xs := by
  refine ⟨hl, _, _, rfl, Nat.le_refl _, hm, by simp, fun p hp _ => by cases hp; rfl, fun j u hj => ⟨_, rfl, ?_⟩⟩
  simp only [Nat.zero_add]
  rw [cell_of_row _ _ _ _ _ _ h]
  simpa using hj
theorem set_at {w : World} {b : Nat} (l : List V) (h : w.heap[b]? = some (.cells (l.flatMap vC).toArray 34 (0, 0))) (hm : l.length ≤ maxLen) : SetR w (.slice (some ⟨b, 0, none⟩) l.length l.length) l :=
  row_at h (flat_len vC 4 vC_len l) hm
theorem pred_at {w : World} {b : Nat} (us : List CS) (h : w.heap[b]? = some (.cells (us.flatMap csC).toArray 37 (0, 0))) (hm : us.length ≤ maxLen) (hs : ∀ x ∈ us, SetR w x.h x.c.set) : PredR w (.slice (some ⟨b, 0, none⟩) us.length us.length) (us.map CS.c) :=
  PredR.mk us (row_at h (flat_len csC 7 csC_len us) hm) hs
theorem attr_at {w : World} {b : Nat} (l : List (List UInt8 × V)) (h : w.heap[b]? = some (.cells (l.flatMap aC).toArray 60 (0, 0))) (hm : l.length ≤ maxLen) : AttrR w (.slice (some ⟨b, 0, none⟩) l.length l.length) l :=
  row_at h (flat_len aC 5 aC_len l) hm
/-- A constraint without a set. -/
def cs0 (c : C) : CS := ⟨c, .slice none 0 0⟩
theorem sets0 {w : World} {p : List C} (h : (p.all fun c => c.set.isEmpty) = true) : ∀ x ∈ p.map cs0, SetR w x.h x.c.set := by
  intro x hx
  obtain ⟨c, hc, rfl⟩ := List.mem_map.1 hx
  have h1 := List.all_eq_true.1 h c hc
  have h2 : c.set = [] := List.isEmpty_iff.1 h1
  show SetR w (.slice none 0 0) c.set
  rw [h2]; exact SetR.nil w
theorem pred0 {w : World} {b : Nat} (p : List C) (h : w.heap[b]? = some (.cells ((p.map cs0).flatMap csC).toArray 37 (0, 0))) (hs : (p.all fun c => c.set.isEmpty) = true) (hm : p.length ≤ maxLen) : PredR w (.slice (some ⟨b, 0, none⟩) p.length p.length) p := by
  have := pred_at (p.map cs0) h (by rw [List.length_map]; exact hm) (sets0 hs)
  rw [List.length_map, List.map_map] at this
  have e : (CS.c ∘ cs0) = id := rfl
  rw [e, List.map_id] at this
  exact this
def okNB (n : Int) : Bool := decide (-9223372036854775808 ≤ n) && decide (n ≤ 9223372036854775807)
def okVB (v : V) : Bool := okNB v.k && okNB v.n && decide (v.s.length ≤ 1000)
def okCB (c : C) : Bool := decide (c.name.length ≤ 1000) && okNB c.op && okVB c.v && c.set.all okVB
theorem okNB_ok {n : Int} (h : okNB n = true) : okN n := by
  unfold okNB at h
  simp only [Bool.and_eq_true, decide_eq_true_eq] at h
  exact h
theorem okVB_ok {v : V} (h : okVB v = true) : okV v := by
  unfold okVB at h
  simp only [Bool.and_eq_true, decide_eq_true_eq] at h
  exact ⟨okNB_ok h.1.1, okNB_ok h.1.2, by unfold maxLen; omega⟩
theorem okCB_ok {c : C} (h : okCB c = true) : okC c := by
  unfold okCB at h
  simp only [Bool.and_eq_true, decide_eq_true_eq] at h
  exact ⟨by unfold maxLen; omega, okNB_ok h.1.1.2, okVB_ok h.1.2, fun x hx => okVB_ok (List.all_eq_true.1 h.2 x hx)⟩
theorem okL {p : List C} (h : p.all okCB = true) : ∀ c ∈ p, okC c := fun c hc => okCB_ok (List.all_eq_true.1 h c hc)

set_option maxRecDepth 100000 in
set_option maxHeartbeats 2000000 in
theorem con39_any (w : World) (s : ByteArray) (op n : Int) : Calls Tryz.prog 49 #[.string s, .int .i64 op, .int .i64 n] w fun e w' => e = .returned (.agg #[.string s, .int .i64 op, .int .i64 1, .int .i64 n, .string ⟨#[]⟩, .bool false, .slice none 0 0]) ∧ Ext w w' := by
  obtain ⟨hx0, hT⟩ := boxes1 w (.cells #[.string ⟨#[]⟩, .int .i64 0, .int .i64 0, .int .i64 0, .string ⟨#[]⟩, .bool false, .slice none 0 0] 37)
  have HT := Lib.hid hT
  clear hT
  go_enter Tryz.func49, Tryz.ntmps49
  go_wp2_with fail
  refine (number_any _ n).mono ?_
  rintro e y ⟨rfl, hy⟩
  have HT := Lib.hid (block_later HT.out hy.1)
  have hxw := hx0.trans hy.1
  clear hy hx0
  go_wp2_with (refine wpList_store_whole 37 (.tmp 6) (.tmp 11) rfl rfl w.heap.size rfl #[.string s, .int .i64 op, .int .i64 1, .int .i64 n, .string (strOf []), .bool false, .slice none 0 0] rfl _ 37 HT.out rfl size31 (by simp [Value.oneCell']) ?_)
  have hq := setRow_heap _ _ _ #[.string s, .int .i64 op, .int .i64 1, .int .i64 n, .string (strOf []), .bool false, .slice none 0 0] _ _ HT.out
  have g0 := cell_of_row _ _ 0 _ _ _ hq
  have g1 := cell_of_row _ _ 1 _ _ _ hq
  have g2 := cell_of_row _ _ 2 _ _ _ hq
  have g3 := cell_of_row _ _ 3 _ _ _ hq
  have g4 := cell_of_row _ _ 4 _ _ _ hq
  have g5 := cell_of_row _ _ 5 _ _ _ hq
  have g6 := cell_of_row _ _ 6 _ _ _ hq
  refine bodyPost_ret (v := .agg #[.string s, .int .i64 op, .int .i64 1, .int .i64 n, .string (strOf []), .bool false, .slice none 0 0]) (by simp [results, Tryz.results49, go_sem, g0, g1, g2, g3, g4, g5, g6]) rfl ⟨rfl, hxw.setRow (Nat.le_refl _) _⟩

set_option maxRecDepth 100000 in
set_option maxHeartbeats 2000000 in
theorem str41_any (w : World) (s : ByteArray) (op : Int) (t : ByteArray) : Calls Tryz.prog 51 #[.string s, .int .i64 op, .string t] w fun e w' => e = .returned (.agg #[.string s, .int .i64 op, .int .i64 2, .int .i64 0, .string t, .bool false, .slice none 0 0]) ∧ Ext w w' := by
  obtain ⟨hx0, hT⟩ := boxes1 w (.cells #[.string ⟨#[]⟩, .int .i64 0, .int .i64 0, .int .i64 0, .string ⟨#[]⟩, .bool false, .slice none 0 0] 37)
  have hwd := fun W => word_any W t.data.toList
  rw [strOf_of] at hwd
  have HWD := Lib.hid hwd
  have HT := Lib.hid hT
  clear hT hwd
  go_enter Tryz.func51, Tryz.ntmps51
  go_wp2_with fail
  refine (HWD.out _).mono ?_
  rintro e y ⟨rfl, hy⟩
  have HT := Lib.hid (block_later HT.out hy.1)
  have hxw := hx0.trans hy.1
  clear hy hx0
  go_wp2_with (refine wpList_store_whole 37 (.tmp 6) (.tmp 11) rfl rfl w.heap.size rfl #[.string s, .int .i64 op, .int .i64 2, .int .i64 0, .string t, .bool false, .slice none 0 0] rfl _ 37 HT.out rfl size31 (by simp [Value.oneCell']) ?_)
  have hq := setRow_heap _ _ _ #[.string s, .int .i64 op, .int .i64 2, .int .i64 0, .string t, .bool false, .slice none 0 0] _ _ HT.out
  have g0 := cell_of_row _ _ 0 _ _ _ hq
  have g1 := cell_of_row _ _ 1 _ _ _ hq
  have g2 := cell_of_row _ _ 2 _ _ _ hq
  have g3 := cell_of_row _ _ 3 _ _ _ hq
  have g4 := cell_of_row _ _ 4 _ _ _ hq
  have g5 := cell_of_row _ _ 5 _ _ _ hq
  have g6 := cell_of_row _ _ 6 _ _ _ hq
  refine bodyPost_ret (v := .agg #[.string s, .int .i64 op, .int .i64 2, .int .i64 0, .string t, .bool false, .slice none 0 0]) (by simp [results, Tryz.results51, go_sem, g0, g1, g2, g3, g4, g5, g6]) rfl ⟨rfl, hxw.setRow (Nat.le_refl _) _⟩

end Go.Proofs.YtcgflkfbjnpdiaaGreat
