/- Rows of predicates: Insert of one, at any place.
pred.list's sorted and once.
slices.Compact at values.
pred.Normal.
Subs (24), plainly: a table's lists, and what calls leave of them. No program is in sight.
Subs (24): has, laid, copied.
Subs (24): copied; once.
DERIVED: THE SHELF's CONTRACTS AT THIS DUMP, IN PLAIN WORDS (tools/lay-plain.mjs out of 'YtlhbpflcffjhmaaGreatSh.lean', which tools/lay-shelf.mjs wrote): THE SAME DECLARATIONS UNDER THE SAME YtlhbpflcffjhmaaGreatS: 'import', 'namespace', 'open', 'def', 'theorem' AND NOTHING ELSE: no command of the shelf's: FOR A HAND-IN. Each laying: the table of numbers ('.._ren') and one theorem, a field a fact of the dump's own or the kernel's comparison; each contract: ONE APPLICATION.
slices.Sort at strings.
slices.Compact at strings. -/
import Derived.WalkKit
import Derived.Lib.Hide
import Derived.Deep.CutBlock
import Derived.Deep.QuietTactic
import Derived.BigQuiet
import Derived.Deep.MidRow
import Derived.Outline
import Derived.Shelf.Sort.Plain
import Derived.Shelf.Slices.In.SortNone
import Derived.Shelf.Slices.In.SortNone2
import Derived.Test.YtlhbpflcffjhmaaGreatProg
import Derived.Test.YtlhbpflcffjhmaaGreatPk8
import Derived.Test.YtlhbpflcffjhmaaGreatPk2
import Derived.Test.YtlhbpflcffjhmaaGreatPk3
import Derived.Test.YtlhbpflcffjhmaaGreatPk4
namespace Go.Proofs.YtlhbpflcffjhmaaGreat
open Go.RowKit Go.Sort Go.MapKept

theorem ext_own {a b c : World} {g : Nat} (h : Ext a b) (k : b.grownBy c (some g)) (hg : a.heap.size ≤ g) : Ext a c :=
  ⟨k.os.trans h.os, k.tape.trans h.tape, k.output.trans h.output, Nat.le_trans h.size k.size, fun i hi => (k.block i (Nat.lt_of_lt_of_le hi h.size) (by intro e; have := Option.some.inj e; omega)).trans (h.block i hi)⟩
theorem three_parts {α : Type} (a z : List α) (y : α) (d : List α) (hz : z.length = d.length + 1) :
    ((a ++ z).take a.length ++ [y] ++ (a ++ z).drop (a.length + 1)).take (a.length + 1) ++ d ++ ((a ++ z).take a.length ++ [y] ++ (a ++ z).drop (a.length + 1)).drop (a.length + 1 + d.length) = a ++ y :: d := by
  have e1 : (a ++ z).take a.length = a := List.take_left' rfl
  have e2 : (a ++ z).drop (a.length + 1) = z.drop 1 := by rw [← List.drop_drop, List.drop_left' rfl]
  rw [e1, e2, List.take_left' (by rw [List.length_append]; rfl), List.drop_eq_nil_of_le (by simp only [List.length_append, List.length_drop, List.length_singleton]; omega), List.append_nil, List.append_assoc]
  rfl
set_option maxRecDepth 100000 in
set_option maxHeartbeats 4000000 in
theorem insQ_grow (w : World) (base g cap : Nat) (us : List PP) (ho : OwnQ w base (.slice (some ⟨g, 0, none⟩) us.length cap) us) (hone : ∀ y ∈ us, y.h.oneCell' = true) (x : PP) (hx1 : x.h.oneCell' = true) (vb : Nat) (hb : w.heap[vb]? = some (.cells #[x.h] 25 (0, 0)))
    (hl : us.length ≤ 1000000) (i : Nat) (hi : i < us.length) (hroom : us.length = cap) :
    Calls Tryz.prog 92 #[.slice (some ⟨g, 0, none⟩) us.length cap, .int .i64 i, .slice (some ⟨vb, 0, none⟩) 1 1] w
      fun e w' => ∃ v', e = .returned v' ∧ OwnQ w' w.heap.size v' (insP us i x) ∧ Ext w w' := by
  have hins := insP_map us i x
  have hil := insP_len us i x (Nat.le_of_lt hi)
  have h1c := own_one ho hone
  have ho' : w.ownsRow base 25 1 (.slice (some ⟨g, 0, none⟩) us.length cap) us.length (us.map PP.h) := by rw [← flat_ppC]; exact ho
  have hxl : (us.map PP.h).length = us.length := List.length_map _
  unfold OwnQ
  rw [hins, hil]
  clear ho hins hil hone
  generalize us.map PP.h = xs at *
  generalize us.length = n at *
  subst hroom
  obtain ⟨cur, hg, _, _, hmx, hsz, hlt, _⟩ := own_holds ho'
  have hcx : w.cell? ⟨vb, 0, none⟩ = some x.h := cell_of_row _ _ 0 _ _ _ hb
  have hvw : vb < w.heap.size := (Array.getElem?_eq_some_iff.1 hb).1
  obtain ⟨i0, hi0, hz0, hzs, hzb⟩ := info_parts infoQ
  have hold : (Builtin.firstCells i0.size i (.slice (some ⟨g, 0, none⟩) i n)).run Tryz.prog w.drew = .ok (xs.take i).toArray w.drew := by
    rw [hzs]
    exact run_firstCells_some w.drew 1 i ⟨g, 0, none⟩ i n (xs.take i) (by rw [List.length_take]; omega) (fun j v hj => by
      rw [Addr.add_mid, Nat.zero_add]
      rw [List.getElem?_take] at hj
      split at hj
      · exact own_cells ho' j v hj
      · cases hj)
  obtain ⟨G, hG⟩ : ∃ G, G = grownCap w (n + 1) n 25 := ⟨_, rfl⟩
  have hGn : n + 1 ≤ G := by rw [hG]; exact grownCap_ge w _ _ _
  have hGm : G ≤ maxLen := by rw [hG]; exact grownCap_le_maxLen w _ _ _ (by unfold maxLen; omega)
  obtain ⟨ROW, hROW⟩ : ∃ ROW : Array Value, ROW = (xs.take i).toArray ++ Builtin.zeroCells (Value.slice none 0 0).cells (n + 1 - i) ++ Builtin.zeroCells (Value.slice none 0 0).cells (G - (n + 1)) := ⟨_, rfl⟩
  have hrz : (Builtin.append_ #[22, 3] 22 #[.slice (some ⟨g, 0, none⟩) i n, .int .i64 ((n : Int) + 1 - (i : Int))]).run Tryz.prog w = .ok (.slice (some ⟨w.heap.size, 0, none⟩) (n + 1) G) (w.drew.alloc (.cells ROW 25)) := by
    have h := Lib.run_append_grow_zeros w 22 3 22 25 i0 _ .i64 .i64 Tryz.underlying22 Tryz.underlying3 hi0 hz0 (some ⟨g, 0, none⟩) i n (xs.take i) hold (n + 1 - i) (by omega) (by omega) (by omega) (by omega) (by rw [hzb]; omega) (by rw [hzb, show i + (n + 1 - i) = n + 1 by omega]; exact growslice_fits (by omega) (by omega))
    rw [show i + (n + 1 - i) = n + 1 by omega, ← hG, ← hROW] at h
    rw [show ((n : Int) + 1 - (i : Int)) = ((n + 1 - i : Nat) : Int) by omega]
    exact h
  have hRs : ROW.size = G := by
    rw [hROW]
    simp [Builtin.zeroCells, Value.cells]
    omega
  obtain ⟨zs, hzl, hRt⟩ : ∃ zs : List Value, zs.length = n + 1 - i ∧ ROW.toList.take (n + 1) = xs.take i ++ zs := by
    refine ⟨(Builtin.zeroCells (Value.slice none 0 0).cells (n + 1 - i)).toList, by simp [Builtin.zeroCells, Value.cells], ?_⟩
    rw [hROW, Array.toList_append, Array.toList_append]
    rw [List.take_left' (by simp [Builtin.zeroCells, Value.cells]; omega)]
  obtain ⟨W1, hW1⟩ : ∃ W1, W1 = w.drew.alloc (.cells ROW 25) := ⟨_, rfl⟩
  have hx1' : Ext w W1 := by rw [hW1]; exact ((Ext.refl w).drew).alloc _
  have hO1 : W1.ownsRow w.heap.size 25 1 (.slice (some ⟨w.heap.size, 0, none⟩) (n + 1) G) (n + 1) (xs.take i ++ zs) := by
    refine ⟨by rw [List.length_append, List.length_take]; omega, .inr ⟨w.heap.size, G, ROW, rfl, Nat.le_refl _, ?_, hGn, hGm, by rw [hRs, Nat.mul_one], by rw [Nat.mul_one]; exact hRt⟩⟩
    rw [hW1]
    exact heap_alloc_new w.drew _
  have e3 : (xs.take i).length = i := by rw [List.length_take]; omega
  rw [← hW1] at hrz
  have hcpA : (Builtin.copy_ #[22, 22] 3 #[.slice (some ⟨w.heap.size, i, none⟩) (n + 1 - i) (G - i), .slice (some ⟨vb, 0, none⟩) 1 1]).run Tryz.prog W1 = .ok (goInt [x.h].length) (W1.setCells w.heap.size i [x.h]) :=
    run_copyQ W1 3 w.heap.size i (n + 1 - i) (G - i) vb 0 1 1 [x.h] (by simp only [List.length_singleton, Nat.min_def]; split <;> omega) (fun j v hj => by
      cases j with
      | zero => simp only [List.getElem?_cons_zero, Option.some.injEq] at hj; subst hj; exact hx1'.cell hcx
      | succ j => simp at hj) (fun j hj => by rw [List.length_singleton] at hj; exact own_spare hO1 (i + j) (by omega)) (fun v hv => by rw [List.mem_singleton.1 hv]; exact hx1)
  have hs2 := own_setCells hO1 i [x.h] (by simp only [List.length_append, List.length_singleton]; omega)
  obtain ⟨W2, hW2⟩ : ∃ W2, W2 = W1.setCells w.heap.size i [x.h] := ⟨_, rfl⟩
  rw [← hW2] at hcpA hs2
  have hcg : ∀ j v, w.cell? ⟨g, j, none⟩ = some v → W2.cell? ⟨g, j, none⟩ = some v := fun j v hj => by
    rw [hW2, setCells_out _ _ _ _ _ _ (by omega)]
    exact hx1'.cell hj
  have hcpB : (Builtin.copy_ #[22, 22] 3 #[.slice (some ⟨w.heap.size, i + 1, none⟩) (n - i) (G - (i + 1)), .slice (some ⟨g, i, none⟩) (n - i) (n - i)]).run Tryz.prog W2.drew = .ok (goInt (xs.drop i).length) (W2.drew.setCells w.heap.size (i + 1) (xs.drop i)) :=
    run_copyQ W2.drew 3 w.heap.size (i + 1) (n - i) (G - (i + 1)) g i (n - i) (n - i) (xs.drop i) (by rw [List.length_drop, hxl]; simp only [Nat.min_def]; split <;> omega) (fun j v hj => hcg _ v (own_cells ho' (i + j) v (by rwa [List.getElem?_drop] at hj))) (fun j hj => own_spare (w := W2.drew) hs2.1 (i + 1 + j) (by rw [List.length_drop, hxl] at hj; omega)) (fun v hv => h1c v (List.mem_of_mem_drop hv))
  have hs3 := own_setCells (w := W2.drew) hs2.1 (i + 1) (xs.drop i) (by simp only [List.length_append, List.length_take, List.length_drop, List.length_singleton]; omega)
  have hfin : List.take (i + 1) (List.take i (xs.take i ++ zs) ++ [x.h] ++ List.drop (i + [x.h].length) (xs.take i ++ zs)) ++ xs.drop i ++ List.drop (i + 1 + (xs.drop i).length) (List.take i (xs.take i ++ zs) ++ [x.h] ++ List.drop (i + [x.h].length) (xs.take i ++ zs)) = xs.take i ++ x.h :: xs.drop i := by
    have := three_parts (xs.take i) zs x.h (xs.drop i) (by rw [List.length_drop]; omega)
    rw [e3] at this
    exact this
  rw [hfin] at hs3
  have hext : Ext w (W2.drew.setCells w.heap.size (i + 1) (xs.drop i)) := by
    have h1 := ext_own hx1' hs2.2 (Nat.le_refl _)
    exact ext_own h1.drew hs3.2 (Nat.le_refl _)
  obtain ⟨W3, hW3⟩ : ∃ W3, W3 = W2.drew.setCells w.heap.size (i + 1) (xs.drop i) := ⟨_, rfl⟩
  rw [← hW3] at hcpB hs3 hext
  have HS := Lib.hid (And.intro hs3.1 hext)
  have hz2 : ¬ ((i : Int) = (n : Int)) := by omega
  have hz3 : (n : Int) < (n : Int) + 1 := by omega
  have hw1 : IntKind.i64.wrap ((i : Int) + 1) = (i : Int) + 1 := by rw [IntKind.wrap_i64]; omega
  have hb1 : (0 : Int) ≤ (i : Int) + 1 := by omega
  have hin : i ≤ n := by omega
  have htn : ((i : Int) + 1).toNat = i + 1 := by omega
  have hb2 : ¬ (G = i + 1) := by omega
  have hb3 : (i : Int) ≤ (n : Int) := by omega
  have hb4 : ¬ (G = i) := by omega
  have hb5 : ¬ (n = i) := by omega
  unfold maxLen at hmx hGm
  have HW := Lib.hid (And.intro hW1 (And.intro hW2 hW3))
  clear hs2 hs3 hfin hg hsz hW1 hW2 hW3 h1c ho' hcx hb hold hROW hRs hRt hzl hO1 hG hx1' hext hcg e3
  go_enter Tryz.func92, Tryz.ntmps92
  go_wp2_with (at_builtin; refine Lib.wpList_append_run _ rfl _ _ _ _ rfl _ _ rfl rfl _ _ hrz ?_)
  go_region_law (refine step_copyQ rfl _ _ 22 22 rfl (.slice (some ⟨w.heap.size, i + 1, none⟩) (n - i) (G - (i + 1))) (.slice (some ⟨g, i, none⟩) (n - i) (n - i)) (by simp [Act.eval, Act.put]) (by simp [Act.eval, Act.put]) hcpB ?_)
  go_wp2_with fail
  go_ret
  exact ⟨_, rfl, HS.out.1, HS.out.2⟩
/-- Insert of one predicate into a row of the call's own. -/
theorem insQ_any (w : World) (base : Nat) (v : Value) (us : List PP) (ho : OwnQ w base v us) (hone : ∀ y ∈ us, y.h.oneCell' = true) (x : PP) (hx1 : x.h.oneCell' = true) (vb : Nat) (hb : w.heap[vb]? = some (.cells #[x.h] 25 (0, 0))) (hne : v.ownBlock ≠ some vb)
    (hl : us.length ≤ 1000000) (hlow : base ≤ w.heap.size) (i : Nat) (hi : i ≤ us.length) :
    Calls Tryz.prog 92 #[v, .int .i64 i, .slice (some ⟨vb, 0, none⟩) 1 1] w
      fun e w' => ∃ v', e = .returned v' ∧ OwnQ w' base v' (insP us i x) ∧ w.grownBy w' v.ownBlock := by
  by_cases he : i = us.length
  · subst he
    exact insQ_end w base v us ho x hx1 vb hb hl hlow
  · have hi' : i < us.length := by omega
    rcases ho.2 with ⟨_, e0⟩ | ⟨g, cap, cur, rfl, hb2, hg, hn, hm, hsz, ht⟩
    · omega
    · by_cases hr : us.length < cap
      · exact insQ_room w base g cap us ho hone x hx1 vb hb (fun e => hne (by rw [e]; rfl)) hl i hi' hr
      · refine (insQ_grow w base g cap us ho hone x hx1 vb hb hl i hi' (by omega)).mono ?_
        rintro e w' ⟨v', rfl, h1, h2⟩
        exact ⟨v', rfl, h1.low hlow, grown_ext (grown_refl w _) h2⟩
end Go.Proofs.YtlhbpflcffjhmaaGreat

namespace Go.Proofs.YtlhbpflcffjhmaaGreat
open Go.RowKit Go.Sort

set_option maxRecDepth 100000 in
set_option maxHeartbeats 2000000 in
theorem insort_nil (w : World) : Calls Tryz.prog 198 #[.slice none 0 0, .int .i64 0, .int .i64 0, .func (.func 31) #[] #[]] w fun e w' => e = .returned (.tuple #[]) ∧ w' = w := by
  go_enter Tryz.func198, Tryz.ntmps198
  go_wp2_with fail
  refine wp_loop_rounds 1 ?_
  rw [rounds_succ]
  go_wp2_with fail
  go_end0
  exact ⟨rfl, rfl⟩
set_option maxRecDepth 100000 in
set_option maxHeartbeats 2000000 in
theorem pdq_nil (w : World) (lim : Int) : Calls Tryz.prog 149 #[.slice none 0 0, .int .i64 0, .int .i64 0, .int .i64 lim, .func (.func 31) #[] #[]] w fun e w' => e = .returned (.tuple #[]) ∧ w' = w := by
  go_enter Tryz.func149, Tryz.ntmps149
  go_wp2_with fail
  refine wp_loop_rounds 1 ?_
  rw [rounds_succ]
  go_wp2_with (go_at_call 198; refine (insort_nil _).mono ?_; rintro e w' ⟨rfl, rfl⟩)
  exact bodyPost_ret (v := .tuple #[]) (by simp [results, go_sem]) rfl ⟨rfl, rfl⟩
set_option maxRecDepth 100000 in
set_option maxHeartbeats 2000000 in
theorem sortC_nil (w : World) : Calls Tryz.prog 110 #[.slice none 0 0, .func (.func 31) #[] #[]] w fun e w' => e = .returned (.tuple #[]) ∧ w' = w := by
  have hbl := bits115_any 0 (by omega) w
  go_enter Tryz.func110, Tryz.ntmps110
  go_wp2_with (first | (go_at_call 105; refine hbl.mono ?_; rintro e w' ⟨rfl, rfl⟩) | (go_at_call 149; refine (pdq_nil _ _).mono ?_; rintro e w' ⟨rfl, rfl⟩))
  go_end0
  exact ⟨rfl, rfl⟩

/-- The sort at a row that may be nil. -/
theorem sort117_any (w : World) (base : Nat) (v : Value) (us : List CS) (ho : w.ownsRow base 64 7 v us.length (us.flatMap csC)) (hl : us.length ≤ 12) (h0 : us = [] → v = .slice none 0 0)
    (hs : ∀ x ∈ us, SetR w x.h x.c.set ∧ x.h.ownBlock ≠ v.ownBlock) :
    Calls Tryz.prog 110 #[v, .func (.func 31) #[] #[]] w
      fun e w' => e = .returned (.tuple #[]) ∧ ∃ us' : List CS, us'.Perm us ∧ (us'.Pairwise fun a b => orderC a.c b.c ≤ 0) ∧ w'.ownsRow base 64 7 v us.length (us'.flatMap csC) ∧ w.grownBy w' v.ownBlock := by
  by_cases he : us = []
  · obtain rfl := h0 he
    subst he
    refine (sortC_nil w).mono ?_
    rintro e w' ⟨rfl, rfl⟩
    exact ⟨rfl, [], List.Perm.refl _, List.Pairwise.nil, ho, ⟨rfl, rfl, rfl, Nat.le_refl _, fun _ _ _ => rfl⟩⟩
  · rcases ho.2 with ⟨rfl, e0⟩ | ⟨g, cap, cur, rfl, _⟩
    · exact absurd (List.length_eq_zero_iff.1 e0) he
    · exact sortC_any w base g cap us ho hl he hs

set_option maxRecDepth 100000 in
set_option maxHeartbeats 2000000 in
theorem sorted_any (w : World) (b : Nat) (v : Value) (us : List CS) (h : Row w 7 v us.length (us.flatMap csC)) (hl : us.length ≤ 12) (hs : ∀ x ∈ us, SetO b w x) (h0 : us = [] → v = .slice none 0 0) :
    Calls Tryz.prog 63 #[v] w fun e w' => ∃ v' us', e = .returned v' ∧ us'.Perm us ∧ (us'.Pairwise fun a b => orderC a.c b.c ≤ 0) ∧ w'.ownsRow w.heap.size 64 7 v' us'.length (us'.flatMap csC) ∧ (∀ x ∈ us', SetO b w' x) ∧ Ext w w' ∧ (us' = [] → v' = .slice none 0 0) := by
  have hcl := cloneC_any w v us h (fun x hx => (hs x hx).one) (by omega)
  obtain ⟨a, cap, rfl, hc, hm⟩ := Row.shape h
  have HCL := Lib.hid hcl
  have hso : ∀ (w2 : World) (v2 : Value), Ext w w2 → w2.ownsRow w.heap.size 64 7 v2 us.length (us.flatMap csC) → (Value.slice a us.length cap = .slice none 0 0 → v2 = .slice none 0 0) → Calls Tryz.prog 110 #[v2, .func (.func 31) #[] #[]] w2
      fun e w' => e = .returned (.tuple #[]) ∧ ∃ us' : List CS, us'.Perm us ∧ (us'.Pairwise fun a b => orderC a.c b.c ≤ 0) ∧ w'.ownsRow w.heap.size 64 7 v2 us'.length (us'.flatMap csC) ∧ (∀ x ∈ us', SetO b w' x) ∧ Ext w w' ∧ (us' = [] → v2 = .slice none 0 0) := by
    intro w2 v2 hx2 hown hnil
    have hs2 : ∀ x ∈ us, SetO b w2 x := fun x hx => (hs x hx).ext hx2
    refine (sort117_any w2 _ v2 us hown hl (fun e => hnil (h0 e)) fun x hx => ⟨(hs2 x hx).set, (hs2 x hx).ne hown (own_some hown (List.length_pos_of_mem hx))⟩).mono ?_
    rintro e w' ⟨rfl, us', p1, p2, p3, p4⟩
    refine ⟨rfl, us', p1, p2, by rw [p1.length_eq]; exact p3, fun x hx => (hs2 x (p1.mem_iff.1 hx)).keep hown p4, hx2.grown_none p4 (own_base hown), fun e => hnil (h0 ?_)⟩
    rw [e] at p1
    exact p1.nil_eq.symm
  have HSO := Lib.hid hso
  clear hcl hs h0 hl h hc hm hso
  go_enter Tryz.func63, Tryz.ntmps63
  go_wp2_with (go_at_call 109; refine HCL.out.mono ?_; rintro e w2 ⟨v2, rfl, hown, hx2, hnil⟩; have HOWN := Lib.hid hown; have HX2 := Lib.hid hx2; have HN := Lib.hid hnil; clear hown hx2 hnil)
  refine (HSO.out _ _ HX2.out HOWN.out HN.out).mono ?_
  rintro e w3 ⟨rfl, us', h3⟩
  have H3 := Lib.hid h3
  clear h3
  go_wp2_with fail
  go_ret
  exact ⟨_, us', rfl, H3.out⟩

theorem map_compF {α β : Type} [DecidableEq β] (f : α → β) : ∀ (n : Nat) (l : List α), l.length ≤ n → (compF f l).map f = compL (fun a b => decide (a = b)) (l.map f)
  | _, [], _ => by rw [compF_nil, List.map_nil, compL_nil]
  | _, [x], _ => by rw [compF_one, List.map_singleton, compL_one]
  | 0, x :: y :: r, h => by simp at h
  | n + 1, x :: y :: r, h => by
    rw [compF_cons2, List.map_cons, List.map_cons, compL_cons2]
    by_cases e : f x = f y
    · rw [if_pos e, if_pos (decide_eq_true e), map_compF f n (x :: r) (by simp at h ⊢; omega), List.map_cons]
    · rw [if_neg e, if_neg (by simpa using e), List.map_cons, map_compF f n (y :: r) (by simp at h ⊢; omega), List.map_cons]
theorem compF_sub {α β : Type} [DecidableEq β] (f : α → β) : ∀ (n : Nat) (l : List α), l.length ≤ n → ∀ x ∈ compF f l, x ∈ l
  | _, [], _, x, h => by rw [compF_nil] at h; exact h
  | _, [y], _, x, h => by rw [compF_one] at h; exact h
  | 0, x :: y :: r, h, _, _ => by simp at h
  | n + 1, x :: y :: r, h, z, hz => by
    rw [compF_cons2] at hz
    split at hz
    · rcases List.mem_cons.1 (compF_sub f n (x :: r) (by simp at h ⊢; omega) z hz) with e | e
      · exact e ▸ List.mem_cons_self
      · exact List.mem_cons_of_mem _ (List.mem_cons_of_mem _ e)
    · rcases List.mem_cons.1 hz with e | e
      · exact e ▸ List.mem_cons_self
      · exact List.mem_cons_of_mem _ (compF_sub f n (y :: r) (by simp at h ⊢; omega) z e)

set_option maxRecDepth 100000 in
set_option maxHeartbeats 2000000 in
theorem once_any (w : World) (b : Nat) (v : Value) (us : List CS) (h : Row w 7 v us.length (us.flatMap csC)) (hl : us.length ≤ 12) (hs : ∀ x ∈ us, SetO b w x) :
    Calls Tryz.prog 64 #[v] w fun e w' => ∃ v', e = .returned v' ∧ w'.ownsRow w.heap.size 64 7 v' (compF CS.c us).length ((compF CS.c us).flatMap csC) ∧ (∀ x ∈ compF CS.c us, SetO b w' x) ∧ Ext w w' := by
  have hcl := cloneC_any w v us h (fun x hx => (hs x hx).one) (by omega)
  obtain ⟨a, cap, rfl, hc, hm⟩ := Row.shape h
  have HCL := Lib.hid hcl
  have hco : ∀ (w2 : World) (v2 : Value), Ext w w2 → w2.ownsRow w.heap.size 64 7 v2 us.length (us.flatMap csC) → Calls Tryz.prog 111 #[v2, .func (.func 112) #[] #[]] w2
      fun e w' => ∃ v', e = .returned v' ∧ w'.ownsRow w.heap.size 64 7 v' (compF CS.c us).length ((compF CS.c us).flatMap csC) ∧ (∀ x ∈ compF CS.c us, SetO b w' x) ∧ Ext w w' := by
    intro w2 v2 hx2 hown
    have hs2 : ∀ x ∈ us, SetO b w2 x := fun x hx => (hs x hx).ext hx2
    refine (compactC_any w2 _ v2 us hown (by omega) fun x hx => ⟨(hs2 x hx).set, (hs2 x hx).ne hown (own_some hown (List.length_pos_of_mem hx))⟩).mono ?_
    rintro e w' ⟨v', rfl, p3, p4, p5⟩
    exact ⟨v', rfl, p3, fun x hx => (hs2 x (compF_sub _ _ _ (Nat.le_refl _) x hx)).keep hown p4, hx2.grown_none p4 (own_base hown)⟩
  have HCO := Lib.hid hco
  clear hcl hs hl h hc hm hco
  go_enter Tryz.func64, Tryz.ntmps64
  go_wp2_with (go_at_call 109; refine HCL.out.mono ?_; rintro e w2 ⟨v2, rfl, hown, hx2, hnil⟩; have HOWN := Lib.hid hown; have HX2 := Lib.hid hx2; clear hown hx2 hnil)
  refine (HCO.out _ _ HX2.out HOWN.out).mono ?_
  rintro e w3 ⟨v3, rfl, h3⟩
  have H3 := Lib.hid h3
  clear h3
  go_wp2_with fail
  go_ret
  exact ⟨_, rfl, H3.out⟩
end Go.Proofs.YtlhbpflcffjhmaaGreat

namespace Go.Proofs.YtlhbpflcffjhmaaGreat
open Go.RowKit Go.Sort

theorem eqV (x y : V) : decide (x = y) = ((x.k == y.k) && ((x.n == y.n) && ((x.s == y.s) && (x.b == y.b)))) := by
  obtain ⟨ak, an, as1, ab⟩ := x
  obtain ⟨bk, bn, bs, bb⟩ := y
  rw [Bool.eq_iff_iff]
  simp
set_option maxRecDepth 100000 in
set_option maxHeartbeats 4000000 in
theorem compactV_any (w : World) (base : Nat) (v : Value) (l : List V) (ho : w.ownsRow base 61 4 v l.length (l.flatMap vC)) (hl : l.length ≤ 1000000) :
    Calls Tryz.prog 62 #[v] w fun e w' => ∃ v', e = .returned v' ∧ w'.ownsRow base 61 4 v' (compE l).length ((compE l).flatMap vC) ∧ w.grownBy w' v.ownBlock ∧ v'.ownBlock = v.ownBlock := by
  by_cases h2 : l.length < 2
  · have hce : compE l = l := by
      match l, h2 with
      | [], _ => exact compE_nil
      | [x], _ => exact compE_one x
    rw [hce]
    obtain ⟨a, cap, rfl, hc, hm⟩ := Row.shape (own_row ho)
    have hd : decide ((l.length : Int) < 2) = true := decide_eq_true (by omega)
    have HO := Lib.hid ho
    clear ho hce
    generalize l.length = n at *
    go_enter Tryz.func62, Tryz.ntmps62
    go_wp2
    go_ret
    exact ⟨_, rfl, HO.out, ⟨rfl, rfl, rfl, Nat.le_refl _, fun _ _ _ => rfl⟩, rfl⟩
  · have hne : v ≠ .slice none 0 0 := by
      rintro rfl
      obtain ⟨_, _, e1, _, _⟩ := Row.shape (own_row ho)
      simp only [Value.slice.injEq] at e1
      omega
    rcases ho.2 with ⟨e0, _⟩ | ⟨g, cap, cur, rfl, hb, hg, hn, hm, hs, ht⟩
    · exact absurd e0 hne
    clear hne cur hg hs ht
    have hrow : ∀ wr : World, wr.ownsRow base 61 4 (.slice (some ⟨g, 0, none⟩) l.length cap) l.length (l.flatMap vC) → SetR wr (.slice (some ⟨g, 0, none⟩) l.length cap) l := fun wr h => own_row h
    have hd : decide ((l.length : Int) < 2) = false := decide_eq_false (by omega)
    have HO := Lib.hid ho
    clear ho
    have HROW := Lib.hid hrow
    clear hrow
    generalize hN : l.length = n at *
    have HN := Lib.hid hN
    clear hN
    go_enter Tryz.func62, Tryz.ntmps62
    go_wp2_with fail
    go_loopw [3] (fun i wr => ∃ k : Nat, 1 ≤ k ∧ k ≤ n ∧ i = .int .i64 k ∧ Hid (compE (l.take k) = l.take k) ∧ Hid (wr.ownsRow base 61 4 (.slice (some ⟨g, 0, none⟩) n cap) n (l.flatMap vC)) ∧ Hid (w.grownBy wr (some g))) (fun i _ => n - (intOf i).toNat)
    case atStart =>
      refine ⟨1, Nat.le_refl _, by omega, rfl, ?_, HO, ⟨rfl, rfl, rfl, Nat.le_refl _, fun _ _ _ => rfl⟩⟩
      show compE (l.take 1) = l.take 1
      match l, HN.out with
      | [], _ => exact compE_nil
      | x :: r, _ => exact compE_one x
    case round =>
      obtain ⟨k, hk1, hk, rfl, hc, hown, hgr⟩ := hrel
      by_cases hlt : k < n
      · have hI : decide ((k : Int) < (n : Int)) = true := decide_eq_true (by omega)
        have k1 : k < l.length := by rw [HN.out]; exact hlt
        have k0 : k - 1 < l.length := by omega
        have hset : SetR wr (.slice (some ⟨g, 0, none⟩) n cap) l := by have := HROW.out wr hown.out; exact this
        obtain ⟨_, _, e1, f0, f1, f2, f3⟩ := SetR.at hset k1
        cases e1
        obtain ⟨_, _, e1, g0, g1, g2, g3⟩ := SetR.at hset k0
        cases e1
        simp only [Nat.zero_add] at f0 f1 f2 f3 g0 g1 g2 g3
        have hcm : ((k : Int) - 1) = ((k - 1 : Nat) : Int) := by omega
        obtain ⟨E, hE⟩ : ∃ E : Bool, E = decide (l[k] = l[k - 1]) := ⟨_, rfl⟩
        have HE := Lib.hid hE
        clear hE
        go_upto_region 6 with fail
        go_cut [25] from 16 to 25 (fun v25 wx => v25 = .bool E ∧ ∃ q, wx = wr.drewN q)
        case first =>
          have HE2 : Hid (E = _) := HE.out.trans (eqV _ _)
          clear HE
          generalize l[k] = x at *
          generalize l[k - 1] = y at *
          clear hc hown hgr hset HO HROW HN
          have hi0 : (0 : Int) ≤ (k : Int) - 1 := by omega
          have hi1 : (k : Int) - 1 < (n : Int) := by omega
          have hi2 : ((k : Int) - 1).toNat = k - 1 := by omega
          cases b1 : (x.k == y.k)
          · go_quiet (fail)
            go_wp2_with fail
            go_meet
            exact ⟨by rw [HE2.out, b1]; rfl, _, rfl⟩
          · cases b2 : (x.n == y.n)
            · go_quiet (fail)
              go_wp2_with fail
              go_meet
              exact ⟨by rw [HE2.out, b1, b2]; rfl, _, rfl⟩
            · cases b3 : (x.s == y.s)
              · go_quiet (fail)
                go_wp2_with fail
                go_meet
                exact ⟨by rw [HE2.out, b1, b2, b3]; rfl, _, rfl⟩
              · cases b4 : (x.b == y.b)
                · go_quiet (fail)
                  go_wp2_with fail
                  go_meet
                  exact ⟨by rw [HE2.out, b1, b2, b3, b4]; rfl, _, rfl⟩
                · go_quiet (fail)
                  go_wp2_with fail
                  go_meet
                  exact ⟨by rw [HE2.out, b1, b2, b3, b4]; rfl, _, rfl⟩
        case rest =>
          obtain ⟨rfl, q, rfl⟩ := hcut
          clear f0 f1 f2 f3 g0 g1 g2 g3
          obtain ⟨m, rfl⟩ : ∃ m, k = m + 1 := ⟨k - 1, by omega⟩
          have hct := compE_take (l := l) (n := m) k1
          cases E
          · have hne : l[m + 1] ≠ l[m] := of_decide_eq_false HE.out.symm
            have hc2 : Hid (compE (l.take (m + 1 + 1)) = l.take (m + 1 + 1)) := by
              show _ = _
              rw [hct, if_neg hne, hc.out, ← List.take_succ_eq_append_getElem k1]
            clear hct hne HE
            go_wp2_with fail
            go_roundw
            case rel => exact ⟨m + 2, by omega, by omega, by go_num, hc2, own_drewN q hown.out, grown_drewN q hgr.out⟩
            case measure => simp [intOf]; omega
          · have heq : l[m + 1] = l[m] := of_decide_eq_true HE.out.symm
            have hstart : Hid (CompInv l l (m + 1) (m + 1 + 1)) := CompInv.start k1 hc.out heq
            clear hct heq HE
            have hcapn : m + 1 < cap := by omega
            have hne : ¬ cap = m + 1 := by omega
            go_wp2_with fail
            obtain ⟨d, hd⟩ : ∃ d, d = n - (m + 1) := ⟨_, rfl⟩
            obtain ⟨ce, hce⟩ : ∃ ce, ce = cap - (m + 1) := ⟨_, rfl⟩
            rw [← hd, ← hce]
            have hd1 : m + 1 + d = n := by omega
            have HD1 := Lib.hid hd1
            have hmn : m + 1 + d ≤ n := by omega
            have hd2 : d ≤ 1000000 := by omega
            have hd3 : d ≤ ce := by omega
            have hq0 : m + 1 ≤ n := by omega
            clear hd hce hd1
            go_loopw [3, 5] (fun kk jj wr2 => ∃ (q j : Nat) (r : List V), 1 ≤ j ∧ j ≤ d ∧ q + 1 ≤ m + 1 + j ∧ kk = .int .i64 q ∧ jj = .int .i64 j ∧ Hid (CompInv l r q (m + 1 + j)) ∧ Hid (wr2.ownsRow base 61 4 (.slice (some ⟨g, 0, none⟩) n cap) n (r.flatMap vC)) ∧ Hid (w.grownBy wr2 (some g))) (fun _ jj _ => d - (intOf jj).toNat)
            case atStart => exact ⟨m + 1, 1, l, Nat.le_refl _, by have := HD1.out; omega, by omega, rfl, rfl, hstart, own_drewN q hown.out, grown_drewN q hgr.out⟩
            case round =>
              clear hstart hown hgr hc hset hk1 hk
              obtain ⟨q, j, r, hj1, hj, hq, rfl, rfl, hinv, hown, hgr⟩ := hrel
              by_cases hlt2 : j < d
              · have hI2 : decide ((j : Int) < (d : Int)) = true := decide_eq_true (by omega)
                have hil : m + 1 + j < l.length := by rw [HN.out]; have := HD1.out; omega
                have k0 : m + 1 + j - 1 < l.length := by omega
                obtain ⟨r1, r2, er1, er2⟩ := hinv.out.at hil
                have hlr : r.length = n := by rw [hinv.out.len, HN.out]
                have hset2 : SetR wr (.slice (some ⟨g, 0, none⟩) n cap) r := by unfold SetR; rw [hlr]; exact own_row hown.out
                obtain ⟨_, _, e1, f0, f1, f2, f3⟩ := SetR.at hset2 r1
                cases e1
                obtain ⟨_, _, e1, g0, g1, g2, g3⟩ := SetR.at hset2 r2
                cases e1
                rw [er1] at f0 f1 f2 f3
                rw [er2] at g0 g1 g2 g3
                have ea : (m + 1 + j) * 4 = (m + 1) * 4 + j * 4 := by omega
                have eb : (m + 1 + j - 1) * 4 = (m + 1) * 4 + (j - 1) * 4 := by omega
                simp only [Nat.zero_add, ea] at f0 f1 f2 f3
                simp only [Nat.zero_add, eb] at g0 g1 g2 g3
                obtain ⟨E, hE⟩ : ∃ E : Bool, E = decide (l[m + 1 + j] = l[m + 1 + j - 1]'k0) := ⟨_, rfl⟩
                have HE := Lib.hid hE
                clear hE ea eb er1 er2 r1 r2 hset2
                have hsame := fun h => hinv.out.same hil h
                have hnext := fun h => hinv.out.next hil h
                have HS := Lib.hid hsame
                have HX := Lib.hid hnext
                clear hsame hnext
                generalize l[m + 1 + j] = x at *
                generalize l[m + 1 + j - 1]'k0 = y at *
                have hlr2 : n ≤ r.length := by omega
                clear hinv hlr
                have hi0 : (0 : Int) ≤ (j : Int) - 1 := by omega
                have hi1 : (j : Int) - 1 < (d : Int) := by omega
                have hi2 : ((j : Int) - 1).toNat = j - 1 := by omega
                go_upto_region 11 with fail
                go_cut [44] from 35 to 44 (fun v44 wx => v44 = .bool (!E) ∧ ∃ p, wx = wr.drewN p)
                case first =>
                  have HE2 : Hid (E = _) := HE.out.trans (eqV _ _)
                  clear HE HS HX hown hgr HO HROW HN HD1
                  cases b1 : (x.k == y.k)
                  · go_quiet (fail)
                    go_wp2_with fail
                    go_meet
                    exact ⟨by rw [HE2.out, b1]; rfl, _, rfl⟩
                  · cases b2 : (x.n == y.n)
                    · go_quiet (fail)
                      go_wp2_with fail
                      go_meet
                      exact ⟨by rw [HE2.out, b1, b2]; rfl, _, rfl⟩
                    · cases b3 : (x.s == y.s)
                      · go_quiet (fail)
                        go_wp2_with fail
                        go_meet
                        exact ⟨by rw [HE2.out, b1, b2, b3]; rfl, _, rfl⟩
                      · cases b4 : (x.b == y.b)
                        · go_quiet (fail)
                          go_wp2_with fail
                          go_meet
                          exact ⟨by rw [HE2.out, b1, b2, b3, b4]; rfl, _, rfl⟩
                        · go_quiet (fail)
                          go_wp2_with fail
                          go_meet
                          exact ⟨by rw [HE2.out, b1, b2, b3, b4]; rfl, _, rfl⟩
                case rest =>
                  obtain ⟨rfl, p, rfl⟩ := hcut
                  clear g0 g1 g2 g3 hi0 hi1 hi2
                  cases E
                  · have hxy : x ≠ y := of_decide_eq_false HE.out.symm
                    have hinv2 := Lib.hid (HX.out hxy)
                    clear hxy HS HX HE
                    have hql : q < r.length := by omega
                    have hth := own_there (own_drewN p hown.out) q 4 (by omega)
                    have hset3 := own_set vC vC_len (own_drewN p hown.out) q hql x
                    obtain ⟨wz, hwz⟩ : ∃ wz, (wr.drewN p).setCells g (q * 4) (vC x) = wz := ⟨_, rfl⟩
                    rw [hwz] at hset3
                    have HWZ := Lib.hid hwz
                    clear hwz
                    have HS3 := Lib.hid hset3.1
                    have HG3 := Lib.hid hset3.2
                    clear hset3
                    have hxp : Ext wr (wr.drewN p) := (Ext.refl wr).drewN p
                    have f0 := hxp.cell f0
                    have f1 := hxp.cell f1
                    have f2 := hxp.cell f2
                    have f3 := hxp.cell f3
                    have hqn : q < n := by omega
                    go_wp2_with (refine wpList_store_mid rfl 61 (.tmp 51) (.tmp 50) rfl g (q * 4) #[.int .i64 x.k, .int .i64 x.n, .string (strOf x.s), .bool x.b] rfl rfl hth size28 (by simp [Value.oneCell']) ?_; rw [show (wr.drewN p).setCells g (q * 4) (#[.int .i64 x.k, .int .i64 x.n, .string (strOf x.s), .bool x.b] : Array Value).toList = wz from HWZ.out])
                    go_roundw
                    case rel => (repeat apply Exists.intro); refine ⟨?_, rfl⟩; exact ⟨q + 1, j + 1, r.set q x, by omega, hlt2, by omega, by go_num, by go_num, hinv2, HS3.out, (grown_drewN p hgr.out).trans HG3.out⟩
                    case measure => simp [intOf]; omega
                  · have hxy : x = y := of_decide_eq_true HE.out.symm
                    have hinv2 := Lib.hid (HS.out hxy)
                    clear hxy HS HX HE f0 f1 f2 f3
                    go_wp2_with fail
                    go_roundw
                    case rel => exact ⟨q, j + 1, r, by omega, hlt2, by omega, rfl, by go_num, hinv2, own_drewN p hown.out, grown_drewN p hgr.out⟩
                    case measure => simp [intOf]; omega
              · obtain rfl : j = d := by omega
                have hI2 : decide ((j : Int) < (j : Int)) = false := decide_eq_false (by omega)
                have hdone := hinv.out
                rw [HD1.out, ← HN.out] at hdone
                obtain ⟨ht, hlen⟩ := hdone.done
                have hqn : q < n := by omega
                have hqc : ¬ cap = q := by omega
                have hqc2 : q ≤ cap := by omega
                have hcl := run_clear_tail hown.out 62 (.agg #[.int .i64 0, .int .i64 0, .string ⟨#[]⟩, .bool false]) rfl (by simp [Value.cells, Value.oneCell']) Tryz.underlying62 zero28 q (cap - q) hqn
                have hfin := own_clear_tail hown.out (Nat.le_of_lt hqn) (.agg #[.int .i64 0, .int .i64 0, .string ⟨#[]⟩, .bool false]) rfl
                have hres : Hid ((r.flatMap vC).take (q * 4) = (compE l).flatMap vC) := by show _ = _; rw [flat_take vC 4 vC_len, ht]
                have HL := Lib.hid hlen
                have HF := Lib.hid hfin
                generalize wr.setCells g (q * 4) (Builtin.zeroCells (Value.agg #[.int .i64 0, .int .i64 0, .string ⟨#[]⟩, .bool false]).cells (n - q)).toList = wz at *
                clear ht hlen hfin hinv hdone
                go_wp2_with fail
                go_ret
                refine ⟨_, rfl, ?_, hgr.out.trans HF.out.2, rfl⟩
                rw [HL.out, ← hres.out]
                exact HF.out.1
      · obtain rfl : k = n := by omega
        have hI : decide ((k : Int) < (k : Int)) = false := decide_eq_false (by omega)
        have hce : Hid (compE l = l) := by
          have h := hc.out
          rw [List.take_of_length_le (by rw [HN.out]; exact Nat.le_refl _)] at h
          exact h
        go_wp2_with fail
        go_ret
        refine ⟨_, rfl, ?_, hgr.out, rfl⟩
        rw [hce.out, HN.out]
        exact hown.out
end Go.Proofs.YtlhbpflcffjhmaaGreat

namespace Go.Proofs.YtlhbpflcffjhmaaGreat
open Go.RowKit Go.Sort

theorem sortSet (w w2 : World) (v : Value) (l : List V) (hx : Ext w w2) (ho : w2.ownsRow w.heap.size 61 4 v l.length (l.flatMap vC)) (hl : l.length ≤ 1000000) :
    Calls Tryz.prog 60 #[v, .func (.func 61) #[] #[]] w2 fun e w' => e = .returned (.tuple #[]) ∧ ∃ l' : List V, (l'.Perm l ∧ (l'.Pairwise fun a b => cmpV a b ≤ 0)) ∧ w'.ownsRow w.heap.size 61 4 v l'.length (l'.flatMap vC) ∧ Ext w w' := by
  refine (sortV_any w2 _ v l ho hl).mono ?_
  rintro e w' ⟨rfl, l', p1, p2, p3, p4⟩
  exact ⟨rfl, l', ⟨p1, p2⟩, by rw [p1.length_eq]; exact p3, hx.grown_none p4 (own_base ho)⟩
theorem compSet (w w2 : World) (v : Value) (c : C) (l : List V) (hc : mayC c = true) (hx : Ext w w2) (ho : w2.ownsRow w.heap.size 61 4 v l.length (l.flatMap vC)) (hp : l.Perm c.set ∧ (l.Pairwise fun a b => cmpV a b ≤ 0)) :
    Calls Tryz.prog 62 #[v] w2 fun e w' => ∃ v', e = .returned v' ∧ w'.ownsRow w.heap.size 61 4 v' (normC c).set.length ((normC c).set.flatMap vC) ∧ Ext w w' := by
  have hlen := hp.1.length_eq
  have hs := may_set hc
  have hi := set_inj hc
  have he : compE l = (normC c).set := compL_sorted wo_V hp.1 hp.2 hi fun a ha b hb => ⟨fun h => by rw [of_decide_eq_true h]; exact wo_V.refl b, fun h => decide_eq_true (hi a ha b hb h)⟩
  refine (compactV_any w2 _ v l ho (by omega)).mono ?_
  rintro e w' ⟨v', rfl, p1, p2, p3⟩
  rw [he] at p1
  exact ⟨v', rfl, p1, hx.grown_none p2 (own_base ho)⟩

theorem grown_setCell (w : World) (a : Addr) (v : Value) : w.grownBy (w.setCell a v) (some a.block) := by
  have h := Below.setCell (Below.refl a.block w) (Nat.le_refl _) v
  refine ⟨h.os, h.tape, h.output, by rw [World.size_setCell]; exact Nat.le_refl _, fun k hk hne => ?_⟩
  have hne2 : k ≠ a.block := fun e => hne (by rw [e])
  show (w.heap.modify a.block _)[k]? = w.heap[k]?
  rw [Array.getElem?_modify, if_neg (fun e => hne2 e.symm)]
theorem addRow (w : World) (x : CS) : Row (w.alloc (.cells (csC x).toArray 64)) 7 (.slice (some ⟨w.heap.size, 0, none⟩) 1 1) 1 (csC x) :=
  Row.of_own (World.ownsRow_lit (base := w.heap.size) (e := 64) (size := 7) w (csC x).toArray 1 (Nat.le_refl _) (by decide) rfl)

set_option maxRecDepth 100000 in
set_option maxHeartbeats 2000000 in
theorem normal_no (w : World) (v : Value) (p : List C) (hp : PredR w v p) (hm : mayP p = false) : Calls Tryz.prog 27 #[v] w fun e w' => e = .returned (.tuple #[.slice none 0 0, .int .i64 30]) ∧ Ext w w' := by
  have hc := pmay_any w v p hp
  rw [hm] at hc
  obtain ⟨a, cap, rfl, _, _⟩ := hp.shape
  clear hm hp
  go_enter Tryz.func27, Tryz.ntmps27
  go_wp2_with (go_at_call 10; refine hc.mono ?_; rintro e w' ⟨rfl, hx⟩)
  go_ret2
  exact ⟨rfl, hx⟩

set_option maxRecDepth 100000 in
set_option maxHeartbeats 4000000 in
theorem normal_yes (w : World) (v : Value) (p : List C) (hp : PredR w v p) (hm : mayP p = true) : Calls Tryz.prog 27 #[v] w fun e w' => ∃ (v' : Value) (us : List CS), e = .returned (.tuple #[v', .int .i64 0]) ∧ us.map CS.c = normP p ∧ w'.ownsRow w.heap.size 64 7 v' us.length (us.flatMap csC) ∧ (∀ x ∈ us, SetO w.heap.size w' x) ∧ Ext w w' := by
  have hc := pmay_any w v p hp
  rw [hm] at hc
  have hl6 := may_len hm
  have hall := Lib.hid (may_all hm)
  obtain ⟨a, cap, rfl, _, _⟩ := hp.shape
  have HP := Lib.hid hp
  clear hm hp
  obtain ⟨n, hn⟩ : ∃ n, n = p.length := ⟨_, rfl⟩
  have HN := Lib.hid hn
  rw [← hn] at hc ⊢ HP hl6
  clear hn
  go_enter Tryz.func27, Tryz.ntmps27
  go_wp2_with (go_at_call 10; refine hc.mono ?_; rintro e w1 ⟨rfl, hx1⟩)
  clear hc
  go_loopw [4, 6, 7, 15] (fun l4 _ _ i wr => ∃ (k : Nat) (us : List CS), k ≤ n ∧ i = .int .i64 k ∧ Hid (us.length = k) ∧ Hid (us.map CS.c = (p.take k).map normC) ∧ Hid (wr.ownsRow w.heap.size 64 7 l4 us.length (us.flatMap csC)) ∧ Hid (∀ x ∈ us, SetO w.heap.size wr x) ∧ Hid (us = [] → l4 = .slice none 0 0) ∧ Ext w wr) (fun _ _ _ i _ => n - (intOf i).toNat)
  case atStart => exact ⟨0, [], Nat.zero_le _, rfl, rfl, rfl, ⟨rfl, .inl ⟨rfl, rfl⟩⟩, fun _ h => (by cases h), fun _ => rfl, hx1⟩
  case round =>
    obtain ⟨k, us, hk, rfl, hlen, hus, hown, hset, hnil, hx⟩ := hrel
    by_cases hlt : k < n
    · have hI : decide ((k : Int) < (n : Int)) = true := decide_eq_true (by omega)
      have k1 : k < p.length := by have := HN.out; omega
      obtain ⟨B, o, sa, sc, rfl, f0, f1, f2, f3, f4, f5, f6, fs⟩ := (HP.out.ext hx).at k1
      have hmc := Lib.hid (hall.out p[k] (List.getElem_mem k1))
      have htk : (p.take (k + 1)).map normC = (p.take k).map normC ++ [normC p[k]] := by rw [List.take_succ_eq_append_getElem k1, List.map_append]; rfl
      have HTK := Lib.hid htk
      clear htk
      generalize p[k] = c at *
      have hsl := may_set hmc.out
      have hxW : Ext wr (wr.alloc (.cells #[.string (strOf c.name), .int .i64 c.op, .int .i64 c.v.k, .int .i64 c.v.n, .string (strOf c.v.s), .bool c.v.b, .slice sa c.set.length sc] 64)) := (Ext.refl wr).alloc _
      have hB : (wr.alloc (.cells #[.string (strOf c.name), .int .i64 c.op, .int .i64 c.v.k, .int .i64 c.v.n, .string (strOf c.v.s), .bool c.v.b, .slice sa c.set.length sc] 64)).heap[wr.heap.size]? = some (.cells #[.string (strOf c.name), .int .i64 c.op, .int .i64 c.v.k, .int .i64 c.v.n, .string (strOf c.v.s), .bool c.v.b, .slice sa c.set.length sc] 64 (0, 0)) := heap_alloc_new _ _
      have hcl := cloneV_any _ _ c.set (fs.ext hxW) (by omega)
      have hsz : (wr.alloc (.cells #[.string (strOf c.name), .int .i64 c.op, .int .i64 c.v.k, .int .i64 c.v.n, .string (strOf c.v.s), .bool c.v.b, .slice sa c.set.length sc] 64)).heap.size = wr.heap.size + 1 := World.size_alloc _ _
      go_wp2_with fail
      generalize wr.alloc (.cells #[.string (strOf c.name), .int .i64 c.op, .int .i64 c.v.k, .int .i64 c.v.n, .string (strOf c.v.s), .bool c.v.b, .slice sa c.set.length sc] 64) = W at *
      refine hcl.mono ?_
      rintro e w2 ⟨v2, rfl, ho2, hx2⟩
      have HO2 := Lib.hid ho2
      have HX2 := Lib.hid hx2
      clear hcl ho2 hx2 f0 f1 f2 f3 f4 f5 f6 fs
      go_wp2_with fail
      refine (sortSet W w2 v2 c.set HX2.out HO2.out (by omega)).mono ?_
      rintro e w3 ⟨rfl, l', h3⟩
      have H3 := Lib.hid h3
      clear h3
      go_wp2_with fail
      refine (compSet W w3 v2 c l' hmc.out H3.out.2.2 H3.out.2.1 H3.out.1).mono ?_
      rintro e w4 ⟨v4, rfl, h4⟩
      have hB4 : w4.heap[wr.heap.size]? = some (.cells #[.string (strOf c.name), .int .i64 c.op, .int .i64 c.v.k, .int .i64 c.v.n, .string (strOf c.v.s), .bool c.v.b, .slice sa c.set.length sc] 64 (0, 0)) := by
        rw [h4.2.block _ (Array.getElem?_eq_some_iff.1 hB).1]; exact hB
      have H4 := Lib.hid h4
      clear h4 hB HO2 HX2 H3
      have c0 := cell_of_row _ _ 0 _ _ _ hB4
      have c1 := cell_of_row _ _ 1 _ _ _ hB4
      have c2 := cell_of_row _ _ 2 _ _ _ hB4
      have c3 := cell_of_row _ _ 3 _ _ _ hB4
      have c4 := cell_of_row _ _ 4 _ _ _ hB4
      have c5 := cell_of_row _ _ 5 _ _ _ hB4
      have c6 := cell_of_row _ _ 6 _ _ _ hB4
      have z6 : w4.frozen? ⟨wr.heap.size, 6, none⟩ = false := by simp [World.frozen?, hB4]
      clear hB4
      obtain ⟨a4, cap4, rfl, _, _⟩ := Row.shape (Row.of_own H4.out.1)
      have hx5 : Ext wr (w4.setCell ⟨wr.heap.size, 6, none⟩ (.slice a4 (normC c).set.length cap4)) := (hxW.trans H4.out.2).setCell (Nat.le_refl _) _
      have hlt4 : wr.heap.size < w4.heap.size := by have := H4.out.2.size; omega
      have hset4 : SetO w.heap.size (w4.setCell ⟨wr.heap.size, 6, none⟩ (.slice a4 (normC c).set.length cap4)) ⟨normC c, .slice a4 (normC c).set.length cap4⟩ :=
        own_keep (own_low H4.out.1 (by have := hx.size; omega)) (grown_setCell w4 ⟨wr.heap.size, 6, none⟩ _) fun q hq e => by
          have := own_base H4.out.1 q hq
          have e2 : wr.heap.size = q := Option.some.inj e
          omega
      have hrow := addRow (w4.setCell ⟨wr.heap.size, 6, none⟩ (.slice a4 (normC c).set.length cap4)) ⟨normC c, .slice a4 (normC c).set.length cap4⟩
      have hs5 : (w4.setCell ⟨wr.heap.size, 6, none⟩ (.slice a4 (normC c).set.length cap4)).heap.size = w4.heap.size := World.size_setCell _ _ _
      rw [hs5] at hrow
      clear hs5
      have hx6 : Ext wr ((w4.setCell ⟨wr.heap.size, 6, none⟩ (.slice a4 (normC c).set.length cap4)).alloc (.cells #[.string (strOf c.name), .int .i64 c.op, .int .i64 c.v.k, .int .i64 c.v.n, .string (strOf c.v.s), .bool c.v.b, .slice a4 (normC c).set.length cap4] 64)) := hx5.alloc _
      have hset6 := hset4.ext ((Ext.refl _).alloc (.cells #[.string (strOf c.name), .int .i64 c.op, .int .i64 c.v.k, .int .i64 c.v.n, .string (strOf c.v.s), .bool c.v.b, .slice a4 (normC c).set.length cap4] 64))
      have hown6 := own_ext hown.out hx6
      have hone := csC_one [⟨normC c, .slice a4 (normC c).set.length cap4⟩] (fun y hy => by rw [List.mem_singleton.1 hy]; rfl)
      rw [List.flatMap_singleton] at hone
      have hlen2 : us.length ≤ 6 := by have := hlen.out; omega
      have hbase : w.heap.size ≤ ((w4.setCell ⟨wr.heap.size, 6, none⟩ (.slice a4 (normC c).set.length cap4)).alloc (.cells #[.string (strOf c.name), .int .i64 c.op, .int .i64 c.v.k, .int .i64 c.v.n, .string (strOf c.v.s), .bool c.v.b, .slice a4 (normC c).set.length cap4] 64)).heap.size := (hx.trans hx6).size
      have HSET6 := Lib.hid hset6
      have HOWN6 := Lib.hid hown6
      have HROW := Lib.hid hrow
      have HONE := Lib.hid hone
      have HX6 := Lib.hid hx6
      have HB := Lib.hid hbase
      clear hset6 hown6 hrow hone hx6 hx5 hset4 hbase hsz
      go_wp2_with (at_builtin; refine wpList_append_row 98 64 (.tmp 27) (.tmp 29) rfl w.heap.size _ 7 88 Tryz.underlying98 info31t rfl (by decide) rfl _ us.length (us.flatMap csC) rfl HOWN6.out 1 (csC ⟨normC c, .slice a4 (normC c).set.length cap4⟩) HROW.out HONE.out (by omega) (by unfold maxLen; omega) HB.out ?_; intro v' w7 hown7 hgrow; have HOWN7 := Lib.hid hown7; have HG := Lib.hid hgrow; clear hown7 hgrow)
      go_roundw
      case rel =>
        refine ⟨k + 1, us ++ [⟨normC c, .slice a4 (normC c).set.length cap4⟩], hlt, by go_num, ?_, ?_, ?_, ?_, ?_, ?_⟩
        · show _ = _; rw [List.length_append, List.length_singleton, hlen.out]
        · show _ = _; rw [HTK.out, ← hus.out, List.map_append]; rfl
        · show World.ownsRow _ _ _ _ _ _ _
          rw [List.length_append, List.length_singleton, List.flatMap_append, List.flatMap_singleton]
          exact HOWN7.out
        · show ∀ x ∈ us ++ [_], _
          intro x hxm
          rcases List.mem_append.1 hxm with hxm | hxm
          · exact ((hset.out x hxm).ext HX6.out).keep HOWN6.out HG.out
          · rw [List.mem_singleton.1 hxm]; exact HSET6.out.keep HOWN6.out HG.out
        · show us ++ [_] = [] → _
          intro h; simp at h
        · exact (hx.trans HX6.out).grown_none HG.out (own_base HOWN6.out)
      case measure => simp [intOf]; omega
    · obtain rfl : k = n := by omega
      have hI : decide ((k : Int) < (k : Int)) = false := decide_eq_false (by omega)
      have hus2 : Hid (us.map CS.c = p.map normC) := by
        have h := hus.out
        rw [List.take_of_length_le (by rw [← HN.out]; exact Nat.le_refl _)] at h
        exact h
      have hxF : Ext wr (wr.alloc (.cells #[.func (.func 63) #[] #[], .func (.func 64) #[] #[]] 102)) := (Ext.refl wr).alloc _
      have hF := heap_alloc_new wr (.cells #[.func (.func 63) #[] #[], .func (.func 64) #[] #[]] 102)
      have F1 := cell_of_row _ _ 1 _ _ _ hF
      have hlen2 : us.length ≤ 12 := by have := hlen.out; omega
      have hso := sorted_any _ w.heap.size u4 us (Row.of_own (own_ext hown.out hxF)) hlen2 (fun x hx => (hset.out x hx).ext hxF) hnil.out
      have HSO := Lib.hid hso
      have HXF := Lib.hid (hx.trans hxF)
      clear hso hF hxF
      go_wp2_with fail
      refine wp_loop_rounds 3 ?_
      rw [rounds_succ]
      go_wp2_with fail
      generalize wr.alloc (.cells #[.func (.func 63) #[] #[], .func (.func 64) #[] #[]] 102) = wf at *
      refine HSO.out.mono ?_
      rintro e w2 ⟨v2, us2, rfl, h2⟩
      have G1 := h2.2.2.2.2.1.cell F1
      have hlen3 : us2.length ≤ 12 := by rw [h2.1.length_eq]; exact hlen2
      have hon := once_any w2 w.heap.size v2 us2 (Row.of_own h2.2.2.1) hlen3 h2.2.2.2.1
      have HON := Lib.hid hon
      have H2 := Lib.hid h2
      clear h2 hon HSO F1
      go_wp2_with fail
      rw [rounds_succ]
      go_wp2_with fail
      refine HON.out.mono ?_
      rintro e w3 ⟨v3, rfl, h3⟩
      have H3 := Lib.hid h3
      clear h3 HON G1
      go_wp2_with fail
      rw [rounds_succ]
      go_wp2_with fail
      go_ret2
      refine ⟨v3, compF CS.c us2, rfl, ?_, own_low H3.out.1 ((HXF.out.trans H2.out.2.2.2.2.1).size), H3.out.2.1, HXF.out.trans (H2.out.2.2.2.2.1.trans H3.out.2.2)⟩
      rw [map_compF CS.c _ us2 (Nat.le_refl _)]
      refine compL_sorted wo_C (l := p.map normC) ?_ ?_ (fun a _ b _ => order_zero) (fun a _ b _ => ⟨fun h => by rw [of_decide_eq_true h]; exact wo_C.refl b, fun h => decide_eq_true (order_zero h)⟩)
      · rw [← hus2.out]; exact H2.out.1.map _
      · rw [List.pairwise_map]; exact H2.out.2.1
end Go.Proofs.YtlhbpflcffjhmaaGreat

namespace Go.Proofs.YtlhbpflcffjhmaaGreat

structure LkS where
  n : Int
  came : List (List C)
  ads : List (List C)
  sent : List (List C)
structure TbS where
  ls : List LkS
  own : List (List C)
def lkF (S : TbS) (n : Int) : Option LkS := S.ls.find? fun x => decide (x.n = n)
def setL (S : TbS) (n : Int) (g : LkS → LkS) : TbS := { S with ls := S.ls.map fun x => if x.n = n then g x else x }
def ownTE (p : List C) : Int := if mayP p then 0 else 30
def ownTS (S : TbS) (p : List C) : TbS := if mayP p then { S with own := laidF S.own (normP p) } else S
def disTE (S : TbS) (p : List C) : Int := if mayP p then (if hasF S.own (normP p) then 0 else 6) else 30
def disTS (S : TbS) (p : List C) : TbS := if mayP p && hasF S.own (normP p) then { S with own := cutF S.own (normP p) } else S
def atTE (S : TbS) (n : Int) (p : List C) : Int := if (lkF S n).isSome then (if mayP p then 0 else 30) else 6
def learnG (p : List C) (x : LkS) : LkS := if hasF x.came p then x else { x with came := laidF x.came p }
def learnTS (S : TbS) (n : Int) (p : List C) : TbS := if mayP p then setL S n (learnG (normP p)) else S
def cameF (S : TbS) (n : Int) : List (List C) := match lkF S n with | none => [] | some x => x.came
def sentF (S : TbS) (n : Int) : List (List C) := match lkF S n with | none => [] | some x => x.sent
def adsF (S : TbS) (n : Int) : List (List C) := match lkF S n with | none => [] | some x => x.ads
def forgetTE (S : TbS) (n : Int) (p : List C) : Int := if (lkF S n).isSome then (if mayP p then (if hasF (cameF S n) (normP p) then 0 else 6) else 30) else 6
def forgetG (p : List C) (x : LkS) : LkS := if hasF x.came p then { x with came := cutF x.came p } else x
def forgetTS (S : TbS) (n : Int) (p : List C) : TbS := if mayP p then setL S n (forgetG (normP p)) else S
def onceF (l : List (List C)) : List (List C) := sortU cmpP l
def adsTE (S : TbS) (n : Int) (l : List (List C)) : Int := if (lkF S n).isSome then (if l.all mayP then 0 else 30) else 6
def adsTS (S : TbS) (n : Int) (l : List (List C)) : TbS := if l.all mayP then setL S n (fun x => { x with ads := onceF (l.map normP) }) else S
def linkTE (S : TbS) (n : Int) : Int := if (lkF S n).isSome then 0 else 6
def resetTS (S : TbS) (n : Int) : TbS := setL S n fun x => ⟨x.n, [], [], []⟩
def othersF (S : TbS) (n : Int) : List (List C) := (S.ls.filter fun x => !decide (x.n = n)).flatMap LkS.came
def nearF (ads l : List (List C)) : List (List C) := l.filter fun p => ads.any fun a => overlapsF p a
def wantF (S : TbS) (x : LkS) : List (List C) := topsF (nearF x.ads (onceF (S.own ++ othersF S x.n)))
def chTS (S : TbS) (n : Int) : TbS := setL S n fun x => { x with sent := wantF S x }
def lessF (l of : List (List C)) : List (List C) := l.filter fun p => !hasF of p
def maxF (l : List (List C)) : List (List C) := topsF (onceF ((l.filter mayP).map normP))

/-- What a table may be: links apart; predicates normal and in order. -/
structure OkL (x : LkS) : Prop where
  came : NormL x.came ∧ Up cmpP x.came
  ads : NormL x.ads ∧ Up cmpP x.ads
  sent : NormL x.sent ∧ Up cmpP x.sent
structure OkT (S : TbS) : Prop where
  apart : (S.ls.map LkS.n).Nodup
  own : NormL S.own ∧ Asc S.own
  ls : ∀ x ∈ S.ls, OkL x
theorem OkL.zero (n : Int) : OkL ⟨n, [], [], []⟩ :=
  ⟨⟨fun _ h => (by cases h), List.Pairwise.nil⟩, ⟨fun _ h => (by cases h), List.Pairwise.nil⟩, ⟨fun _ h => (by cases h), List.Pairwise.nil⟩⟩
theorem lkF_some {S : TbS} {n : Int} {x : LkS} (h : lkF S n = some x) : x ∈ S.ls ∧ x.n = n := ⟨List.mem_of_find?_eq_some h, by have := List.find?_some h; simpa using this⟩
theorem lkF_none {S : TbS} {n : Int} (h : lkF S n = none) : ∀ x ∈ S.ls, x.n ≠ n := fun x hx e => by have := List.find?_eq_none.1 h x hx; simp [e] at this
theorem OkT.set {S : TbS} (h : OkT S) (n : Int) {g : LkS → LkS} (hn : ∀ x, (g x).n = x.n) (hg : ∀ x ∈ S.ls, OkL (g x)) : OkT (setL S n g) := by
  refine ⟨?_, h.own, fun x hx => ?_⟩
  · have e : (setL S n g).ls.map LkS.n = S.ls.map LkS.n := by
      show (S.ls.map _).map LkS.n = _
      rw [List.map_map]
      refine List.map_congr_left fun x _ => ?_
      simp only [Function.comp]
      split
      · exact hn x
      · rfl
    rw [e]; exact h.apart
  · obtain ⟨y, hy, rfl⟩ := List.mem_map.1 hx
    split
    · exact hg y hy
    · exact h.ls y hy
theorem laid_up {l : List (List C)} (h : Up cmpP l) {p : List C} (hp : hasF l p = false) : Up cmpP (laidF l p) := by
  refine asc_up (laid_asc h.asc p) ?_
  rw [(laid_perm l p).nodup_iff, List.nodup_cons]
  exact ⟨has_false h.asc hp, h.nodup⟩
theorem cut_up {l : List (List C)} (h : Up cmpP l) (p : List C) : Up cmpP (cutF l p) := List.Pairwise.sublist (cut_sub l p) h
theorem OkT.ownS {S : TbS} (h : OkT S) (p : List C) : OkT (ownTS S p) := by
  unfold ownTS
  split
  · rename_i hm
    exact ⟨h.apart, ⟨h.own.1.laid hm, laid_asc h.own.2 _⟩, h.ls⟩
  · exact h
theorem OkT.disS {S : TbS} (h : OkT S) (p : List C) : OkT (disTS S p) := by
  unfold disTS
  split
  · exact ⟨h.apart, ⟨h.own.1.sub fun q hq => (cut_sub _ _).subset hq, cut_asc h.own.2 _⟩, h.ls⟩
  · exact h
theorem OkT.learnS {S : TbS} (h : OkT S) (n : Int) (p : List C) : OkT (learnTS S n p) := by
  unfold learnTS
  split
  · rename_i hm
    refine h.set n (fun x => ?_) fun x hx => ?_
    · unfold learnG; split <;> rfl
    · have hx := h.ls x hx
      unfold learnG
      split
      · exact hx
      · rename_i hh
        exact ⟨⟨hx.came.1.laid hm, laid_up hx.came.2 (by simpa using hh)⟩, hx.ads, hx.sent⟩
  · exact h
theorem OkT.forgetS {S : TbS} (h : OkT S) (n : Int) (p : List C) : OkT (forgetTS S n p) := by
  unfold forgetTS
  split
  · refine h.set n (fun x => ?_) fun x hx => ?_
    · unfold forgetG; split <;> rfl
    · have hx := h.ls x hx
      unfold forgetG
      split
      · exact ⟨⟨hx.came.1.sub fun q hq => (cut_sub _ _).subset hq, cut_up hx.came.2 _⟩, hx.ads, hx.sent⟩
      · exact hx
  · exact h
theorem normL_map {l : List (List C)} (h : l.all mayP = true) : NormL (onceF (l.map normP)) := fun z hz => by
  obtain ⟨p, hp, rfl⟩ := List.mem_map.1 (sortP_mem.1 hz)
  exact normL_norm (List.all_eq_true.1 h p hp)
theorem OkT.adsS {S : TbS} (h : OkT S) (n : Int) (l : List (List C)) : OkT (adsTS S n l) := by
  unfold adsTS
  split
  · rename_i hm
    refine h.set n (fun _ => rfl) fun x hx => ?_
    have hx := h.ls x hx
    exact ⟨hx.came, ⟨normL_map hm, sortP_up _⟩, hx.sent⟩
  · exact h
theorem OkT.resetS {S : TbS} (h : OkT S) (n : Int) : OkT (resetTS S n) := h.set n (fun _ => rfl) fun x _ => OkL.zero x.n
theorem topsF_sub (l : List (List C)) : (topsF l).Sublist l := topsG_sub id l l
theorem others_mem {S : TbS} {n : Int} {p : List C} : p ∈ othersF S n ↔ ∃ x ∈ S.ls, x.n ≠ n ∧ p ∈ x.came := by
  unfold othersF
  rw [List.mem_flatMap]
  constructor
  · rintro ⟨x, hx, hp⟩
    obtain ⟨h1, h2⟩ := List.mem_filter.1 hx
    exact ⟨x, h1, by simpa using h2, hp⟩
  · rintro ⟨x, hx, hn, hp⟩
    exact ⟨x, List.mem_filter.2 ⟨hx, by simpa using hn⟩, hp⟩
theorem want_mem {S : TbS} {x : LkS} {p : List C} (h : p ∈ wantF S x) : (p ∈ S.own ∨ ∃ y ∈ S.ls, y.n ≠ x.n ∧ p ∈ y.came) ∧ ∃ a ∈ x.ads, overlapsF p a = true := by
  obtain ⟨h1, h2⟩ := List.mem_filter.1 ((topsF_sub _).subset h)
  have h1 := sortP_mem.1 h1
  refine ⟨?_, List.any_eq_true.1 h2⟩
  rcases List.mem_append.1 h1 with h1 | h1
  · exact .inl h1
  · exact .inr (others_mem.1 h1)
theorem want_ok {S : TbS} (h : OkT S) (x : LkS) : NormL (wantF S x) ∧ Up cmpP (wantF S x) := by
  refine ⟨fun p hp => ?_, ?_⟩
  · rcases (want_mem hp).1 with h1 | ⟨y, hy, _, h1⟩
    · exact h.own.1 p h1
    · exact (h.ls y hy).came.1 p h1
  · exact List.Pairwise.sublist ((topsF_sub _).trans List.filter_sublist) (sortP_up _)
theorem OkT.chS {S : TbS} (h : OkT S) (n : Int) : OkT (chTS S n) := by
  refine h.set n (fun _ => rfl) fun x hx => ?_
  have hx := h.ls x hx
  exact ⟨hx.came, hx.ads, want_ok h x⟩
theorem lkF_set {S : TbS} {n : Int} {g : LkS → LkS} (hn : ∀ x, (g x).n = x.n) (m : Int) : lkF (setL S n g) m = (lkF S m).map fun x => if x.n = n then g x else x := by
  unfold lkF setL
  rw [List.find?_map]
  have e : ((fun x => decide (x.n = m)) ∘ fun x : LkS => if x.n = n then g x else x) = fun x => decide (x.n = m) := by
    funext x
    simp only [Function.comp]
    split
    · rw [hn x]
    · rfl
  rw [e]
/-- What is wanted hangs on what there is alone. -/
theorem want_same {S T : TbS} {x y : LkS} (h1 : ∀ p, p ∈ S.own ↔ p ∈ T.own) (h2 : ∀ p, p ∈ othersF S x.n ↔ p ∈ othersF T y.n) (h3 : x.ads = y.ads) : wantF S x = wantF T y := by
  unfold wantF onceF
  rw [h3, sortU_same wo_P (l := S.own ++ othersF S x.n) (m := T.own ++ othersF T y.n) (fun a _ b _ h => cmpP_zero h) fun z => by rw [List.mem_append, List.mem_append, h1, h2]]
theorem filter_both {α : Type} (q : α → Bool) : ∀ l : List α, l.length = (l.filter q).length + (l.filter fun x => !q x).length
  | [] => rfl
  | x :: l => by
    have := filter_both q l
    cases h : q x
    · rw [List.filter_cons_of_neg (by simp [h]), List.filter_cons_of_pos (by simp [h]), List.length_cons, List.length_cons]; omega
    · rw [List.filter_cons_of_pos (by simp [h]), List.filter_cons_of_neg (by simp [h]), List.length_cons, List.length_cons]; omega
theorem less_len {l of : List (List C)} (hl : Up cmpP l) (ho : Up cmpP of) : of.length + (lessF l of).length = l.length + (lessF of l).length := by
  have key : ∀ {l of : List (List C)}, Up cmpP l → Up cmpP of → (lessF l of).length = l.length - (l.filter fun p => decide (p ∈ of)).length := fun {l of} hl ho => by
    have e : lessF l of = l.filter fun p => !decide (p ∈ of) := by
      unfold lessF
      refine List.filter_congr fun p _ => ?_
      congr 1
      rw [Bool.eq_iff_iff, decide_eq_true_iff]
      exact has_iff ho.asc p
    rw [e]
    have := filter_both (fun p => decide (p ∈ of)) l
    omega
  have hp : (l.filter fun p => decide (p ∈ of)).Perm (of.filter fun p => decide (p ∈ l)) := by
    refine (List.perm_ext_iff_of_nodup (hl.nodup.filter _) (ho.nodup.filter _)).2 fun z => ?_
    rw [List.mem_filter, List.mem_filter, decide_eq_true_iff, decide_eq_true_iff, and_comm]
  have h1 := key hl ho
  have h2 := key ho hl
  have h3 := hp.length_eq
  have h4 := List.length_filter_le (fun p => decide (p ∈ of)) l
  have h5 := List.length_filter_le (fun p => decide (p ∈ l)) of
  omega
theorem sent_both {l of : List (List C)} (ho : Up cmpP of) {p : List C} (h : p ∈ l) : p ∈ of ∨ p ∈ lessF l of := by
  cases hh : hasF of p with
  | true => exact .inl ((has_iff ho.asc p).1 hh)
  | false => exact .inr (List.mem_filter.2 ⟨h, by rw [hh]; rfl⟩)
end Go.Proofs.YtlhbpflcffjhmaaGreat

namespace Go.Proofs.YtlhbpflcffjhmaaGreat
open Go.RowKit Go.Sort Go.MapKept

/-- A row of predicates of the call's own, the predicates too. -/
structure RowQ (b : Nat) (w : World) (v : Value) (us : List PP) : Prop where
  own : OwnQ w b v us
  ps : ∀ x ∈ us, PredT b w x.h x.p
  ok : ∀ x ∈ us, ∀ c ∈ x.p, okC c
theorem RowQ.ext {b : Nat} {w w' : World} {v : Value} {us : List PP} (h : RowQ b w v us) (hx : Ext w w') : RowQ b w' v us := ⟨h.own.ext hx, fun x hm => (h.ps x hm).ext hx, h.ok⟩
theorem RowQ.low {b c : Nat} {w : World} {v : Value} {us : List PP} (h : RowQ b w v us) (hb : c ≤ b) : RowQ c w v us := ⟨h.own.low hb, fun x hm => (h.ps x hm).low hb, h.ok⟩
theorem RowQ.preds {b : Nat} {w : World} {v : Value} {us : List PP} (h : RowQ b w v us) : PredsR w v us := ⟨h.own.row, fun x hm => (h.ps x hm).pred⟩
theorem RowQ.nil (b : Nat) (w : World) : RowQ b w (.slice none 0 0) [] := ⟨⟨rfl, .inl ⟨rfl, rfl⟩⟩, (fun _ h => by cases h), (fun _ h => by cases h)⟩
theorem RowQ.one {b : Nat} {w : World} {v : Value} {us : List PP} (h : RowQ b w v us) : ∀ x ∈ us, x.h.oneCell' = true := fun x hx => pred_one (h.ps x hx).pred
theorem okC_norm {p : List C} (h : ∀ c ∈ p, okC c) : ∀ c ∈ normP p, okC c := fun z hz => by
  obtain ⟨c, hc, rfl⟩ := (normP_mem p z).1 hz
  have := h c hc
  exact ⟨this.name, this.op, this.v, fun x hx => this.set x (sortU_sub _ _ hx)⟩
theorem normal_T (w : World) (v : Value) (p : List C) (hp : PredR w v p) (hm : mayP p = true) :
    Calls Tryz.prog 27 #[v] w fun e w' => ∃ a n c, e = .returned (.tuple #[.slice a n c, .int .i64 0]) ∧ PredT w.heap.size w' (.slice a n c) (normP p) ∧ Ext w w' := by
  refine (normal_yes w v p hp hm).mono ?_
  rintro e w' ⟨v', us, rfl, e1, h1, h2, hx⟩
  have hT : PredT w.heap.size w' v' (normP p) := ⟨us, e1, h1, h2⟩
  obtain ⟨a, c, rfl, _, _⟩ := hT.pred.shape
  exact ⟨_, _, _, rfl, hT, hx⟩
/-- A row of lists of one length turns: predicates and rows of other blocks stay. -/
theorem RowQ.keep {b base n : Nat} {w w' : World} {v u : Value} {us : List PP} {xs : List Value} (h : RowQ b w v us) (ho : w.ownsRow base 25 1 u n xs) (hg : w.grownBy w' u.ownBlock) (hne : ∀ k, v.ownBlock = some k → u.ownBlock ≠ some k) : RowQ b w' v us :=
  ⟨own_keep h.own hg hne, fun x hm => (h.ps x hm).rowTurn ho hg, h.ok⟩
set_option maxRecDepth 100000 in
set_option maxHeartbeats 4000000 in
theorem hasT_any (w : World) (b : Nat) (v tv : Value) (us : List PP) (p : List C) (h : RowQ b w v us) (hp : PredT b w tv p) (hl : us.length ≤ 1000000) (hasc : Asc (us.map PP.p)) :
    Calls Tryz.prog 45 #[v, tv] w fun e w' => e = .returned (.tuple #[.int .i64 (kF (us.map PP.p) p : Nat), .bool (hasF (us.map PP.p) p)]) ∧ Ext w w' := by
  have hb := bsQ_any w b b v tv us p h.own h.ps hp hl hasc
  obtain ⟨a, cap, rfl, _, _⟩ := own_shape h.own
  obtain ⟨ta, tc, rfl, _, _⟩ := hp.pred.shape
  have HB := Lib.hid hb
  clear hb h hp hasc
  generalize kF (us.map PP.p) p = k at *
  generalize hasF (us.map PP.p) p = is at *
  go_enter Tryz.func45, Tryz.ntmps45
  go_wp2_with (go_at_call 91; (with_reducible refine HB.out.mono ?_); rintro e w1 ⟨rfl, hx⟩; have HX := Lib.hid hx; clear hx)
  exact bodyPost_ret (v := .tuple #[.int .i64 k, .bool is]) (by simp [results, Tryz.results45, go_sem]) rfl ⟨rfl, HX.out⟩
theorem laid_map (us : List PP) (x : PP) (k : Nat) (hk : kF (us.map PP.p) x.p = k) : (insP us k x).map PP.p = laidF (us.map PP.p) x.p := by
  unfold insP laidF
  rw [hk, List.map_append, List.map_cons, List.map_take, List.map_drop]
set_option maxRecDepth 100000 in
set_option maxHeartbeats 4000000 in
theorem laidT_any (w : World) (b : Nat) (v tv : Value) (us : List PP) (p : List C) (h : RowQ b w v us) (hp : PredT b w tv p) (hpc : ∀ c ∈ p, okC c) (hl : us.length ≤ 100000) (hasc : Asc (us.map PP.p)) (hb : b ≤ w.heap.size) :
    Calls Tryz.prog 44 #[v, tv] w fun e w' => ∃ v' us', e = .returned v' ∧ us'.map PP.p = laidF (us.map PP.p) p ∧ RowQ b w' v' us' ∧ Ext w w' := by
  have hbs := bsQ_any w b b v tv us p h.own h.ps hp (by omega) hasc
  obtain ⟨ta, tc, rfl, _, _⟩ := hp.pred.shape
  have hcl := fun W (hW : Ext w W) => cloneQ_any W v us (h.ext hW).preds (by omega)
  obtain ⟨k, hk⟩ : ∃ k, kF (us.map PP.p) p = k := ⟨_, rfl⟩
  have hkl : k ≤ us.length := by rw [← hk]; unfold kF; have := List.countP_le_length (p := fun q => decide (cmpP q p < 0)) (l := us.map PP.p); rw [List.length_map] at this; exact this
  have hmap := laid_map us ⟨.slice ta p.length tc, p⟩ k hk
  have hin : ∀ W v2, Ext w W → OwnQ W W.heap.size v2 us ∨ True → OwnQ W w.heap.size v2 us → Calls Tryz.prog 92 #[v2, .int .i64 k, .slice (some ⟨W.heap.size, 0, none⟩) 1 1] (W.alloc (.cells #[.slice ta p.length tc] 25)) fun e w' => ∃ v' us', e = .returned v' ∧ us'.map PP.p = laidF (us.map PP.p) p ∧ RowQ b w' v' us' ∧ Ext w w' := by
    intro W v2 hW _ ho
    have hx1 : Ext W (W.alloc (.cells #[.slice ta p.length tc] 25)) := (Ext.refl W).alloc _
    have ho' := ho.ext hx1
    have hne : v2.ownBlock ≠ some W.heap.size := fun e => by have := (ho.lt _ e).2; omega
    refine (insQ_any (W.alloc (.cells #[.slice ta p.length tc] 25)) w.heap.size v2 us ho' h.one ⟨.slice ta p.length tc, p⟩ rfl W.heap.size (heap_alloc_new W _) hne (by omega) (by have := hW.size; rw [World.size_alloc]; omega) k hkl).mono ?_
    rintro e w' ⟨v', rfl, h1, h2⟩
    have hext : Ext w w' := (hW.trans hx1).grown_none h2 (own_base ho')
    refine ⟨v', _, rfl, hmap, ⟨h1.low hb, fun x hx => ?_, fun x hx => ?_⟩, hext⟩
    · unfold insP at hx
      rcases List.mem_append.1 hx with hx | hx
      · exact (h.ps x (List.mem_of_mem_take hx)).ext hext
      · rcases List.mem_cons.1 hx with rfl | hx
        · exact hp.ext hext
        · exact (h.ps x (List.mem_of_mem_drop hx)).ext hext
    · unfold insP at hx
      rcases List.mem_append.1 hx with hx | hx
      · exact h.ok x (List.mem_of_mem_take hx)
      · rcases List.mem_cons.1 hx with rfl | hx
        · exact hpc
        · exact h.ok x (List.mem_of_mem_drop hx)
  obtain ⟨a, cap, rfl, _, _⟩ := own_shape h.own
  rw [hk] at hbs
  have HB := Lib.hid hbs
  have HC := Lib.hid hcl
  have HI := Lib.hid hin
  clear hbs hcl hin hmap hkl hk h hp hpc hasc
  generalize hasF (us.map PP.p) p = is at *
  go_enter Tryz.func44, Tryz.ntmps44
  go_upto_region 2 with (go_at_call 91; (with_reducible refine HB.out.mono ?_); rintro e w1 ⟨rfl, hx⟩; have HX := Lib.hid hx; clear hx)
  go_wp2_with (first
    | (go_at_call 47; (with_reducible refine (HC.out _ HX.out).mono ?_); rintro e w2 ⟨v2, rfl, ho, hx, _⟩; have HO := Lib.hid ho; have HX2 := Lib.hid (HX.out.trans hx); have HLE := Lib.hid HX.out.size; clear ho hx)
    | (go_at_call 92; (refine (HI.out _ _ HX2.out (.inr trivial) (HO.out.low HLE.out)).mono ?_); rintro e w3 ⟨v3, us3, rfl, hR⟩; have HR := Lib.hid hR; clear hR))
  obtain ⟨a3, c3, e3, _, _⟩ := own_shape HR.out.2.1.own
  exact bodyPost_ret (v := v3) (by simp [results, Tryz.results44, go_sem]) rfl ⟨v3, us3, rfl, HR.out⟩
end Go.Proofs.YtlhbpflcffjhmaaGreat

namespace Go.Proofs.YtlhbpflcffjhmaaGreat
open Go.RowKit Go.Sort Go.MapKept

theorem push_own {W' : World} {b : Nat} {v' : Value} {us : List PP} {x : PP} (h : W'.ownsRow b 25 1 v' (us.length + 1) (us.flatMap ppC ++ [x.h])) : OwnQ W' b v' (us ++ [x]) := by
  unfold OwnQ
  rw [List.length_append, List.flatMap_append]
  exact h
theorem pushQ {W W' : World} {b : Nat} {v v' : Value} {us : List PP} {x : PP} (hR : RowQ b W v us) (hx : PredT b W x.h x.p) (hc : ∀ c ∈ x.p, okC c) (ho : W'.ownsRow b 25 1 v' (us.length + 1) (us.flatMap ppC ++ [x.h])) (hg : W.grownBy W' v.ownBlock) : RowQ b W' v' (us ++ [x]) := by
  refine ⟨push_own ho, fun y hy => ?_, fun y hy => ?_⟩
  · rcases List.mem_append.1 hy with hy | hy
    · exact (hR.ps y hy).rowTurn hR.own hg
    · rw [List.mem_singleton.1 hy]; exact hx.rowTurn hR.own hg
  · rcases List.mem_append.1 hy with hy | hy
    · exact hR.ok y hy
    · rw [List.mem_singleton.1 hy]; exact hc
theorem lit_Q (W : World) (h : Value) : Row (W.alloc (.cells #[h] 25)) 1 (.slice (some ⟨W.heap.size, 0, none⟩) 1 1) 1 [h] :=
  Row.of_own (World.ownsRow_lit (base := W.heap.size) (e := 25) (size := 1) W #[h] 1 (Nat.le_refl _) (by decide) rfl)
set_option maxRecDepth 100000 in
set_option maxHeartbeats 4000000 in
theorem copiedT_any (w : World) (v : Value) (us : List PP) (h : PredsR w v us) (hm : ∀ x ∈ us, mayP x.p = true) (hk : ∀ x ∈ us, ∀ c ∈ x.p, okC c) (hl : us.length ≤ 100000) :
    Calls Tryz.prog 51 #[v] w fun e w' => ∃ v' us', e = .returned v' ∧ us'.map PP.p = us.map (fun x => normP x.p) ∧ RowQ w.heap.size w' v' us' ∧ Ext w w' := by
  obtain ⟨va, vc, rfl, hvc, hvm⟩ := Row.shape h.row
  obtain ⟨n, hn⟩ : ∃ n, n = us.length := ⟨_, rfl⟩
  rw [← hn] at hvc ⊢
  have HN := Lib.hid hn
  have HR := Lib.hid h
  have HM := Lib.hid hm
  have HK := Lib.hid hk
  rw [← hn] at hl
  rw [← hn] at HR
  unfold maxLen at hvm
  clear h hm hk hn
  go_enter Tryz.func51, Tryz.ntmps51
  go_wp2_with fail
  go_loopw [3, 10] (fun vo i wr => ∃ (k : Nat) (uk : List PP), k ≤ n ∧ i = .int .i64 k ∧ Hid (RowQ w.heap.size wr vo uk) ∧ Hid (uk.map PP.p = (us.take k).map fun x => normP x.p) ∧ Hid (uk.length = k) ∧ Hid (Ext w wr)) (fun _ i _ => n - (intOf i).toNat)
  case atStart => exact ⟨0, [], Nat.zero_le _, rfl, RowQ.nil _ _, rfl, rfl, Ext.refl w⟩
  case round =>
    obtain ⟨k, uk, hk, rfl, hrow, hmap, hlen, hx⟩ := hrel
    by_cases hlt : k < n
    · have hI : decide ((k : Int) < (n : Int)) = true := decide_eq_true (by omega)
      have hkl : k < us.length := by rw [← HN.out]; exact hlt
      obtain ⟨B, o, rfl, c0⟩ := PredsR.at (HR.out.ext hx.out) hkl
      have hmem : us[k] ∈ us := List.getElem_mem hkl
      have hp := (HR.out.hs _ hmem).ext hx.out
      have hmk := HM.out _ hmem
      have hok := okC_norm (HK.out _ hmem)
      have hmap2 : (us.take (k + 1)).map (fun x => normP x.p) = (us.take k).map (fun x => normP x.p) ++ [normP us[k].p] := by rw [List.take_succ_eq_append_getElem hkl, List.map_append]; rfl
      have HM2 := Lib.hid hmap2
      clear hmap2
      generalize us[k] = y at *
      have hcall := fun W (hW : Ext wr W) => normal_T W y.h y.p (hp.ext hW) hmk
      obtain ⟨ya, yc, hyh, _, _⟩ := hp.shape
      obtain ⟨yn, hyn⟩ : ∃ yn, yn = y.p.length := ⟨_, rfl⟩
      rw [← hyn] at hyh
      rw [hyh] at c0 hcall
      have HC := Lib.hid hcall
      have HOK := Lib.hid hok
      clear hcall hp hmk hok hyh hyn hmem
      go_upto_region 6 with (go_at_call 27; (with_reducible refine (HC.out _ (Ext.refl _)).mono ?_); rintro e w5 ⟨na, nn, nc, rfl, hT, hx5⟩; have HT := Lib.hid hT; have HX5 := Lib.hid hx5; clear hT hx5)
      go_wp2_with (at_builtin; refine wpList_append_row 22 25 (.tmp 19) (.tmp 21) rfl w.heap.size _ 1 24 Tryz.underlying22 infoQ rfl (by decide) rfl _ uk.length (uk.flatMap ppC) rfl ((hrow.out.ext HX5.out).ext ((Ext.refl _).alloc _)).own 1 [.slice na nn nc] (lit_Q _ _) (by intro u hu; rw [List.mem_singleton.1 hu]; rfl) (by have := hlen.out; omega) (by have := hlen.out; unfold maxLen; omega) (by rw [World.size_alloc]; have := (hx.out.trans HX5.out).size; omega) ?_; intro v' w6 hown hgrow; have HO := Lib.hid hown; have HG := Lib.hid hgrow; clear hown hgrow)
      have hW : Ext w (w5.alloc (.cells #[.slice na nn nc] 25)) := (hx.out.trans HX5.out).alloc _
      have hr5 : RowQ w.heap.size (w5.alloc (.cells #[.slice na nn nc] 25)) u3 uk := (hrow.out.ext HX5.out).ext ((Ext.refl _).alloc _)
      have hfin : RowQ w.heap.size w6 v' (uk ++ [⟨.slice na nn nc, normP y.p⟩]) := pushQ hr5 ((HT.out.low hx.out.size).ext ((Ext.refl _).alloc _)) HOK.out HO.out HG.out
      have HF := Lib.hid hfin
      have hext : Ext w w6 := hW.grown_none HG.out (own_base hr5.own)
      have HE := Lib.hid hext
      have hmm : (uk ++ [(⟨.slice na nn nc, normP y.p⟩ : PP)]).map PP.p = (us.take (k + 1)).map (fun x => normP x.p) := by rw [List.map_append, hmap.out, HM2.out]; rfl
      have HMM := Lib.hid hmm
      clear hW hr5 hfin hext hmm c0
      go_roundw
      case rel => exact ⟨k + 1, _, hlt, by go_num, HF.out, HMM.out, by have := hlen.out; show (uk ++ [_]).length = _; rw [List.length_append, this]; rfl, HE.out⟩
      case measure => simp [intOf]; omega
    · obtain rfl : k = n := by omega
      have hI : decide ((k : Int) < (k : Int)) = false := decide_eq_false (by omega)
      have hfin : uk.map PP.p = us.map (fun x => normP x.p) := by rw [hmap.out, List.take_of_length_le (by rw [← HN.out]; exact Nat.le_refl _)]
      have HF := Lib.hid hfin
      clear hfin
      go_wp2_with fail
      exact bodyPost_ret (v := u3) (by simp [results, Tryz.results51, go_sem]) rfl ⟨u3, uk, rfl, HF.out, hrow.out, hx.out⟩
/-! once -/
theorem comp_once (us us1 : List PP) (hp : us1.Perm us) (hs : us1.Pairwise fun a b => cmpP a.p b.p ≤ 0) : (compF PP.p us1).map PP.p = onceF (us.map PP.p) := by
  rw [map_compF PP.p _ us1 (Nat.le_refl _)]
  unfold onceF
  refine compL_sorted wo_P (hp.map _) (List.pairwise_map.2 hs) (fun a _ b _ h => cmpP_zero h) fun a _ b _ => ?_
  rw [decide_eq_true_iff]
  exact ⟨fun e => by rw [e]; exact wo_P.refl b, cmpP_zero⟩
set_option maxRecDepth 100000 in
set_option maxHeartbeats 4000000 in
theorem onceQ_any (w : World) (b : Nat) (v : Value) (us : List PP) (h : RowQ b w v us) (hb : b ≤ w.heap.size) (hl : us.length ≤ 1000000) :
    Calls Tryz.prog 29 #[v] w fun e w' => ∃ v' us', e = .returned v' ∧ us'.map PP.p = onceF (us.map PP.p) ∧ (∀ x ∈ us', x ∈ us) ∧ OwnQ w' w.heap.size v' us' ∧ RowQ b w' v' us' ∧ Ext w w' := by
  have hcl := cloneQ_any w v us h.preds hl
  have hso : ∀ W v2, OwnQ W w.heap.size v2 us → Ext w W → Calls Tryz.prog 69 #[v2, .func (.func 8) #[] #[]] W
      fun e w' => e = .returned (.tuple #[]) ∧ ∃ us' : List PP, us'.Perm us ∧ (us'.Pairwise fun a b => cmpP a.p b.p ≤ 0) ∧ OwnQ w' w.heap.size v2 us' ∧ Ext w w' := fun W v2 ho hW => by
    refine (sortQ_any W w.heap.size b v2 us ho (fun x hx => (h.ps x hx).ext hW) hl).mono ?_
    rintro e w' ⟨rfl, us', p1, p2, p3, p4⟩
    exact ⟨rfl, us', p1, p2, p3, hW.grown_none p4 (own_base ho)⟩
  have hco : ∀ W v2 us2, us2.Perm us → (us2.Pairwise fun a b => cmpP a.p b.p ≤ 0) → OwnQ W w.heap.size v2 us2 → Ext w W → Calls Tryz.prog 70 #[v2, .func (.func 66) #[] #[]] W
      fun e w' => ∃ v' us', e = .returned v' ∧ us'.map PP.p = onceF (us.map PP.p) ∧ (∀ x ∈ us', x ∈ us) ∧ OwnQ w' w.heap.size v' us' ∧ RowQ b w' v' us' ∧ Ext w w' := fun W v2 us2 hp hs ho hW => by
    refine (compactQ_any W w.heap.size b v2 us2 ho (by rw [hp.length_eq]; exact hl) fun x hx => (h.ps x (hp.mem_iff.1 hx)).ext hW).mono ?_
    rintro e w' ⟨v', rfl, p3, p4, p5⟩
    have hx2 : Ext w w' := hW.grown_none p4 (own_base ho)
    have hmem : ∀ x ∈ compF PP.p us2, x ∈ us := fun x hx => hp.mem_iff.1 (compF_sub PP.p _ us2 (Nat.le_refl _) x hx)
    exact ⟨v', _, rfl, comp_once us us2 hp hs, hmem, p3, ⟨OwnQ.low p3 hb, fun x hx => (h.ps x (hmem x hx)).ext hx2, fun x hx => h.ok x (hmem x hx)⟩, hx2⟩
  obtain ⟨a, cap, rfl, _, _⟩ := own_shape h.own
  have HC := Lib.hid hcl
  have HS := Lib.hid hso
  have HK := Lib.hid hco
  clear hcl hso hco h
  go_enter Tryz.func29, Tryz.ntmps29
  go_upto_region 2 with (go_at_call 47; (with_reducible refine HC.out.mono ?_); rintro e w2 ⟨v2, rfl, ho, hx, _⟩; have HO := Lib.hid ho; have HX2 := Lib.hid hx; clear ho hx)
  go_upto_region 3 with (go_at_call 69; (with_reducible refine (HS.out _ _ HO.out HX2.out).mono ?_); rintro e w3 ⟨rfl, us2, p1, p2, p3, p4⟩; have P1 := Lib.hid p1; have P2 := Lib.hid p2; have P3 := Lib.hid p3; have P4 := Lib.hid p4; clear p1 p2 p3 p4)
  go_wp2_with (go_at_call 70; (with_reducible refine (HK.out _ _ _ P1.out P2.out P3.out P4.out).mono ?_); rintro e w4 ⟨v4, us4, rfl, hR⟩; have HR := Lib.hid hR; clear hR)
  exact bodyPost_ret (v := v4) (by simp [results, Tryz.results29, go_sem]) rfl ⟨v4, us4, rfl, HR.out⟩
end Go.Proofs.YtlhbpflcffjhmaaGreat

namespace Go.Proofs
open Go.Shelf
def Tryz.lays190_ren : Go.Shelf.Ren := ⟨fun | 190 => 76 | 125 => 105 | 258 => 117 | 128 => 146 | 129 => 147 | 302 => 159 | 303 => 160 | 304 => 161 | 305 => 162 | 306 => 163 | 307 => 164 | 308 => 165 | 309 => 166 | 310 => 167 | 333 => 209 | 329 => 194 | 330 => 195 | 334 => 210 | 335 => 211 | 336 => 212 | 344 => 232 | n => n, fun | 31 => 66 | 9 => 9 | 3 => 3 | 46 => 41 | 0 => 0 | 51 => 178 | 53 => 180 | 4 => 4 | 183 => 172 | 182 => 171 | 131 => 87 | 5 => 5 | 218 => 205 | 222 => 209 | 228 => 230 | 229 => 231 | n => n, fun | n => n⟩
theorem Tryz.lays190 : Go.Proofs.Lays.n190 Tryz.prog Tryz.lays190_ren := {
  mixed := by kernel_rfl
  f125 := Tryz.func105.trans (congrArg some (by kernel_rfl))
  f128 := Tryz.func146.trans (congrArg some (by kernel_rfl))
  f129 := Tryz.func147.trans (congrArg some (by kernel_rfl))
  f190 := Tryz.func76.trans (congrArg some (by kernel_rfl))
  f258 := Tryz.func117.trans (congrArg some (by kernel_rfl))
  f302 := Tryz.func159.trans (congrArg some (by kernel_rfl))
  f303 := Tryz.func160.trans (congrArg some (by kernel_rfl))
  f304 := Tryz.func161.trans (congrArg some (by kernel_rfl))
  f305 := Tryz.func162.trans (congrArg some (by kernel_rfl))
  f306 := Tryz.func163.trans (congrArg some (by kernel_rfl))
  f307 := Tryz.func164.trans (congrArg some (by kernel_rfl))
  f308 := Tryz.func165.trans (congrArg some (by kernel_rfl))
  f309 := Tryz.func166.trans (congrArg some (by kernel_rfl))
  f310 := Tryz.func167.trans (congrArg some (by kernel_rfl))
  f329 := Tryz.func194.trans (congrArg some (by kernel_rfl))
  f330 := Tryz.func195.trans (congrArg some (by kernel_rfl))
  f333 := Tryz.func209.trans (congrArg some (by kernel_rfl))
  f334 := Tryz.func210.trans (congrArg some (by kernel_rfl))
  f335 := Tryz.func211.trans (congrArg some (by kernel_rfl))
  f336 := Tryz.func212.trans (congrArg some (by kernel_rfl))
  f344 := Tryz.func232.trans (congrArg some (by kernel_rfl))
  t0 := Tryz.underlying0
  a0 := Tryz.isAgg0
  z0 := Tryz.sizeOf0
  v0 := Tryz.zeroValue0
  t3 := Tryz.underlying3
  a3 := Tryz.isAgg3
  z3 := Tryz.sizeOf3
  v3 := Tryz.zeroValue3
  t4 := Tryz.underlying4
  a4 := Tryz.isAgg4
  z4 := Tryz.sizeOf4
  v4 := Tryz.zeroValue4
  t5 := Tryz.underlying5
  a5 := Tryz.isAgg5
  z5 := Tryz.sizeOf5
  v5 := Tryz.zeroValue5
  t9 := Tryz.underlying9
  a9 := Tryz.isAgg9
  z9 := Tryz.sizeOf9
  v9 := Tryz.zeroValue9
  t31 := Tryz.underlying66
  a31 := Tryz.isAgg66
  z31 := Tryz.sizeOf66
  v31 := Tryz.zeroValue66
  t46 := Tryz.underlying41
  a46 := Tryz.isAgg41
  z46 := Tryz.sizeOf41
  v46 := Tryz.zeroValue41
  t51 := Tryz.underlying178
  a51 := Tryz.isAgg178
  z51 := Tryz.sizeOf178
  v51 := Tryz.zeroValue178
  t53 := Tryz.underlying180
  a53 := Tryz.isAgg180
  z53 := Tryz.sizeOf180
  v53 := Tryz.zeroValue180
  t131 := Tryz.underlying87
  a131 := Tryz.isAgg87
  z131 := Tryz.sizeOf87
  v131 := Tryz.zeroValue87
  t182 := Tryz.underlying171
  a182 := Tryz.isAgg171
  z182 := Tryz.sizeOf171
  v182 := Tryz.zeroValue171
  t183 := Tryz.underlying172
  a183 := Tryz.isAgg172
  z183 := Tryz.sizeOf172
  v183 := Tryz.zeroValue172
  t218 := Tryz.underlying205
  a218 := Tryz.isAgg205
  z218 := Tryz.sizeOf205
  v218 := Tryz.zeroValue205
  t222 := Tryz.underlying209
  a222 := Tryz.isAgg209
  z222 := Tryz.sizeOf209
  v222 := Tryz.zeroValue209
  t228 := Tryz.underlying230
  a228 := Tryz.isAgg230
  z228 := Tryz.sizeOf230
  v228 := Tryz.zeroValue230
  t229 := Tryz.underlying231
  a229 := Tryz.isAgg231
  z229 := Tryz.sizeOf231
  v229 := Tryz.zeroValue231 }
open Go.Sort Go.RowKit in
theorem Tryz.slices_Sort_string (blk off cap : Nat) (ss : List (List UInt8)) (w : World) (hH : Holds encStr w blk off ss.toArray) (hblk : blk < w.heap.size) (hsz : ss.length < 4611686018427387904) :
    Calls Tryz.prog 76 #[.slice (some ⟨blk, off, none⟩) ss.length cap] w fun e w' =>
      e = .returned (.tuple #[]) ∧ ∃ n os, w' = grow (putRow encStr (Sort.ahead w n) blk off (ss.mergeSort fun x y => decide (x ≤ y)).toArray) os := Any.slices_Sort_string Tryz.lays190 blk off cap ss w hH hblk hsz
open Go.RowKit Go.Sort in
theorem Tryz.slices_Sort_string_none (p : Option Addr) (cap : Nat) (w : World) :
    Calls Tryz.prog 76 #[.slice p 0 cap] w fun e w' => e = .returned (.tuple #[]) ∧ w' = w := Any.slices_Sort_string_none Tryz.lays190 p cap w
end Go.Proofs

namespace Go.Proofs.YtlhbpflcffjhmaaGreat
open Go.RowKit Go.Sort

theorem lt_cmp (x y : List UInt8) : x < y ↔ Lib.compareBytes x y < 0 := by
  induction x generalizing y with
  | nil => cases y <;> simp [Lib.compareBytes]
  | cons a x ih =>
    cases y with
    | nil => simp [Lib.compareBytes]
    | cons b y =>
      simp only [Lib.compareBytes, List.cons_lt_cons_iff]
      by_cases h1 : a < b
      · simp [h1]
      · by_cases h2 : b < a
        · have hne : ¬ a = b := by intro e; rw [e] at h2; exact absurd h2 (UInt8.lt_irrefl b)
          simp [h1, h2, hne]
        · have he : a = b := UInt8.le_antisymm (UInt8.not_lt.1 h2) (UInt8.not_lt.1 h1)
          subst he
          simp [ih y]
theorem le_cmp (x y : List UInt8) : x ≤ y ↔ Lib.compareBytes x y ≤ 0 := by
  have h := lt_cmp y x
  have ha := wo_bytes.anti x y
  rw [← List.not_lt, h]
  omega
def stC (s : List UInt8) : Value := .string (strOf s)
theorem stC_enc : encStr = stC := rfl
theorem sort_list (l : List (List UInt8)) : (l.mergeSort fun x y => decide (x ≤ y)).Perm l ∧ (l.mergeSort fun x y => decide (x ≤ y)).Pairwise fun a b => Lib.compareBytes a b ≤ 0 := by
  refine ⟨List.mergeSort_perm _ _, ?_⟩
  have h := List.pairwise_mergeSort (le := fun x y : List UInt8 => decide (x ≤ y)) (fun a b c h1 h2 => by
    simp only [decide_eq_true_eq, le_cmp] at *
    exact wo_bytes.trans _ _ _ h1 h2) (fun a b => by
    have := wo_bytes.anti a b
    simp only [Bool.or_eq_true, decide_eq_true_eq, le_cmp]
    omega) l
  exact h.imp fun h => by simpa [le_cmp] using h
theorem putRow_map (w : World) (g : Nat) (l : List (List UInt8)) : putRow stC w g 0 l.toArray = putRow id w g 0 (l.map stC).toArray := by
  unfold putRow
  congr 1
  funext c
  unfold putCells
  congr 1
  funext k x
  simp only [List.size_toArray, List.length_map]
  split
  · rename_i h
    have hk : k - 0 < l.length := by omega
    rw [getElem!_pos _ _ (by simpa using hk), getElem!_pos _ _ (by simpa using hk)]
    simp
  · rfl
theorem holds_map {w : World} {g : Nat} {l : List (List UInt8)} (h : Holds id w g 0 (l.map stC).toArray) : Holds stC w g 0 l.toArray := by
  intro j hj
  have hj' : j < l.length := by simpa using hj
  have := h j (by simpa using hj')
  rw [getElem!_pos _ _ (by simpa using hj')] at this ⊢
  simpa using this

theorem sortSt_any (w : World) (base : Nat) (v : Value) (l : List (List UInt8)) (ho : w.ownsRow base 9 1 v l.length (l.map stC)) (hl : l.length ≤ 1000000) :
    Calls Tryz.prog 76 #[v] w fun e w' => e = .returned (.tuple #[]) ∧ ∃ l' : List (List UInt8), l'.Perm l ∧ (l'.Pairwise fun a b => Lib.compareBytes a b ≤ 0) ∧ w'.ownsRow base 9 1 v l.length (l'.map stC) ∧ w.grownBy w' v.ownBlock := by
  have ho' := ho
  rcases ho.2 with ⟨rfl, h0⟩ | ⟨g, cap, cur, rfl, hb, hg, hn, hm, hs, ht⟩
  · have hz : l = [] := List.length_eq_zero_iff.1 h0
    subst hz
    refine (Tryz.slices_Sort_string_none none 0 w).mono ?_
    rintro e w' ⟨rfl, rfl⟩
    exact ⟨rfl, [], List.Perm.refl _, List.Pairwise.nil, ho, ⟨rfl, rfl, rfl, Nat.le_refl _, fun _ _ _ => rfl⟩⟩
  · have hlt : g < w.heap.size := (Array.getElem?_eq_some_iff.1 hg).1
    obtain ⟨_, _, _, _, _, _, _, hH⟩ := own_holds ho
    refine (Tryz.slices_Sort_string g 0 cap l w (holds_map hH) hlt (by omega)).mono ?_
    rintro e w' ⟨rfl, n, os, rfl⟩
    obtain ⟨p1, p2⟩ := sort_list l
    refine ⟨rfl, _, p1, p2, ?_, ?_⟩
    · rw [stC_enc, putRow_map]
      exact own_put ho (by simp [p1.length_eq])
    · rw [stC_enc, putRow_map]
      exact grownBy_row _
end Go.Proofs.YtlhbpflcffjhmaaGreat

namespace Go.Proofs.YtlhbpflcffjhmaaGreat
open Go.RowKit Go.Sort

theorem zero9 : ∀ w, (zeroValue 9).run Tryz.prog w = .ok (.string ⟨#[]⟩) w := fun _ => by kernel_rfl
theorem st_flat (l : List (List UInt8)) : l.map stC = l.flatMap fun s => [stC s] := by
  induction l with
  | nil => rfl
  | cons a l ih => simp [ih]
theorem st_at {W : World} {b g n cap : Nat} {l : List (List UInt8)} (h : W.ownsRow b 9 1 (.slice (some ⟨g, 0, none⟩) n cap) n (l.map stC)) {k : Nat} (hk : k < l.length) (hn : k < n) : W.cell? ⟨g, k, none⟩ = some (.string (strOf l[k])) := by
  have h1 := Row.cellAt (Row.of_own h) (j := k) (u := stC l[k]) (by rw [List.getElem?_map, List.getElem?_eq_getElem hk]; rfl) (by omega)
  rw [Nat.zero_add] at h1
  exact h1

set_option maxRecDepth 100000 in
set_option maxHeartbeats 4000000 in
theorem compactSt_any (w : World) (base : Nat) (v : Value) (l : List (List UInt8)) (ho : w.ownsRow base 9 1 v l.length (l.map stC)) (hl : l.length ≤ 1000000) :
    Calls Tryz.prog 77 #[v] w fun e w' => ∃ v', e = .returned v' ∧ w'.ownsRow base 9 1 v' (compE l).length ((compE l).map stC) ∧ w.grownBy w' v.ownBlock ∧ v'.ownBlock = v.ownBlock := by
  by_cases h2 : l.length < 2
  · have hce : compE l = l := by
      match l, h2 with
      | [], _ => exact compE_nil
      | [x], _ => exact compE_one x
    rw [hce]
    obtain ⟨a, cap, rfl, hc, hm⟩ := Row.shape (own_row ho)
    have hd : decide ((l.length : Int) < 2) = true := decide_eq_true (by omega)
    have HO := Lib.hid ho
    clear ho hce
    generalize l.length = n at *
    go_enter Tryz.func77, Tryz.ntmps77
    go_wp2
    go_ret
    exact ⟨_, rfl, HO.out, ⟨rfl, rfl, rfl, Nat.le_refl _, fun _ _ _ => rfl⟩, rfl⟩
  · have hne : v ≠ .slice none 0 0 := by
      rintro rfl
      obtain ⟨_, _, e1, _, _⟩ := Row.shape (own_row ho)
      simp only [Value.slice.injEq] at e1
      omega
    rcases ho.2 with ⟨e0, _⟩ | ⟨g, cap, cur, rfl, hb, hg, hn, hm, hs, ht⟩
    · exact absurd e0 hne
    clear hne cur hg hs ht
    have hd : decide ((l.length : Int) < 2) = false := decide_eq_false (by omega)
    have HO := Lib.hid ho
    clear ho
    generalize hN : l.length = n at *
    have HN := Lib.hid hN
    clear hN
    go_enter Tryz.func77, Tryz.ntmps77
    go_wp2_with fail
    go_loopw [3] (fun i wr => ∃ k : Nat, 1 ≤ k ∧ k ≤ n ∧ i = .int .i64 k ∧ Hid (compE (l.take k) = l.take k) ∧ Hid (wr.ownsRow base 9 1 (.slice (some ⟨g, 0, none⟩) n cap) n (l.map stC)) ∧ Hid (w.grownBy wr (some g))) (fun i _ => n - (intOf i).toNat)
    case atStart =>
      refine ⟨1, Nat.le_refl _, by omega, rfl, ?_, HO, ⟨rfl, rfl, rfl, Nat.le_refl _, fun _ _ _ => rfl⟩⟩
      show compE (l.take 1) = l.take 1
      match l, HN.out with
      | [], _ => exact compE_nil
      | x :: r, _ => exact compE_one x
    case round =>
      obtain ⟨k, hk1, hk, rfl, hc, hown, hgr⟩ := hrel
      by_cases hlt : k < n
      · have hI : decide ((k : Int) < (n : Int)) = true := decide_eq_true (by omega)
        have k1 : k < l.length := by rw [HN.out]; exact hlt
        have k0 : k - 1 < l.length := by omega
        have f0 := st_at hown.out k1 hlt
        have g0 := st_at hown.out k0 (by omega)
        obtain ⟨E, hE⟩ : ∃ E : Bool, E = decide (l[k] = l[k - 1]) := ⟨_, rfl⟩
        have HE := Lib.hid hE
        clear hE
        have hi0 : (0 : Int) ≤ (k : Int) - 1 := by omega
        have hi1 : (k : Int) - 1 < (n : Int) := by omega
        have hi2 : ((k : Int) - 1).toNat = k - 1 := by omega
        go_upto_region 6 with fail
        go_cut [25] from 16 to 25 (fun v25 wx => v25 = .bool E ∧ ∃ q, wx = wr.drewN q)
        case first =>
          have HE2 : Hid (E = _) := HE.out
          clear HE
          generalize l[k] = x at *
          generalize l[k - 1] = y at *
          clear hc hown hgr HO HN
          by_cases hxy : x = y
          · have b1 : (x == y) = true := beq_iff_eq.2 hxy
            have he : E = true := by rw [HE2.out]; exact decide_eq_true hxy
            subst he
            clear hxy
            go_quiet (fail)
            go_wp2_with fail
            go_meet
            exact ⟨rfl, _, rfl⟩
          · have b1 : (x == y) = false := beq_eq_false_iff_ne.2 hxy
            have b2 : ¬ strOf x = strOf y := fun e => hxy (strOf_inj.1 e)
            have he : E = false := by rw [HE2.out]; exact decide_eq_false hxy
            subst he
            clear hxy
            go_quiet (fail)
            go_wp2_with fail
            go_meet
            exact ⟨rfl, _, rfl⟩
        case rest =>
          obtain ⟨rfl, q, rfl⟩ := hcut
          clear f0 g0 hi0 hi1 hi2
          obtain ⟨m, rfl⟩ : ∃ m, k = m + 1 := ⟨k - 1, by omega⟩
          have hct := compE_take (l := l) (n := m) k1
          cases E
          · have hne : l[m + 1] ≠ l[m] := of_decide_eq_false HE.out.symm
            have hc2 : Hid (compE (l.take (m + 1 + 1)) = l.take (m + 1 + 1)) := by
              show _ = _
              rw [hct, if_neg hne, hc.out, ← List.take_succ_eq_append_getElem k1]
            clear hct hne HE
            go_wp2_with fail
            go_roundw
            case rel => exact ⟨m + 2, by omega, by omega, by go_num, hc2, own_drewN q hown.out, grown_drewN q hgr.out⟩
            case measure => simp [intOf]; omega
          · have heq : l[m + 1] = l[m] := of_decide_eq_true HE.out.symm
            have hstart : Hid (CompInv l l (m + 1) (m + 1 + 1)) := CompInv.start k1 hc.out heq
            clear hct heq HE
            have hcapn : m + 1 < cap := by omega
            have hne : ¬ cap = m + 1 := by omega
            go_wp2_with fail
            obtain ⟨d, hd⟩ : ∃ d, d = n - (m + 1) := ⟨_, rfl⟩
            obtain ⟨ce, hce⟩ : ∃ ce, ce = cap - (m + 1) := ⟨_, rfl⟩
            rw [← hd, ← hce]
            have hd1 : m + 1 + d = n := by omega
            have HD1 := Lib.hid hd1
            have hmn : m + 1 + d ≤ n := by omega
            have hd2 : d ≤ 1000000 := by omega
            have hd3 : d ≤ ce := by omega
            have hq0 : m + 1 ≤ n := by omega
            clear hd hce hd1
            go_loopw [3, 5] (fun kk jj wr2 => ∃ (q j : Nat) (r : List (List UInt8)), 1 ≤ j ∧ j ≤ d ∧ q + 1 ≤ m + 1 + j ∧ kk = .int .i64 q ∧ jj = .int .i64 j ∧ Hid (CompInv l r q (m + 1 + j)) ∧ Hid (wr2.ownsRow base 9 1 (.slice (some ⟨g, 0, none⟩) n cap) n (r.map stC)) ∧ Hid (w.grownBy wr2 (some g))) (fun _ jj _ => d - (intOf jj).toNat)
            case atStart => exact ⟨m + 1, 1, l, Nat.le_refl _, by have := HD1.out; omega, by omega, rfl, rfl, hstart, own_drewN q hown.out, grown_drewN q hgr.out⟩
            case round =>
              clear hstart hown hgr hc hk1 hk
              obtain ⟨q, j, r, hj1, hj, hq, rfl, rfl, hinv, hown, hgr⟩ := hrel
              by_cases hlt2 : j < d
              · have hI2 : decide ((j : Int) < (d : Int)) = true := decide_eq_true (by omega)
                have hil : m + 1 + j < l.length := by rw [HN.out]; have := HD1.out; omega
                have k0 : m + 1 + j - 1 < l.length := by omega
                obtain ⟨r1, r2, er1, er2⟩ := hinv.out.at hil
                have hlr : r.length = n := by rw [hinv.out.len, HN.out]
                have f0 := st_at hown.out r1 (by omega)
                have g0 := st_at hown.out r2 (by omega)
                have hql : q < r.length := by omega
                have hqc := st_at hown.out hql (by omega)
                rw [er1] at f0
                rw [er2] at g0
                have eb : m + 1 + j - 1 = m + 1 + (j - 1) := by omega
                obtain ⟨E, hE⟩ : ∃ E : Bool, E = decide (l[m + 1 + j] = l[m + 1 + j - 1]'k0) := ⟨_, rfl⟩
                have HE := Lib.hid hE
                have hsame := fun h => hinv.out.same hil h
                have hnext := fun h => hinv.out.next hil h
                have HS := Lib.hid hsame
                have HX := Lib.hid hnext
                clear hsame hnext hE er1 er2 r1 r2
                generalize l[m + 1 + j] = x at *
                generalize l[m + 1 + j - 1]'k0 = y at *
                rw [eb] at g0
                have hlr2 : n ≤ r.length := by omega
                clear hinv hlr eb
                have hi0 : (0 : Int) ≤ (j : Int) - 1 := by omega
                have hi1 : (j : Int) - 1 < (d : Int) := by omega
                have hi2 : ((j : Int) - 1).toNat = j - 1 := by omega
                go_upto_region 11 with fail
                go_cut [44] from 35 to 44 (fun v44 wx => v44 = .bool (!E) ∧ ∃ p, wx = wr.drewN p)
                case first =>
                  have HE2 : Hid (E = _) := HE.out
                  clear HE HS HX hown hgr HO HN HD1 hqc
                  by_cases hxy : x = y
                  · have b1 : (x == y) = true := beq_iff_eq.2 hxy
                    have he : E = true := by rw [HE2.out]; exact decide_eq_true hxy
                    subst he
                    clear hxy
                    go_quiet (fail)
                    go_wp2_with fail
                    go_meet
                    exact ⟨rfl, _, rfl⟩
                  · have b1 : (x == y) = false := beq_eq_false_iff_ne.2 hxy
                    have b2 : ¬ strOf x = strOf y := fun e => hxy (strOf_inj.1 e)
                    have he : E = false := by rw [HE2.out]; exact decide_eq_false hxy
                    subst he
                    clear hxy
                    go_quiet (fail)
                    go_wp2_with fail
                    go_meet
                    exact ⟨rfl, _, rfl⟩
                case rest =>
                  obtain ⟨rfl, p, rfl⟩ := hcut
                  clear g0 hi0 hi1 hi2
                  cases E
                  · have hxy : x ≠ y := of_decide_eq_false HE.out.symm
                    have hinv2 := Lib.hid (HX.out hxy)
                    clear hxy HS HX HE
                    have hown2 := own_drewN p hown.out
                    rw [st_flat] at hown2
                    have hth := own_there hown2 q 1 (by omega)
                    have hset3 := own_set (fun s => [stC s]) (fun _ => rfl) hown2 q hql x
                    obtain ⟨wz, hwz⟩ : ∃ wz, (wr.drewN p).setCells g (q * 1) [stC x] = wz := ⟨_, rfl⟩
                    rw [hwz, ← st_flat] at hset3
                    have hwz2 : (wr.drewN p).setCell ⟨g, q, none⟩ (.string (strOf x)) = wz := by rw [← hwz, Nat.mul_one]; rfl
                    have HWZ := Lib.hid hwz2
                    have HS3 := Lib.hid hset3.1
                    have HG3 := Lib.hid hset3.2
                    have hxp : Ext wr (wr.drewN p) := (Ext.refl wr).drewN p
                    have f0 := hxp.cell f0
                    have hqc := hxp.cell hqc
                    have hfz : (wr.drewN p).frozen? ⟨g, q, none⟩ = false := by
                      have := (hth 0 (by decide)).2
                      rwa [Nat.mul_one, Nat.add_zero] at this
                    clear hwz hwz2 hset3 hown2 hth hxp
                    have hqn : q < n := by omega
                    go_upto_region 13 with fail
                    rw [HWZ.out]
                    go_wp2_with fail
                    go_roundw
                    case rel => exact ⟨q + 1, j + 1, r.set q x, by omega, hlt2, by omega, by go_num, by go_num, hinv2, HS3.out, (grown_drewN p hgr.out).trans HG3.out⟩
                    case measure => simp [intOf]; omega
                  · have hxy : x = y := of_decide_eq_true HE.out.symm
                    have hinv2 := Lib.hid (HS.out hxy)
                    clear hxy HS HX HE f0 hqc
                    go_wp2_with fail
                    go_roundw
                    case rel => exact ⟨q, j + 1, r, by omega, hlt2, by omega, rfl, by go_num, hinv2, own_drewN p hown.out, grown_drewN p hgr.out⟩
                    case measure => simp [intOf]; omega
              · obtain rfl : j = d := by omega
                have hI2 : decide ((j : Int) < (j : Int)) = false := decide_eq_false (by omega)
                have hdone := hinv.out
                rw [HD1.out, ← HN.out] at hdone
                obtain ⟨ht, hlen⟩ := hdone.done
                have hqn : q < n := by omega
                have hqc : ¬ cap = q := by omega
                have hqc2 : q ≤ cap := by omega
                have hcl := run_clear_tail hown.out 66 (.string ⟨#[]⟩) rfl (by simp [Value.cells, Value.oneCell']) Tryz.underlying66 zero9 q (cap - q) hqn
                have hfin := own_clear_tail hown.out (Nat.le_of_lt hqn) (.string ⟨#[]⟩) rfl
                have hres : Hid ((r.map stC).take (q * 1) = (compE l).map stC) := by show _ = _; rw [Nat.mul_one, ← List.map_take, ht]
                have HL := Lib.hid hlen
                have HF := Lib.hid hfin
                rw [Nat.mul_one] at hcl
                generalize hwz : wr.setCells g (q * 1) (Builtin.zeroCells (Value.string ⟨#[]⟩).cells (n - q)).toList = wz at *
                rw [Nat.mul_one] at hwz
                rw [hwz] at hcl
                clear ht hlen hfin hinv hdone hwz
                go_wp2_with fail
                go_ret
                refine ⟨_, rfl, ?_, hgr.out.trans HF.out.2, rfl⟩
                rw [HL.out, ← hres.out]
                exact HF.out.1
      · obtain rfl : k = n := by omega
        have hI : decide ((k : Int) < (k : Int)) = false := decide_eq_false (by omega)
        have hce : Hid (compE l = l) := by
          have h := hc.out
          rw [List.take_of_length_le (by rw [HN.out]; exact Nat.le_refl _)] at h
          exact h
        go_wp2_with fail
        go_ret
        refine ⟨_, rfl, ?_, hgr.out, rfl⟩
        rw [hce.out, HN.out]
        exact hown.out
end Go.Proofs.YtlhbpflcffjhmaaGreat
