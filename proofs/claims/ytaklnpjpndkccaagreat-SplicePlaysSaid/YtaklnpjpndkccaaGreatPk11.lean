/- pred.list's sorted and once.
slices.Compact at values.
Covering and overlapping, plainly: normal forms, fewer constraints, both together; what no event matches. No program is in sight.
Spans that rise: how many there can be. No program is in sight.
pred.Normal.
Splice: New; no splicer.
The law's small makers N, S, E, A; what literals hold; (of a seat without S)
Splice: the law's items; what the examples come to.
Splice: each call, over a splicer and what was there; what the law's examples say. -/
import Derived.WalkKit
import Derived.Lib.Hide
import Derived.Deep.CutBlock
import Derived.Deep.QuietTactic
import Derived.BigQuiet
import Derived.Deep.MidRow
import Derived.Outline
import Derived.Test.YtaklnpjpndkccaaGreatPk10
import Derived.Test.YtaklnpjpndkccaaGreatPk3
import Derived.Test.YtaklnpjpndkccaaGreatPk2
import Derived.Test.YtaklnpjpndkccaaGreatPk9
import Derived.Test.YtaklnpjpndkccaaGreatPk8
namespace Go.Proofs.YtaklnpjpndkccaaGreat
open Go.RowKit Go.Sort

set_option maxRecDepth 100000 in
set_option maxHeartbeats 2000000 in
theorem insort_nil (w : World) : Calls Tryz.prog 147 #[.slice none 0 0, .int .i64 0, .int .i64 0, .func (.func 88) #[] #[]] w fun e w' => e = .returned (.tuple #[]) ∧ w' = w := by
  go_enter Tryz.func147, Tryz.ntmps147
  go_wp2_with fail
  refine wp_loop_rounds 1 ?_
  rw [rounds_succ]
  go_wp2_with fail
  go_end0
  exact ⟨rfl, rfl⟩
set_option maxRecDepth 100000 in
set_option maxHeartbeats 2000000 in
theorem pdq_nil (w : World) (lim : Int) : Calls Tryz.prog 128 #[.slice none 0 0, .int .i64 0, .int .i64 0, .int .i64 lim, .func (.func 88) #[] #[]] w fun e w' => e = .returned (.tuple #[]) ∧ w' = w := by
  go_enter Tryz.func128, Tryz.ntmps128
  go_wp2_with fail
  refine wp_loop_rounds 1 ?_
  rw [rounds_succ]
  go_wp2_with (go_at_call 147; refine (insort_nil _).mono ?_; rintro e w' ⟨rfl, rfl⟩)
  exact bodyPost_ret (v := .tuple #[]) (by simp [results, go_sem]) rfl ⟨rfl, rfl⟩
set_option maxRecDepth 100000 in
set_option maxHeartbeats 2000000 in
theorem sortC_nil (w : World) : Calls Tryz.prog 87 #[.slice none 0 0, .func (.func 88) #[] #[]] w fun e w' => e = .returned (.tuple #[]) ∧ w' = w := by
  have hbl := bits115_any 0 (by omega) w
  go_enter Tryz.func87, Tryz.ntmps87
  go_wp2_with (first | (go_at_call 80; refine hbl.mono ?_; rintro e w' ⟨rfl, rfl⟩) | (go_at_call 128; refine (pdq_nil _ _).mono ?_; rintro e w' ⟨rfl, rfl⟩))
  go_end0
  exact ⟨rfl, rfl⟩

/-- The sort at a row that may be nil. -/
theorem sort117_any (w : World) (base : Nat) (v : Value) (us : List CS) (ho : w.ownsRow base 94 7 v us.length (us.flatMap csC)) (hl : us.length ≤ 12) (h0 : us = [] → v = .slice none 0 0)
    (hs : ∀ x ∈ us, SetR w x.h x.c.set ∧ x.h.ownBlock ≠ v.ownBlock) :
    Calls Tryz.prog 87 #[v, .func (.func 88) #[] #[]] w
      fun e w' => e = .returned (.tuple #[]) ∧ ∃ us' : List CS, us'.Perm us ∧ (us'.Pairwise fun a b => orderC a.c b.c ≤ 0) ∧ w'.ownsRow base 94 7 v us.length (us'.flatMap csC) ∧ w.grownBy w' v.ownBlock := by
  by_cases he : us = []
  · obtain rfl := h0 he
    subst he
    refine (sortC_nil w).mono ?_
    rintro e w' ⟨rfl, rfl⟩
    exact ⟨rfl, [], List.Perm.refl _, List.Pairwise.nil, ho, ⟨rfl, rfl, rfl, Nat.le_refl _, fun _ _ _ => rfl⟩⟩
  · rcases ho.2 with ⟨rfl, e0⟩ | ⟨g, cap, cur, rfl, _⟩
    · exact absurd (List.length_eq_zero_iff.1 e0) he
    · exact sortC_any w base g cap us ho hl he hs

set_option maxRecDepth 100000 in
set_option maxHeartbeats 2000000 in
theorem sorted_any (w : World) (b : Nat) (v : Value) (us : List CS) (h : Row w 7 v us.length (us.flatMap csC)) (hl : us.length ≤ 12) (hs : ∀ x ∈ us, SetO b w x) (h0 : us = [] → v = .slice none 0 0) :
    Calls Tryz.prog 63 #[v] w fun e w' => ∃ v' us', e = .returned v' ∧ us'.Perm us ∧ (us'.Pairwise fun a b => orderC a.c b.c ≤ 0) ∧ w'.ownsRow w.heap.size 94 7 v' us'.length (us'.flatMap csC) ∧ (∀ x ∈ us', SetO b w' x) ∧ Ext w w' ∧ (us' = [] → v' = .slice none 0 0) := by
  have hcl := cloneC_any w v us h (fun x hx => (hs x hx).one) (by omega)
  obtain ⟨a, cap, rfl, hc, hm⟩ := Row.shape h
  have HCL := Lib.hid hcl
  have hso : ∀ (w2 : World) (v2 : Value), Ext w w2 → w2.ownsRow w.heap.size 94 7 v2 us.length (us.flatMap csC) → (Value.slice a us.length cap = .slice none 0 0 → v2 = .slice none 0 0) → Calls Tryz.prog 87 #[v2, .func (.func 88) #[] #[]] w2
      fun e w' => e = .returned (.tuple #[]) ∧ ∃ us' : List CS, us'.Perm us ∧ (us'.Pairwise fun a b => orderC a.c b.c ≤ 0) ∧ w'.ownsRow w.heap.size 94 7 v2 us'.length (us'.flatMap csC) ∧ (∀ x ∈ us', SetO b w' x) ∧ Ext w w' ∧ (us' = [] → v2 = .slice none 0 0) := by
    intro w2 v2 hx2 hown hnil
    have hs2 : ∀ x ∈ us, SetO b w2 x := fun x hx => (hs x hx).ext hx2
    refine (sort117_any w2 _ v2 us hown hl (fun e => hnil (h0 e)) fun x hx => ⟨(hs2 x hx).set, (hs2 x hx).ne hown (own_some hown (List.length_pos_of_mem hx))⟩).mono ?_
    rintro e w' ⟨rfl, us', p1, p2, p3, p4⟩
    refine ⟨rfl, us', p1, p2, by rw [p1.length_eq]; exact p3, fun x hx => (hs2 x (p1.mem_iff.1 hx)).keep hown p4, hx2.grown_none p4 (own_base hown), fun e => hnil (h0 ?_)⟩
    rw [e] at p1
    exact p1.nil_eq.symm
  have HSO := Lib.hid hso
  clear hcl hs h0 hl h hc hm hso
  go_enter Tryz.func63, Tryz.ntmps63
  go_wp2_with (go_at_call 86; refine HCL.out.mono ?_; rintro e w2 ⟨v2, rfl, hown, hx2, hnil⟩; have HOWN := Lib.hid hown; have HX2 := Lib.hid hx2; have HN := Lib.hid hnil; clear hown hx2 hnil)
  refine (HSO.out _ _ HX2.out HOWN.out HN.out).mono ?_
  rintro e w3 ⟨rfl, us', h3⟩
  have H3 := Lib.hid h3
  clear h3
  go_wp2_with fail
  go_ret
  exact ⟨_, us', rfl, H3.out⟩

theorem map_compF {α β : Type} [DecidableEq β] (f : α → β) : ∀ (n : Nat) (l : List α), l.length ≤ n → (compF f l).map f = compL (fun a b => decide (a = b)) (l.map f)
  | _, [], _ => by rw [compF_nil, List.map_nil, compL_nil]
  | _, [x], _ => by rw [compF_one, List.map_singleton, compL_one]
  | 0, x :: y :: r, h => by simp at h
  | n + 1, x :: y :: r, h => by
    rw [compF_cons2, List.map_cons, List.map_cons, compL_cons2]
    by_cases e : f x = f y
    · rw [if_pos e, if_pos (decide_eq_true e), map_compF f n (x :: r) (by simp at h ⊢; omega), List.map_cons]
    · rw [if_neg e, if_neg (by simpa using e), List.map_cons, map_compF f n (y :: r) (by simp at h ⊢; omega), List.map_cons]
theorem compF_sub {α β : Type} [DecidableEq β] (f : α → β) : ∀ (n : Nat) (l : List α), l.length ≤ n → ∀ x ∈ compF f l, x ∈ l
  | _, [], _, x, h => by rw [compF_nil] at h; exact h
  | _, [y], _, x, h => by rw [compF_one] at h; exact h
  | 0, x :: y :: r, h, _, _ => by simp at h
  | n + 1, x :: y :: r, h, z, hz => by
    rw [compF_cons2] at hz
    split at hz
    · rcases List.mem_cons.1 (compF_sub f n (x :: r) (by simp at h ⊢; omega) z hz) with e | e
      · exact e ▸ List.mem_cons_self
      · exact List.mem_cons_of_mem _ (List.mem_cons_of_mem _ e)
    · rcases List.mem_cons.1 hz with e | e
      · exact e ▸ List.mem_cons_self
      · exact List.mem_cons_of_mem _ (compF_sub f n (y :: r) (by simp at h ⊢; omega) z e)

set_option maxRecDepth 100000 in
set_option maxHeartbeats 2000000 in
theorem once_any (w : World) (b : Nat) (v : Value) (us : List CS) (h : Row w 7 v us.length (us.flatMap csC)) (hl : us.length ≤ 12) (hs : ∀ x ∈ us, SetO b w x) :
    Calls Tryz.prog 64 #[v] w fun e w' => ∃ v', e = .returned v' ∧ w'.ownsRow w.heap.size 94 7 v' (compF CS.c us).length ((compF CS.c us).flatMap csC) ∧ (∀ x ∈ compF CS.c us, SetO b w' x) ∧ Ext w w' := by
  have hcl := cloneC_any w v us h (fun x hx => (hs x hx).one) (by omega)
  obtain ⟨a, cap, rfl, hc, hm⟩ := Row.shape h
  have HCL := Lib.hid hcl
  have hco : ∀ (w2 : World) (v2 : Value), Ext w w2 → w2.ownsRow w.heap.size 94 7 v2 us.length (us.flatMap csC) → Calls Tryz.prog 89 #[v2, .func (.func 90) #[] #[]] w2
      fun e w' => ∃ v', e = .returned v' ∧ w'.ownsRow w.heap.size 94 7 v' (compF CS.c us).length ((compF CS.c us).flatMap csC) ∧ (∀ x ∈ compF CS.c us, SetO b w' x) ∧ Ext w w' := by
    intro w2 v2 hx2 hown
    have hs2 : ∀ x ∈ us, SetO b w2 x := fun x hx => (hs x hx).ext hx2
    refine (compactC_any w2 _ v2 us hown (by omega) fun x hx => ⟨(hs2 x hx).set, (hs2 x hx).ne hown (own_some hown (List.length_pos_of_mem hx))⟩).mono ?_
    rintro e w' ⟨v', rfl, p3, p4, p5⟩
    exact ⟨v', rfl, p3, fun x hx => (hs2 x (compF_sub _ _ _ (Nat.le_refl _) x hx)).keep hown p4, hx2.grown_none p4 (own_base hown)⟩
  have HCO := Lib.hid hco
  clear hcl hs hl h hc hm hco
  go_enter Tryz.func64, Tryz.ntmps64
  go_wp2_with (go_at_call 86; refine HCL.out.mono ?_; rintro e w2 ⟨v2, rfl, hown, hx2, hnil⟩; have HOWN := Lib.hid hown; have HX2 := Lib.hid hx2; clear hown hx2 hnil)
  refine (HCO.out _ _ HX2.out HOWN.out).mono ?_
  rintro e w3 ⟨v3, rfl, h3⟩
  have H3 := Lib.hid h3
  clear h3
  go_wp2_with fail
  go_ret
  exact ⟨_, rfl, H3.out⟩
end Go.Proofs.YtaklnpjpndkccaaGreat

namespace Go.Proofs.YtaklnpjpndkccaaGreat
open Go.RowKit Go.Sort

theorem eqV (x y : V) : decide (x = y) = ((x.k == y.k) && ((x.n == y.n) && ((x.s == y.s) && (x.b == y.b)))) := by
  obtain ⟨ak, an, as1, ab⟩ := x
  obtain ⟨bk, bn, bs, bb⟩ := y
  rw [Bool.eq_iff_iff]
  simp
set_option maxRecDepth 100000 in
set_option maxHeartbeats 4000000 in
theorem compactV_any (w : World) (base : Nat) (v : Value) (l : List V) (ho : w.ownsRow base 80 4 v l.length (l.flatMap vC)) (hl : l.length ≤ 1000000) :
    Calls Tryz.prog 62 #[v] w fun e w' => ∃ v', e = .returned v' ∧ w'.ownsRow base 80 4 v' (compE l).length ((compE l).flatMap vC) ∧ w.grownBy w' v.ownBlock ∧ v'.ownBlock = v.ownBlock := by
  by_cases h2 : l.length < 2
  · have hce : compE l = l := by
      match l, h2 with
      | [], _ => exact compE_nil
      | [x], _ => exact compE_one x
    rw [hce]
    obtain ⟨a, cap, rfl, hc, hm⟩ := Row.shape (own_row ho)
    have hd : decide ((l.length : Int) < 2) = true := decide_eq_true (by omega)
    have HO := Lib.hid ho
    clear ho hce
    generalize l.length = n at *
    go_enter Tryz.func62, Tryz.ntmps62
    go_wp2
    go_ret
    exact ⟨_, rfl, HO.out, ⟨rfl, rfl, rfl, Nat.le_refl _, fun _ _ _ => rfl⟩, rfl⟩
  · have hne : v ≠ .slice none 0 0 := by
      rintro rfl
      obtain ⟨_, _, e1, _, _⟩ := Row.shape (own_row ho)
      simp only [Value.slice.injEq] at e1
      omega
    rcases ho.2 with ⟨e0, _⟩ | ⟨g, cap, cur, rfl, hb, hg, hn, hm, hs, ht⟩
    · exact absurd e0 hne
    clear hne cur hg hs ht
    have hrow : ∀ wr : World, wr.ownsRow base 80 4 (.slice (some ⟨g, 0, none⟩) l.length cap) l.length (l.flatMap vC) → SetR wr (.slice (some ⟨g, 0, none⟩) l.length cap) l := fun wr h => own_row h
    have hd : decide ((l.length : Int) < 2) = false := decide_eq_false (by omega)
    have HO := Lib.hid ho
    clear ho
    have HROW := Lib.hid hrow
    clear hrow
    generalize hN : l.length = n at *
    have HN := Lib.hid hN
    clear hN
    go_enter Tryz.func62, Tryz.ntmps62
    go_wp2_with fail
    go_loopw [3] (fun i wr => ∃ k : Nat, 1 ≤ k ∧ k ≤ n ∧ i = .int .i64 k ∧ Hid (compE (l.take k) = l.take k) ∧ Hid (wr.ownsRow base 80 4 (.slice (some ⟨g, 0, none⟩) n cap) n (l.flatMap vC)) ∧ Hid (w.grownBy wr (some g))) (fun i _ => n - (intOf i).toNat)
    case atStart =>
      refine ⟨1, Nat.le_refl _, by omega, rfl, ?_, HO, ⟨rfl, rfl, rfl, Nat.le_refl _, fun _ _ _ => rfl⟩⟩
      show compE (l.take 1) = l.take 1
      match l, HN.out with
      | [], _ => exact compE_nil
      | x :: r, _ => exact compE_one x
    case round =>
      obtain ⟨k, hk1, hk, rfl, hc, hown, hgr⟩ := hrel
      by_cases hlt : k < n
      · have hI : decide ((k : Int) < (n : Int)) = true := decide_eq_true (by omega)
        have k1 : k < l.length := by rw [HN.out]; exact hlt
        have k0 : k - 1 < l.length := by omega
        have hset : SetR wr (.slice (some ⟨g, 0, none⟩) n cap) l := by have := HROW.out wr hown.out; exact this
        obtain ⟨_, _, e1, f0, f1, f2, f3⟩ := SetR.at hset k1
        cases e1
        obtain ⟨_, _, e1, g0, g1, g2, g3⟩ := SetR.at hset k0
        cases e1
        simp only [Nat.zero_add] at f0 f1 f2 f3 g0 g1 g2 g3
        have hcm : ((k : Int) - 1) = ((k - 1 : Nat) : Int) := by omega
        obtain ⟨E, hE⟩ : ∃ E : Bool, E = decide (l[k] = l[k - 1]) := ⟨_, rfl⟩
        have HE := Lib.hid hE
        clear hE
        go_upto_region 6 with fail
        go_cut [25] from 16 to 25 (fun v25 wx => v25 = .bool E ∧ ∃ q, wx = wr.drewN q)
        case first =>
          have HE2 : Hid (E = _) := HE.out.trans (eqV _ _)
          clear HE
          generalize l[k] = x at *
          generalize l[k - 1] = y at *
          clear hc hown hgr hset HO HROW HN
          have hi0 : (0 : Int) ≤ (k : Int) - 1 := by omega
          have hi1 : (k : Int) - 1 < (n : Int) := by omega
          have hi2 : ((k : Int) - 1).toNat = k - 1 := by omega
          cases b1 : (x.k == y.k)
          · go_quiet (fail)
            go_wp2_with fail
            go_meet
            exact ⟨by rw [HE2.out, b1]; rfl, _, rfl⟩
          · cases b2 : (x.n == y.n)
            · go_quiet (fail)
              go_wp2_with fail
              go_meet
              exact ⟨by rw [HE2.out, b1, b2]; rfl, _, rfl⟩
            · cases b3 : (x.s == y.s)
              · go_quiet (fail)
                go_wp2_with fail
                go_meet
                exact ⟨by rw [HE2.out, b1, b2, b3]; rfl, _, rfl⟩
              · cases b4 : (x.b == y.b)
                · go_quiet (fail)
                  go_wp2_with fail
                  go_meet
                  exact ⟨by rw [HE2.out, b1, b2, b3, b4]; rfl, _, rfl⟩
                · go_quiet (fail)
                  go_wp2_with fail
                  go_meet
                  exact ⟨by rw [HE2.out, b1, b2, b3, b4]; rfl, _, rfl⟩
        case rest =>
          obtain ⟨rfl, q, rfl⟩ := hcut
          clear f0 f1 f2 f3 g0 g1 g2 g3
          obtain ⟨m, rfl⟩ : ∃ m, k = m + 1 := ⟨k - 1, by omega⟩
          have hct := compE_take (l := l) (n := m) k1
          cases E
          · have hne : l[m + 1] ≠ l[m] := of_decide_eq_false HE.out.symm
            have hc2 : Hid (compE (l.take (m + 1 + 1)) = l.take (m + 1 + 1)) := by
              show _ = _
              rw [hct, if_neg hne, hc.out, ← List.take_succ_eq_append_getElem k1]
            clear hct hne HE
            go_wp2_with fail
            go_roundw
            case rel => exact ⟨m + 2, by omega, by omega, by go_num, hc2, own_drewN q hown.out, grown_drewN q hgr.out⟩
            case measure => simp [intOf]; omega
          · have heq : l[m + 1] = l[m] := of_decide_eq_true HE.out.symm
            have hstart : Hid (CompInv l l (m + 1) (m + 1 + 1)) := CompInv.start k1 hc.out heq
            clear hct heq HE
            have hcapn : m + 1 < cap := by omega
            have hne : ¬ cap = m + 1 := by omega
            go_wp2_with fail
            obtain ⟨d, hd⟩ : ∃ d, d = n - (m + 1) := ⟨_, rfl⟩
            obtain ⟨ce, hce⟩ : ∃ ce, ce = cap - (m + 1) := ⟨_, rfl⟩
            rw [← hd, ← hce]
            have hd1 : m + 1 + d = n := by omega
            have HD1 := Lib.hid hd1
            have hmn : m + 1 + d ≤ n := by omega
            have hd2 : d ≤ 1000000 := by omega
            have hd3 : d ≤ ce := by omega
            have hq0 : m + 1 ≤ n := by omega
            clear hd hce hd1
            go_loopw [3, 5] (fun kk jj wr2 => ∃ (q j : Nat) (r : List V), 1 ≤ j ∧ j ≤ d ∧ q + 1 ≤ m + 1 + j ∧ kk = .int .i64 q ∧ jj = .int .i64 j ∧ Hid (CompInv l r q (m + 1 + j)) ∧ Hid (wr2.ownsRow base 80 4 (.slice (some ⟨g, 0, none⟩) n cap) n (r.flatMap vC)) ∧ Hid (w.grownBy wr2 (some g))) (fun _ jj _ => d - (intOf jj).toNat)
            case atStart => exact ⟨m + 1, 1, l, Nat.le_refl _, by have := HD1.out; omega, by omega, rfl, rfl, hstart, own_drewN q hown.out, grown_drewN q hgr.out⟩
            case round =>
              clear hstart hown hgr hc hset hk1 hk
              obtain ⟨q, j, r, hj1, hj, hq, rfl, rfl, hinv, hown, hgr⟩ := hrel
              by_cases hlt2 : j < d
              · have hI2 : decide ((j : Int) < (d : Int)) = true := decide_eq_true (by omega)
                have hil : m + 1 + j < l.length := by rw [HN.out]; have := HD1.out; omega
                have k0 : m + 1 + j - 1 < l.length := by omega
                obtain ⟨r1, r2, er1, er2⟩ := hinv.out.at hil
                have hlr : r.length = n := by rw [hinv.out.len, HN.out]
                have hset2 : SetR wr (.slice (some ⟨g, 0, none⟩) n cap) r := by unfold SetR; rw [hlr]; exact own_row hown.out
                obtain ⟨_, _, e1, f0, f1, f2, f3⟩ := SetR.at hset2 r1
                cases e1
                obtain ⟨_, _, e1, g0, g1, g2, g3⟩ := SetR.at hset2 r2
                cases e1
                rw [er1] at f0 f1 f2 f3
                rw [er2] at g0 g1 g2 g3
                have ea : (m + 1 + j) * 4 = (m + 1) * 4 + j * 4 := by omega
                have eb : (m + 1 + j - 1) * 4 = (m + 1) * 4 + (j - 1) * 4 := by omega
                simp only [Nat.zero_add, ea] at f0 f1 f2 f3
                simp only [Nat.zero_add, eb] at g0 g1 g2 g3
                obtain ⟨E, hE⟩ : ∃ E : Bool, E = decide (l[m + 1 + j] = l[m + 1 + j - 1]'k0) := ⟨_, rfl⟩
                have HE := Lib.hid hE
                clear hE ea eb er1 er2 r1 r2 hset2
                have hsame := fun h => hinv.out.same hil h
                have hnext := fun h => hinv.out.next hil h
                have HS := Lib.hid hsame
                have HX := Lib.hid hnext
                clear hsame hnext
                generalize l[m + 1 + j] = x at *
                generalize l[m + 1 + j - 1]'k0 = y at *
                have hlr2 : n ≤ r.length := by omega
                clear hinv hlr
                have hi0 : (0 : Int) ≤ (j : Int) - 1 := by omega
                have hi1 : (j : Int) - 1 < (d : Int) := by omega
                have hi2 : ((j : Int) - 1).toNat = j - 1 := by omega
                go_upto_region 11 with fail
                go_cut [44] from 35 to 44 (fun v44 wx => v44 = .bool (!E) ∧ ∃ p, wx = wr.drewN p)
                case first =>
                  have HE2 : Hid (E = _) := HE.out.trans (eqV _ _)
                  clear HE HS HX hown hgr HO HROW HN HD1
                  cases b1 : (x.k == y.k)
                  · go_quiet (fail)
                    go_wp2_with fail
                    go_meet
                    exact ⟨by rw [HE2.out, b1]; rfl, _, rfl⟩
                  · cases b2 : (x.n == y.n)
                    · go_quiet (fail)
                      go_wp2_with fail
                      go_meet
                      exact ⟨by rw [HE2.out, b1, b2]; rfl, _, rfl⟩
                    · cases b3 : (x.s == y.s)
                      · go_quiet (fail)
                        go_wp2_with fail
                        go_meet
                        exact ⟨by rw [HE2.out, b1, b2, b3]; rfl, _, rfl⟩
                      · cases b4 : (x.b == y.b)
                        · go_quiet (fail)
                          go_wp2_with fail
                          go_meet
                          exact ⟨by rw [HE2.out, b1, b2, b3, b4]; rfl, _, rfl⟩
                        · go_quiet (fail)
                          go_wp2_with fail
                          go_meet
                          exact ⟨by rw [HE2.out, b1, b2, b3, b4]; rfl, _, rfl⟩
                case rest =>
                  obtain ⟨rfl, p, rfl⟩ := hcut
                  clear g0 g1 g2 g3 hi0 hi1 hi2
                  cases E
                  · have hxy : x ≠ y := of_decide_eq_false HE.out.symm
                    have hinv2 := Lib.hid (HX.out hxy)
                    clear hxy HS HX HE
                    have hql : q < r.length := by omega
                    have hth := own_there (own_drewN p hown.out) q 4 (by omega)
                    have hset3 := own_set vC vC_len (own_drewN p hown.out) q hql x
                    obtain ⟨wz, hwz⟩ : ∃ wz, (wr.drewN p).setCells g (q * 4) (vC x) = wz := ⟨_, rfl⟩
                    rw [hwz] at hset3
                    have HWZ := Lib.hid hwz
                    clear hwz
                    have HS3 := Lib.hid hset3.1
                    have HG3 := Lib.hid hset3.2
                    clear hset3
                    have hxp : Ext wr (wr.drewN p) := (Ext.refl wr).drewN p
                    have f0 := hxp.cell f0
                    have f1 := hxp.cell f1
                    have f2 := hxp.cell f2
                    have f3 := hxp.cell f3
                    have hqn : q < n := by omega
                    go_wp2_with (refine wpList_store_mid rfl 80 (.tmp 51) (.tmp 50) rfl g (q * 4) #[.int .i64 x.k, .int .i64 x.n, .string (strOf x.s), .bool x.b] rfl rfl hth size28 (by simp [Value.oneCell']) ?_; rw [show (wr.drewN p).setCells g (q * 4) (#[.int .i64 x.k, .int .i64 x.n, .string (strOf x.s), .bool x.b] : Array Value).toList = wz from HWZ.out])
                    go_roundw
                    case rel => (repeat apply Exists.intro); refine ⟨?_, rfl⟩; exact ⟨q + 1, j + 1, r.set q x, by omega, hlt2, by omega, by go_num, by go_num, hinv2, HS3.out, (grown_drewN p hgr.out).trans HG3.out⟩
                    case measure => simp [intOf]; omega
                  · have hxy : x = y := of_decide_eq_true HE.out.symm
                    have hinv2 := Lib.hid (HS.out hxy)
                    clear hxy HS HX HE f0 f1 f2 f3
                    go_wp2_with fail
                    go_roundw
                    case rel => exact ⟨q, j + 1, r, by omega, hlt2, by omega, rfl, by go_num, hinv2, own_drewN p hown.out, grown_drewN p hgr.out⟩
                    case measure => simp [intOf]; omega
              · obtain rfl : j = d := by omega
                have hI2 : decide ((j : Int) < (j : Int)) = false := decide_eq_false (by omega)
                have hdone := hinv.out
                rw [HD1.out, ← HN.out] at hdone
                obtain ⟨ht, hlen⟩ := hdone.done
                have hqn : q < n := by omega
                have hqc : ¬ cap = q := by omega
                have hqc2 : q ≤ cap := by omega
                have hcl := run_clear_tail hown.out 92 (.agg #[.int .i64 0, .int .i64 0, .string ⟨#[]⟩, .bool false]) rfl (by simp [Value.cells, Value.oneCell']) Tryz.underlying92 zero28 q (cap - q) hqn
                have hfin := own_clear_tail hown.out (Nat.le_of_lt hqn) (.agg #[.int .i64 0, .int .i64 0, .string ⟨#[]⟩, .bool false]) rfl
                have hres : Hid ((r.flatMap vC).take (q * 4) = (compE l).flatMap vC) := by show _ = _; rw [flat_take vC 4 vC_len, ht]
                have HL := Lib.hid hlen
                have HF := Lib.hid hfin
                generalize wr.setCells g (q * 4) (Builtin.zeroCells (Value.agg #[.int .i64 0, .int .i64 0, .string ⟨#[]⟩, .bool false]).cells (n - q)).toList = wz at *
                clear ht hlen hfin hinv hdone
                go_wp2_with fail
                go_ret
                refine ⟨_, rfl, ?_, hgr.out.trans HF.out.2, rfl⟩
                rw [HL.out, ← hres.out]
                exact HF.out.1
      · obtain rfl : k = n := by omega
        have hI : decide ((k : Int) < (k : Int)) = false := decide_eq_false (by omega)
        have hce : Hid (compE l = l) := by
          have h := hc.out
          rw [List.take_of_length_le (by rw [HN.out]; exact Nat.le_refl _)] at h
          exact h
        go_wp2_with fail
        go_ret
        refine ⟨_, rfl, ?_, hgr.out, rfl⟩
        rw [hce.out, HN.out]
        exact hown.out
end Go.Proofs.YtaklnpjpndkccaaGreat

namespace Go.Proofs.YtaklnpjpndkccaaGreat

theorem prefix_ge : ∀ (p s : List UInt8), p.isPrefixOf s = true → 0 ≤ Lib.compareBytes s p
  | [], s, _ => by cases s <;> simp [Lib.compareBytes]
  | a :: p, [], h => by simp at h
  | a :: p, b :: s, h => by
    simp only [List.isPrefixOf, Bool.and_eq_true, beq_iff_eq] at h
    obtain ⟨rfl, h⟩ := h
    have := prefix_ge p s h
    simp only [Lib.compareBytes]
    rw [if_neg (UInt8.lt_irrefl a), if_neg (UInt8.lt_irrefl a)]; exact this

theorem has_fold (l : List V) (r : Rg) (v : V) : (l.foldl (fun r x => r.minus (oneV x)) r).has v = (r.has v && l.all fun x => !(oneV x).has v) := by
  induction l generalizing r with
  | nil => simp
  | cons x l ih => rw [List.foldl_cons, ih, has_minus, List.all_cons, Bool.and_assoc]
theorem has_in {c : C} (hm : mayC c = true) (h9 : c.op = 9) (v : V) : (ofR c).has v = c.set.any fun x => (oneV x).has v := by
  unfold ofR
  rw [hm, if_neg (by decide), if_neg (by omega), if_pos h9, has_minus, has_fold, all_has, Bool.true_and, Bool.true_and]
  induction c.set with
  | nil => rfl
  | cons x l ih => rw [List.all_cons, List.any_cons, Bool.not_and, Bool.not_not, ih]
theorem has_norm {c : C} (hm : mayC c = true) (v : V) : (ofR (normC c)).has v = (ofR c).has v := by
  by_cases h9 : c.op = 9
  · rw [has_in hm h9, has_in (norm_may hm) h9]
    have hi := set_inj hm
    rw [Bool.eq_iff_iff, List.any_eq_true, List.any_eq_true]
    constructor
    · rintro ⟨x, hx, e⟩; exact ⟨x, (sortU_mem _ hi x).1 hx, e⟩
    · rintro ⟨x, hx, e⟩; exact ⟨x, (sortU_mem _ hi x).2 hx, e⟩
  · have e1 : mayC (normC c) = true := norm_may hm
    have hl : ofL (normC c) = ofL c := rfl
    unfold ofR
    rw [hm, e1]
    show (if _ then _ else if c.op = 1 then _ else if c.op = 9 then _ else setR c.v.k (ofL (normC c))).has v = _
    rw [hl, if_neg h9, if_neg (show ¬ (!true) = true by decide), if_neg (show ¬ (!true) = true by decide), if_neg h9]
theorem norm_names {p : List C} (n : List UInt8) : n ∈ namesF (normP p) ↔ n ∈ namesF p := by
  rw [names_mem, names_mem]
  constructor
  · rintro ⟨c, hc, e⟩
    obtain ⟨d, hd, rfl⟩ := (normP_mem p c).1 hc
    exact ⟨d, hd, e⟩
  · rintro ⟨d, hd, e⟩
    exact ⟨normC d, (normP_mem p _).2 ⟨d, hd, rfl⟩, e⟩
theorem may_all {p : List C} (h : mayP p = true) : ∀ c ∈ p, mayC c = true := by
  unfold mayP at h
  simp only [Bool.and_eq_true] at h
  exact List.all_eq_true.1 h.2
theorem may_len {p : List C} (h : mayP p = true) : p.length ≤ 6 := by
  unfold mayP at h
  simp only [Bool.and_eq_true, decide_eq_true_eq] at h
  exact h.1
theorem may_mk {p : List C} (h1 : p.length ≤ 6) (h2 : ∀ c ∈ p, mayC c = true) : mayP p = true := by
  unfold mayP
  simp only [Bool.and_eq_true, decide_eq_true_eq]
  exact ⟨h1, List.all_eq_true.2 h2⟩
theorem norm_asked {p : List C} (h : mayP p = true) (n : List UInt8) (v : V) : (askedF (normP p) n).has v = (askedF p n).has v := by
  rw [asked_has (normP_may h), asked_has h, Bool.eq_iff_iff, List.all_eq_true, List.all_eq_true]
  constructor
  · intro a c hc
    have := a (normC c) ((normP_mem p _).2 ⟨c, hc, rfl⟩)
    rw [has_norm (may_all h c hc)] at this
    exact this
  · intro a z hz
    obtain ⟨c, hc, rfl⟩ := (normP_mem p z).1 hz
    rw [has_norm (may_all h c hc)]
    exact a c hc
theorem covers_norm {p : List C} (h : mayP p = true) : coversF (normP p) p = true ∧ coversF p (normP p) = true :=
  ⟨(covers_iff _ _).2 ⟨normP_may h, h, .inr fun n hn => ⟨(norm_names n).1 hn, fun v hv => by rw [norm_asked h]; exact hv⟩⟩,
   (covers_iff _ _).2 ⟨h, normP_may h, .inr fun n hn => ⟨(norm_names n).2 hn, fun v hv => by rw [norm_asked h] at hv; exact hv⟩⟩⟩
theorem may_nil : mayP [] = true := rfl
theorem covers_nil {p : List C} (h : mayP p = true) : coversF [] p = true := covers_sub may_nil h fun _ hc => by cases hc
theorem covers_less {p : List C} (h : mayP p = true) (k : Nat) : coversF (p.take k ++ p.drop (k + 1)) p = true := by
  have hsub : ∀ c ∈ p.take k ++ p.drop (k + 1), c ∈ p := fun c hc => by
    rcases List.mem_append.1 hc with hc | hc
    · exact List.mem_of_mem_take hc
    · exact List.mem_of_mem_drop hc
  refine covers_sub (may_mk ?_ fun c hc => may_all h c (hsub c hc)) h hsub
  have := may_len h
  rw [List.length_append, List.length_take, List.length_drop]; omega
theorem may_app {p q : List C} (hp : mayP p = true) (hq : mayP q = true) (hl : p.length + q.length ≤ 6) : mayP (p ++ q) = true :=
  may_mk (by rw [List.length_append]; exact hl) fun c hc => by
    rcases List.mem_append.1 hc with hc | hc
    · exact may_all hp c hc
    · exact may_all hq c hc
theorem covers_both {p q r : List C} (hp : mayP p = true) (hq : mayP q = true) (hl : p.length + q.length ≤ 6) : coversF (p ++ q) r = (coversF p r && coversF q r) := by
  have hb := may_app hp hq hl
  rw [Bool.eq_iff_iff, Bool.and_eq_true]
  constructor
  · intro h
    exact ⟨covers_trans (covers_sub hp hb fun c hc => List.mem_append_left _ hc) h, covers_trans (covers_sub hq hb fun c hc => List.mem_append_right _ hc) h⟩
  · rintro ⟨h1, h2⟩
    obtain ⟨_, a2, a3⟩ := (covers_iff _ _).1 h1
    obtain ⟨_, _, b3⟩ := (covers_iff _ _).1 h2
    refine (covers_iff _ _).2 ⟨hb, a2, ?_⟩
    rcases a3 with a3 | a3
    · exact .inl a3
    · rcases b3 with b3 | b3
      · exact .inl b3
      · right
        intro n hn
        have key : ∀ {x : List C}, mayP x = true → (∀ n ∈ namesF x, n ∈ namesF r ∧ ∀ v, (askedF r n).has v = true → (askedF x n).has v = true) → ∀ v, (askedF r n).has v = true → (askedF x n).has v = true := fun {x} hx h v hv => by
          by_cases hnx : n ∈ namesF x
          · exact (h n hnx).2 v hv
          · exact asked_free hx hnx v
        refine ⟨?_, fun v hv => ?_⟩
        · obtain ⟨c, hc, e⟩ := (names_mem _ _).1 hn
          rcases List.mem_append.1 hc with hc | hc
          · exact (a3 n ((names_mem _ _).2 ⟨c, hc, e⟩)).1
          · exact (b3 n ((names_mem _ _).2 ⟨c, hc, e⟩)).1
        · have k1 := key hp a3 v hv
          have k2 := key hq b3 v hv
          rw [asked_has hp] at k1
          rw [asked_has hq] at k2
          rw [asked_has hb, List.all_append, k1, k2]; rfl

/-! Overlapping -/
def bothF (p q : List C) : List (List UInt8) := sortU Lib.compareBytes (namesF p ++ namesF q)
def apartF (p q : List C) : Option (List UInt8) := if mayP p && mayP q then (bothF p q).find? fun n => ((askedF p n).and (askedF q n)).empty else none
def overlapsF (p q : List C) : Bool := mayP p && mayP q && (apartF p q).isNone
theorem both_mem (p q : List C) (n : List UInt8) : n ∈ bothF p q ↔ n ∈ namesF p ∨ n ∈ namesF q := by
  unfold bothF
  rw [sortU_mem _ (fun _ _ _ _ => bytes_zero), List.mem_append]
theorem apart_good (p q : List C) (n : List UInt8) : Good4 ((askedF p n).and (askedF q n)) := (good_asked p n).and (good_asked q n)
theorem overlaps_iff (p q : List C) : overlapsF p q = true ↔ mayP p = true ∧ mayP q = true ∧ ∀ n, n ∈ namesF p ∨ n ∈ namesF q → ∃ v, (askedF p n).has v = true ∧ (askedF q n).has v = true := by
  unfold overlapsF apartF
  simp only [Bool.and_eq_true, and_assoc]
  refine and_congr_right fun h1 => and_congr_right fun h2 => ?_
  rw [if_pos ⟨h1, h2⟩, Option.isNone_iff_eq_none, List.find?_eq_none]
  constructor
  · intro h n hn
    have hne : ¬ ((askedF p n).and (askedF q n)).empty = true := h n ((both_mem p q n).2 hn)
    rw [empty_iff (apart_good p q n)] at hne
    obtain ⟨v, hv⟩ := Classical.not_forall.1 hne
    refine ⟨v, ?_⟩
    rw [has_and] at hv
    simpa using hv
  · intro h n hn
    obtain ⟨v, h3, h4⟩ := h n ((both_mem p q n).1 hn)
    intro he
    have := (empty_iff (apart_good p q n)).1 he v
    rw [has_and, h3, h4] at this; cases this
theorem overlaps_symm (p q : List C) : overlapsF p q = overlapsF q p := by
  rw [Bool.eq_iff_iff, overlaps_iff, overlaps_iff]
  constructor
  · rintro ⟨h1, h2, h3⟩
    exact ⟨h2, h1, fun n hn => let ⟨v, a, b⟩ := h3 n hn.symm; ⟨v, b, a⟩⟩
  · rintro ⟨h1, h2, h3⟩
    exact ⟨h2, h1, fun n hn => let ⟨v, a, b⟩ := h3 n hn.symm; ⟨v, b, a⟩⟩
theorem names_nil : namesF [] = [] := rfl
theorem any_iff (p : List C) : overlapsF p [] = true ↔ mayP p = true ∧ noneF p = false := by
  rw [overlaps_iff]
  constructor
  · rintro ⟨h1, _, h3⟩
    refine ⟨h1, ?_⟩
    cases hn : noneF p with
    | false => rfl
    | true =>
      obtain ⟨n, hm, hv⟩ := none_iff.1 hn
      obtain ⟨v, a, _⟩ := h3 n (.inl hm)
      rw [hv] at a; cases a
  · rintro ⟨h1, h2⟩
    refine ⟨h1, may_nil, fun n hn => ?_⟩
    have hm : n ∈ namesF p := hn.elim id fun h => by rw [names_nil] at h; cases h
    have hne : ¬ ∀ v, (askedF p n).has v = false := fun h => by
      have := none_iff.2 ⟨n, hm, h⟩
      rw [h2] at this; cases this
    obtain ⟨v, hv⟩ := Classical.not_forall.1 hne
    exact ⟨v, by simpa using hv, asked_free may_nil (by rw [names_nil]; intro h; cases h) v⟩
/-- Who overlaps one that a third one covers overlaps that third one. -/
theorem overlap_law1 {p q r : List C} (h1 : overlapsF p q = true) (h2 : coversF r q = true) : overlapsF p r = true := by
  obtain ⟨a1, a2, a3⟩ := (overlaps_iff p q).1 h1
  obtain ⟨b1, _, b3⟩ := (covers_iff r q).1 h2
  refine (overlaps_iff p r).2 ⟨a1, b1, fun n hn => ?_⟩
  rcases b3 with b3 | b3
  · exfalso
    obtain ⟨m, hm, hv⟩ := none_iff.1 b3
    obtain ⟨v, _, h⟩ := a3 m (.inr hm)
    rw [hv] at h; cases h
  · have hnq : n ∈ namesF p ∨ n ∈ namesF q := hn.imp id fun h => (b3 n h).1
    obtain ⟨v, c1, c2⟩ := a3 n hnq
    refine ⟨v, c1, ?_⟩
    by_cases hr : n ∈ namesF r
    · exact (b3 n hr).2 v c2
    · exact asked_free b1 hr v
/-- One that covers another one, which matches anything, overlaps it. -/
theorem overlap_law2 {p q : List C} (h1 : coversF p q = true) (h2 : overlapsF q [] = true) : overlapsF p q = true := by
  obtain ⟨a1, a2, a3⟩ := (covers_iff p q).1 h1
  obtain ⟨_, hn⟩ := (any_iff q).1 h2
  obtain ⟨_, _, b3⟩ := (overlaps_iff q []).1 h2
  refine (overlaps_iff p q).2 ⟨a1, a2, fun n hm => ?_⟩
  rcases a3 with a3 | a3
  · rw [hn] at a3; cases a3
  · have hq : n ∈ namesF q := hm.elim (fun h => (a3 n h).1) id
    obtain ⟨v, c1, _⟩ := b3 n (.inl hq)
    refine ⟨v, ?_, c1⟩
    by_cases hp : n ∈ namesF p
    · exact (a3 n hp).2 v c1
    · exact asked_free a1 hp v
/-- What matches nothing is covered by all, and overlaps nobody. -/
theorem overlap_law3 {p q : List C} (hp : mayP p = true) (h : overlapsF p [] = false) : overlapsF p q = false ∧ (mayP q = true → coversF q p = true) := by
  have hn : noneF p = true := by
    cases hn : noneF p with
    | true => rfl
    | false => have := (any_iff p).2 ⟨hp, hn⟩; rw [h] at this; cases this
  refine ⟨?_, fun hq => (covers_iff q p).2 ⟨hq, hp, .inl hn⟩⟩
  cases ho : overlapsF p q with
  | false => rfl
  | true =>
    obtain ⟨_, _, a3⟩ := (overlaps_iff p q).1 ho
    obtain ⟨n, hm, hv⟩ := none_iff.1 hn
    obtain ⟨v, c1, _⟩ := a3 n (.inl hm)
    rw [hv] at c1; cases c1
theorem apart_some {p q : List C} {n : List UInt8} (h : apartF p q = some n) : mayP p = true ∧ mayP q = true ∧ ((askedF p n).and (askedF q n)).empty = true ∧ (n ∈ namesF p ∨ n ∈ namesF q) := by
  unfold apartF at h
  split at h
  · rename_i hm
    simp only [Bool.and_eq_true] at hm
    exact ⟨hm.1, hm.2, List.find?_some (p := fun n => ((askedF p n).and (askedF q n)).empty) h, (both_mem p q n).1 (List.mem_of_find?_eq_some h)⟩
  · cases h
/-- Without their constraints of all other names they do not overlap either. -/
theorem apart_only {p q : List C} {n : List UInt8} (h : apartF p q = some n) : overlapsF (p.filter fun c => decide (c.name = n)) (q.filter fun c => decide (c.name = n)) = false := by
  obtain ⟨hp, hq, he, hn⟩ := apart_some h
  have hm : ∀ {x : List C}, mayP x = true → mayP (x.filter fun c => decide (c.name = n)) = true := fun {x} hx =>
    may_mk (Nat.le_trans (List.length_filter_le _ _) (may_len hx)) fun c hc => may_all hx c (List.mem_filter.1 hc).1
  have ha : ∀ {x : List C}, mayP x = true → ∀ v, (askedF (x.filter fun c => decide (c.name = n)) n).has v = (askedF x n).has v := fun {x} hx v => by
    rw [asked_has (hm hx), asked_has hx, List.all_filter]
    congr 1
    funext c
    by_cases hc : c.name = n
    · simp [hc]
    · simp [hc]
  cases ho : overlapsF (p.filter fun c => decide (c.name = n)) (q.filter fun c => decide (c.name = n)) with
  | false => rfl
  | true =>
    exfalso
    obtain ⟨_, _, a3⟩ := (overlaps_iff _ _).1 ho
    have hn' : n ∈ namesF (p.filter fun c => decide (c.name = n)) ∨ n ∈ namesF (q.filter fun c => decide (c.name = n)) := hn.imp (fun h => by
        obtain ⟨c, hc, e⟩ := (names_mem _ _).1 h
        exact (names_mem _ _).2 ⟨c, List.mem_filter.2 ⟨hc, decide_eq_true e⟩, e⟩) (fun h => by
        obtain ⟨c, hc, e⟩ := (names_mem _ _).1 h
        exact (names_mem _ _).2 ⟨c, List.mem_filter.2 ⟨hc, decide_eq_true e⟩, e⟩)
    obtain ⟨v, c1, c2⟩ := a3 n hn'
    rw [ha hp] at c1
    rw [ha hq] at c2
    have := (empty_iff (apart_good p q n)).1 he v
    rw [has_and, c1, c2] at this; cases this

end Go.Proofs.YtaklnpjpndkccaaGreat

namespace Go.Proofs.YtaklnpjpndkccaaGreat

def Full (l : List Sp) : Prop := ∀ x ∈ l, Cut.lt x.lo x.hi = true
def Rise (l : List Sp) : Prop := Full l ∧ l.Pairwise fun x y => Cut.lt y.lo x.hi = false
theorem cut_asym {x y : Cut} (h : Cut.lt x y = true) : Cut.lt y x = false := by
  cases k : Cut.lt y x with
  | false => rfl
  | true => have := cut_trans h k; rw [cut_irr] at this; cases this
theorem minus1_split {s out : Sp} : minus1 s out = [s] ∨ (Cut.lt out.lo s.hi = true ∧ Cut.lt s.lo out.hi = true ∧ minus1 s out = fullS [⟨s.lo, out.lo⟩, ⟨out.hi, s.hi⟩]) := by
  unfold minus1
  by_cases hd : (!Cut.lt out.lo s.hi || !Cut.lt s.lo out.hi) = true
  · rw [if_pos hd]; exact .inl rfl
  · rw [if_neg hd]
    simp only [Bool.not_eq_true, Bool.or_eq_false_iff, Bool.not_eq_false'] at hd
    rw [if_pos hd.1, if_pos hd.2]
    exact .inr ⟨hd.1, hd.2, rfl⟩
theorem minus1_sub {s out x : Sp} (hs : Cut.lt s.lo s.hi = true) (h : x ∈ minus1 s out) : Cut.lt x.lo s.lo = false ∧ Cut.lt s.hi x.hi = false ∧ Cut.lt x.lo x.hi = true := by
  rcases minus1_split (s := s) (out := out) with e | ⟨h1, h2, e⟩
  · rw [e] at h
    rw [List.mem_singleton.1 h]
    exact ⟨cut_irr _, cut_irr _, hs⟩
  · rw [e] at h
    have h' := List.mem_filter.1 h
    rcases List.mem_cons.1 h'.1 with e | h3
    · subst e; exact ⟨cut_irr _, cut_asym h1, h'.2⟩
    · have e := List.mem_singleton.1 h3
      subst e; exact ⟨cut_asym h2, cut_irr _, h'.2⟩
theorem minus1_rise {s out : Sp} (ho : Cut.lt out.lo out.hi = true) : (minus1 s out).Pairwise fun x y => Cut.lt y.lo x.hi = false := by
  rcases minus1_split (s := s) (out := out) with e | ⟨_, _, e⟩
  · rw [e]; exact List.pairwise_singleton _ _
  · rw [e]
    refine List.Pairwise.filter _ (List.pairwise_cons.2 ⟨fun y hy => ?_, List.pairwise_singleton _ _⟩)
    rw [List.mem_singleton.1 hy]
    exact cut_asym ho
theorem minus1_two {s out : Sp} : (minus1 s out).length ≤ 1 ∨ ((minus1 s out).length = 2 ∧ Cut.lt s.lo out.lo = true ∧ Cut.lt out.hi s.hi = true) := by
  rcases minus1_split (s := s) (out := out) with e | ⟨_, _, e⟩
  · rw [e]; exact .inl (Nat.le_refl _)
  · rw [e]
    unfold fullS
    cases h1 : Cut.lt s.lo out.lo <;> cases h2 : Cut.lt out.hi s.hi <;> simp [h1, h2]
theorem flat_rise {out : Sp} (ho : Cut.lt out.lo out.hi = true) : ∀ {l : List Sp}, Rise l → Rise (l.flatMap fun s => minus1 s out) ∧ (l.flatMap fun s => minus1 s out).length ≤ l.length + 1
  | [], _ => ⟨⟨fun _ h => (by cases h), List.Pairwise.nil⟩, by simp⟩
  | s :: l, h => by
    have hp := List.pairwise_cons.1 h.2
    have hf : Full l := fun x hx => h.1 x (List.mem_cons_of_mem _ hx)
    have hs := h.1 s List.mem_cons_self
    obtain ⟨ih1, ih2⟩ := flat_rise ho ⟨hf, hp.2⟩
    rw [List.flatMap_cons]
    refine ⟨⟨fun x hx => ?_, List.pairwise_append.2 ⟨minus1_rise ho, ih1.2, fun x hx y hy => ?_⟩⟩, ?_⟩
    · rcases List.mem_append.1 hx with hx | hx
      · exact (minus1_sub hs hx).2.2
      · exact ih1.1 x hx
    · obtain ⟨t, ht, hy⟩ := List.mem_flatMap.1 hy
      have a := (minus1_sub (hf t ht) hy).1
      have b := hp.1 t ht
      have c := (minus1_sub hs hx).2.1
      exact cut_ntrans (cut_ntrans a b) c
    · rw [List.length_append, List.length_cons]
      rcases minus1_two (s := s) (out := out) with h1 | ⟨h1, h2, h3⟩
      · omega
      · have hl : ∀ m : List Sp, (∀ t ∈ m, (minus1 t out).length ≤ 1) → (m.flatMap fun s => minus1 s out).length ≤ m.length := fun m => by
          induction m with
          | nil => intro _; simp
          | cons t m ih =>
            intro hm
            have a := hm t List.mem_cons_self
            have b := ih fun u hu => hm u (List.mem_cons_of_mem _ hu)
            rw [List.flatMap_cons, List.length_append, List.length_cons]; omega
        have := hl l fun t ht => by
          rcases minus1_two (s := t) (out := out) with k | ⟨_, k2, k3⟩
          · exact k
          · exfalso
            have b := hp.1 t ht
            have e1 := cut_trans (cut_trans k2 ho) h3
            rw [b] at e1; cases e1
        omega
theorem minusL_rise : ∀ {m l : List Sp}, Full m → Rise l → Rise (minusL l m) ∧ (minusL l m).length ≤ l.length + m.length
  | [], l, _, h => ⟨h, Nat.le_refl _⟩
  | o :: m, l, hm, h => by
    obtain ⟨a, b⟩ := flat_rise (hm o List.mem_cons_self) h
    obtain ⟨c, d⟩ := minusL_rise (m := m) (fun x hx => hm x (List.mem_cons_of_mem _ hx)) a
    refine ⟨c, ?_⟩
    have : (minusL l (o :: m)).length ≤ (l.flatMap fun s => minus1 s o).length + m.length := d
    rw [List.length_cons]; omega

/-- Of no Kind more than n spans. -/
structure Few (n : Nat) (r : Rg) : Prop where
  i : r.i.length ≤ n
  s : r.s.length ≤ n
  b : r.b.length ≤ n
structure Rises (r : Rg) : Prop where
  i : Rise r.i
  s : Rise r.s
  b : Rise r.b
structure Fulls (r : Rg) : Prop where
  i : Full r.i
  s : Full r.s
  b : Full r.b
theorem Rises.full {r : Rg} (h : Rises r) : Fulls r := ⟨h.i.1, h.s.1, h.b.1⟩
theorem Good4.full {r : Rg} (h : Good4 r) : Fulls r := ⟨fun x hx => (h.i x hx).2.2, fun x hx => (h.s x hx).2.2, fun x hx => (h.b x hx).2.2⟩
theorem Few.mono {m n : Nat} {r : Rg} (h : Few m r) (k : m ≤ n) : Few n r := ⟨Nat.le_trans h.i k, Nat.le_trans h.s k, Nat.le_trans h.b k⟩
theorem Rises.minus {r q : Rg} (h : Rises r) (k : Fulls q) : Rises (r.minus q) := ⟨(minusL_rise k.i h.i).1, (minusL_rise k.s h.s).1, (minusL_rise k.b h.b).1⟩
theorem Few.minus {m n : Nat} {r q : Rg} (hr : Rises r) (hq : Fulls q) (h : Few m r) (k : Few n q) : Few (m + n) (r.minus q) := by
  have a := (minusL_rise hq.i hr.i).2
  have b := (minusL_rise hq.s hr.s).2
  have c := (minusL_rise hq.b hr.b).2
  have := h.i; have := h.s; have := h.b; have := k.i; have := k.s; have := k.b
  exact ⟨by show (minusL r.i q.i).length ≤ _; omega, by show (minusL r.s q.s).length ≤ _; omega, by show (minusL r.b q.b).length ≤ _; omega⟩
theorem Rises.and {r q : Rg} (h : Rises r) (k : Fulls q) : Rises (r.and q) := h.minus (h.minus k).full
theorem Few.and {m n : Nat} {r q : Rg} (hr : Rises r) (hq : Fulls q) (h : Few m r) (k : Few n q) : Few (m + (m + n)) (r.and q) := Few.minus hr (hr.minus hq).full h (Few.minus hr hq h k)
theorem rises_all : Rises allR := by
  have hg := good_all.full
  exact ⟨⟨hg.i, List.pairwise_singleton _ _⟩, ⟨hg.s, List.pairwise_singleton _ _⟩, ⟨hg.b, List.pairwise_singleton _ _⟩⟩
theorem few_all : Few 1 allR := ⟨Nat.le_refl _, Nat.le_refl _, Nat.le_refl _⟩
theorem rises_none : Rises noneR := ⟨⟨fun _ h => (by cases h), List.Pairwise.nil⟩, ⟨fun _ h => (by cases h), List.Pairwise.nil⟩, ⟨fun _ h => (by cases h), List.Pairwise.nil⟩⟩
theorem few_none : Few 0 noneR := ⟨Nat.le_refl _, Nat.le_refl _, Nat.le_refl _⟩
theorem few_set {n : Nat} (k : Int) {l : List Sp} (h : l.length ≤ n) : Few n (setR k l) := by
  unfold setR
  (repeat' split) <;> exact ⟨by simp <;> exact h, by simp <;> exact h, by simp <;> exact h⟩
theorem ofL_len (c : C) : (ofL c).length ≤ 2 := by
  unfold ofL fullS
  refine Nat.le_trans (List.length_filter_le _ _) ?_
  (repeat' split) <;> simp
theorem one_len (v : V) : (ofL ⟨[], 2, v, []⟩).length ≤ 1 := by
  unfold ofL fullS
  refine Nat.le_trans (List.length_filter_le _ _) ?_
  rw [if_pos rfl]; simp
theorem fold_few (l : List V) : ∀ (m : Nat) (r : Rg), Rises r → Few m r → Rises (l.foldl (fun r v => r.minus (oneV v)) r) ∧ Few (m + l.length) (l.foldl (fun r v => r.minus (oneV v)) r) := by
  induction l with
  | nil => intro m r h k; exact ⟨h, k⟩
  | cons v l ih =>
    intro m r h k
    have := ih (m + 1) (r.minus (oneV v)) (h.minus (good_one v).full) (Few.minus h (good_one v).full k (few_set _ (one_len v)))
    refine ⟨this.1, this.2.mono ?_⟩
    simp; omega
theorem may_set {c : C} (h : mayC c = true) : c.set.length ≤ 6 := by
  unfold mayC at h
  split at h
  · cases h
  · split at h
    · simp at h; rw [h.2]; simp
    · split at h
      · simp at h; rw [h.2]; simp
      · split at h
        · simp at h; rw [h.2]; simp
        · split at h
          · simp at h; omega
          · cases h
theorem few_of (c : C) : Few 8 (ofR c) := by
  unfold ofR
  by_cases hm : mayC c = true
  · rw [if_neg (by simp [hm])]
    have hs := may_set hm
    split
    · exact few_all.mono (by decide)
    · split
      · have := fold_few c.set 1 allR rises_all few_all
        exact (Few.minus rises_all this.1.full few_all this.2).mono (by omega)
      · exact (few_set _ (ofL_len c)).mono (by decide)
  · rw [if_pos (by simpa using hm)]
    exact few_none.mono (by decide)
theorem few_fold (name : List UInt8) (p : List C) : ∀ (m : Nat) (r : Rg), Rises r → Few m r → Rises (p.foldl (fun r c => if c.name = name then r.and (ofR c) else r) r) ∧ Few ((m + 8) * 2 ^ p.length) (p.foldl (fun r c => if c.name = name then r.and (ofR c) else r) r) := by
  induction p with
  | nil => intro m r h k; exact ⟨h, k.mono (by simp)⟩
  | cons c p ih =>
    intro m r h k
    have hp : (m + m + 8 + 8) * 2 ^ p.length ≤ (m + 8) * 2 ^ (c :: p).length := by
      rw [List.length_cons, Nat.pow_succ, Nat.mul_comm (2 ^ p.length) 2, ← Nat.mul_assoc]
      exact Nat.mul_le_mul_right _ (by omega)
    rw [List.foldl_cons]
    split
    · have := ih (m + m + 8) (r.and (ofR c)) (h.and (good_of c).full) ((Few.and h (good_of c).full k (few_of c)).mono (by omega))
      exact ⟨this.1, this.2.mono hp⟩
    · have := ih (m + m + 8) r h (k.mono (by omega))
      exact ⟨this.1, this.2.mono hp⟩
theorem few_asked (p : List C) (name : List UInt8) : Rises (askedF p name) ∧ Few 576 (askedF p name) := by
  unfold askedF
  by_cases hm : mayP p = true
  · rw [if_neg (by simp [hm])]
    have hl := may_len hm
    have := few_fold name p 1 allR rises_all few_all
    refine ⟨this.1, this.2.mono ?_⟩
    have : 2 ^ p.length ≤ 2 ^ 6 := Nat.pow_le_pow_right (by decide) hl
    omega
  · rw [if_pos (by simpa using hm)]
    exact ⟨rises_none, few_none.mono (by decide)⟩
end Go.Proofs.YtaklnpjpndkccaaGreat

namespace Go.Proofs.YtaklnpjpndkccaaGreat
open Go.RowKit Go.Sort

theorem sortSet (w w2 : World) (v : Value) (l : List V) (hx : Ext w w2) (ho : w2.ownsRow w.heap.size 80 4 v l.length (l.flatMap vC)) (hl : l.length ≤ 1000000) :
    Calls Tryz.prog 60 #[v, .func (.func 61) #[] #[]] w2 fun e w' => e = .returned (.tuple #[]) ∧ ∃ l' : List V, (l'.Perm l ∧ (l'.Pairwise fun a b => cmpV a b ≤ 0)) ∧ w'.ownsRow w.heap.size 80 4 v l'.length (l'.flatMap vC) ∧ Ext w w' := by
  refine (sortV_any w2 _ v l ho hl).mono ?_
  rintro e w' ⟨rfl, l', p1, p2, p3, p4⟩
  exact ⟨rfl, l', ⟨p1, p2⟩, by rw [p1.length_eq]; exact p3, hx.grown_none p4 (own_base ho)⟩
theorem compSet (w w2 : World) (v : Value) (c : C) (l : List V) (hc : mayC c = true) (hx : Ext w w2) (ho : w2.ownsRow w.heap.size 80 4 v l.length (l.flatMap vC)) (hp : l.Perm c.set ∧ (l.Pairwise fun a b => cmpV a b ≤ 0)) :
    Calls Tryz.prog 62 #[v] w2 fun e w' => ∃ v', e = .returned v' ∧ w'.ownsRow w.heap.size 80 4 v' (normC c).set.length ((normC c).set.flatMap vC) ∧ Ext w w' := by
  have hlen := hp.1.length_eq
  have hs := may_set hc
  have hi := set_inj hc
  have he : compE l = (normC c).set := compL_sorted wo_V hp.1 hp.2 hi fun a ha b hb => ⟨fun h => by rw [of_decide_eq_true h]; exact wo_V.refl b, fun h => decide_eq_true (hi a ha b hb h)⟩
  refine (compactV_any w2 _ v l ho (by omega)).mono ?_
  rintro e w' ⟨v', rfl, p1, p2, p3⟩
  rw [he] at p1
  exact ⟨v', rfl, p1, hx.grown_none p2 (own_base ho)⟩

theorem grown_setCell (w : World) (a : Addr) (v : Value) : w.grownBy (w.setCell a v) (some a.block) := by
  have h := Below.setCell (Below.refl a.block w) (Nat.le_refl _) v
  refine ⟨h.os, h.tape, h.output, by rw [World.size_setCell]; exact Nat.le_refl _, fun k hk hne => ?_⟩
  have hne2 : k ≠ a.block := fun e => hne (by rw [e])
  show (w.heap.modify a.block _)[k]? = w.heap[k]?
  rw [Array.getElem?_modify, if_neg (fun e => hne2 e.symm)]
theorem addRow (w : World) (x : CS) : Row (w.alloc (.cells (csC x).toArray 94)) 7 (.slice (some ⟨w.heap.size, 0, none⟩) 1 1) 1 (csC x) :=
  Row.of_own (World.ownsRow_lit (base := w.heap.size) (e := 94) (size := 7) w (csC x).toArray 1 (Nat.le_refl _) (by decide) rfl)

set_option maxRecDepth 100000 in
set_option maxHeartbeats 2000000 in
theorem normal_no (w : World) (v : Value) (p : List C) (hp : PredR w v p) (hm : mayP p = false) : Calls Tryz.prog 33 #[v] w fun e w' => e = .returned (.tuple #[.slice none 0 0, .int .i64 30]) ∧ Ext w w' := by
  have hc := pmay_any w v p hp
  rw [hm] at hc
  obtain ⟨a, cap, rfl, _, _⟩ := hp.shape
  clear hm hp
  go_enter Tryz.func33, Tryz.ntmps33
  go_wp2_with (go_at_call 58; refine hc.mono ?_; rintro e w' ⟨rfl, hx⟩)
  go_ret2
  exact ⟨rfl, hx⟩

set_option maxRecDepth 100000 in
set_option maxHeartbeats 4000000 in
theorem normal_yes (w : World) (v : Value) (p : List C) (hp : PredR w v p) (hm : mayP p = true) : Calls Tryz.prog 33 #[v] w fun e w' => ∃ (v' : Value) (us : List CS), e = .returned (.tuple #[v', .int .i64 0]) ∧ us.map CS.c = normP p ∧ w'.ownsRow w.heap.size 94 7 v' us.length (us.flatMap csC) ∧ (∀ x ∈ us, SetO w.heap.size w' x) ∧ Ext w w' := by
  have hc := pmay_any w v p hp
  rw [hm] at hc
  have hl6 := may_len hm
  have hall := Lib.hid (may_all hm)
  obtain ⟨a, cap, rfl, _, _⟩ := hp.shape
  have HP := Lib.hid hp
  clear hm hp
  obtain ⟨n, hn⟩ : ∃ n, n = p.length := ⟨_, rfl⟩
  have HN := Lib.hid hn
  rw [← hn] at hc ⊢ HP hl6
  clear hn
  go_enter Tryz.func33, Tryz.ntmps33
  go_wp2_with (go_at_call 58; refine hc.mono ?_; rintro e w1 ⟨rfl, hx1⟩)
  clear hc
  go_loopw [4, 6, 7, 15] (fun l4 _ _ i wr => ∃ (k : Nat) (us : List CS), k ≤ n ∧ i = .int .i64 k ∧ Hid (us.length = k) ∧ Hid (us.map CS.c = (p.take k).map normC) ∧ Hid (wr.ownsRow w.heap.size 94 7 l4 us.length (us.flatMap csC)) ∧ Hid (∀ x ∈ us, SetO w.heap.size wr x) ∧ Hid (us = [] → l4 = .slice none 0 0) ∧ Ext w wr) (fun _ _ _ i _ => n - (intOf i).toNat)
  case atStart => exact ⟨0, [], Nat.zero_le _, rfl, rfl, rfl, ⟨rfl, .inl ⟨rfl, rfl⟩⟩, fun _ h => (by cases h), fun _ => rfl, hx1⟩
  case round =>
    obtain ⟨k, us, hk, rfl, hlen, hus, hown, hset, hnil, hx⟩ := hrel
    by_cases hlt : k < n
    · have hI : decide ((k : Int) < (n : Int)) = true := decide_eq_true (by omega)
      have k1 : k < p.length := by have := HN.out; omega
      obtain ⟨B, o, sa, sc, rfl, f0, f1, f2, f3, f4, f5, f6, fs⟩ := (HP.out.ext hx).at k1
      have hmc := Lib.hid (hall.out p[k] (List.getElem_mem k1))
      have htk : (p.take (k + 1)).map normC = (p.take k).map normC ++ [normC p[k]] := by rw [List.take_succ_eq_append_getElem k1, List.map_append]; rfl
      have HTK := Lib.hid htk
      clear htk
      generalize p[k] = c at *
      have hsl := may_set hmc.out
      have hxW : Ext wr (wr.alloc (.cells #[.string (strOf c.name), .int .i64 c.op, .int .i64 c.v.k, .int .i64 c.v.n, .string (strOf c.v.s), .bool c.v.b, .slice sa c.set.length sc] 94)) := (Ext.refl wr).alloc _
      have hB : (wr.alloc (.cells #[.string (strOf c.name), .int .i64 c.op, .int .i64 c.v.k, .int .i64 c.v.n, .string (strOf c.v.s), .bool c.v.b, .slice sa c.set.length sc] 94)).heap[wr.heap.size]? = some (.cells #[.string (strOf c.name), .int .i64 c.op, .int .i64 c.v.k, .int .i64 c.v.n, .string (strOf c.v.s), .bool c.v.b, .slice sa c.set.length sc] 94 (0, 0)) := heap_alloc_new _ _
      have hcl := cloneV_any _ _ c.set (fs.ext hxW) (by omega)
      have hsz : (wr.alloc (.cells #[.string (strOf c.name), .int .i64 c.op, .int .i64 c.v.k, .int .i64 c.v.n, .string (strOf c.v.s), .bool c.v.b, .slice sa c.set.length sc] 94)).heap.size = wr.heap.size + 1 := World.size_alloc _ _
      go_wp2_with fail
      generalize wr.alloc (.cells #[.string (strOf c.name), .int .i64 c.op, .int .i64 c.v.k, .int .i64 c.v.n, .string (strOf c.v.s), .bool c.v.b, .slice sa c.set.length sc] 94) = W at *
      refine hcl.mono ?_
      rintro e w2 ⟨v2, rfl, ho2, hx2⟩
      have HO2 := Lib.hid ho2
      have HX2 := Lib.hid hx2
      clear hcl ho2 hx2 f0 f1 f2 f3 f4 f5 f6 fs
      go_wp2_with fail
      refine (sortSet W w2 v2 c.set HX2.out HO2.out (by omega)).mono ?_
      rintro e w3 ⟨rfl, l', h3⟩
      have H3 := Lib.hid h3
      clear h3
      go_wp2_with fail
      refine (compSet W w3 v2 c l' hmc.out H3.out.2.2 H3.out.2.1 H3.out.1).mono ?_
      rintro e w4 ⟨v4, rfl, h4⟩
      have hB4 : w4.heap[wr.heap.size]? = some (.cells #[.string (strOf c.name), .int .i64 c.op, .int .i64 c.v.k, .int .i64 c.v.n, .string (strOf c.v.s), .bool c.v.b, .slice sa c.set.length sc] 94 (0, 0)) := by
        rw [h4.2.block _ (Array.getElem?_eq_some_iff.1 hB).1]; exact hB
      have H4 := Lib.hid h4
      clear h4 hB HO2 HX2 H3
      have c0 := cell_of_row _ _ 0 _ _ _ hB4
      have c1 := cell_of_row _ _ 1 _ _ _ hB4
      have c2 := cell_of_row _ _ 2 _ _ _ hB4
      have c3 := cell_of_row _ _ 3 _ _ _ hB4
      have c4 := cell_of_row _ _ 4 _ _ _ hB4
      have c5 := cell_of_row _ _ 5 _ _ _ hB4
      have c6 := cell_of_row _ _ 6 _ _ _ hB4
      have z6 : w4.frozen? ⟨wr.heap.size, 6, none⟩ = false := by simp [World.frozen?, hB4]
      clear hB4
      obtain ⟨a4, cap4, rfl, _, _⟩ := Row.shape (Row.of_own H4.out.1)
      have hx5 : Ext wr (w4.setCell ⟨wr.heap.size, 6, none⟩ (.slice a4 (normC c).set.length cap4)) := (hxW.trans H4.out.2).setCell (Nat.le_refl _) _
      have hlt4 : wr.heap.size < w4.heap.size := by have := H4.out.2.size; omega
      have hset4 : SetO w.heap.size (w4.setCell ⟨wr.heap.size, 6, none⟩ (.slice a4 (normC c).set.length cap4)) ⟨normC c, .slice a4 (normC c).set.length cap4⟩ :=
        own_keep (own_low H4.out.1 (by have := hx.size; omega)) (grown_setCell w4 ⟨wr.heap.size, 6, none⟩ _) fun q hq e => by
          have := own_base H4.out.1 q hq
          have e2 : wr.heap.size = q := Option.some.inj e
          omega
      have hrow := addRow (w4.setCell ⟨wr.heap.size, 6, none⟩ (.slice a4 (normC c).set.length cap4)) ⟨normC c, .slice a4 (normC c).set.length cap4⟩
      have hs5 : (w4.setCell ⟨wr.heap.size, 6, none⟩ (.slice a4 (normC c).set.length cap4)).heap.size = w4.heap.size := World.size_setCell _ _ _
      rw [hs5] at hrow
      clear hs5
      have hx6 : Ext wr ((w4.setCell ⟨wr.heap.size, 6, none⟩ (.slice a4 (normC c).set.length cap4)).alloc (.cells #[.string (strOf c.name), .int .i64 c.op, .int .i64 c.v.k, .int .i64 c.v.n, .string (strOf c.v.s), .bool c.v.b, .slice a4 (normC c).set.length cap4] 94)) := hx5.alloc _
      have hset6 := hset4.ext ((Ext.refl _).alloc (.cells #[.string (strOf c.name), .int .i64 c.op, .int .i64 c.v.k, .int .i64 c.v.n, .string (strOf c.v.s), .bool c.v.b, .slice a4 (normC c).set.length cap4] 94))
      have hown6 := own_ext hown.out hx6
      have hone := csC_one [⟨normC c, .slice a4 (normC c).set.length cap4⟩] (fun y hy => by rw [List.mem_singleton.1 hy]; rfl)
      rw [List.flatMap_singleton] at hone
      have hlen2 : us.length ≤ 6 := by have := hlen.out; omega
      have hbase : w.heap.size ≤ ((w4.setCell ⟨wr.heap.size, 6, none⟩ (.slice a4 (normC c).set.length cap4)).alloc (.cells #[.string (strOf c.name), .int .i64 c.op, .int .i64 c.v.k, .int .i64 c.v.n, .string (strOf c.v.s), .bool c.v.b, .slice a4 (normC c).set.length cap4] 94)).heap.size := (hx.trans hx6).size
      have HSET6 := Lib.hid hset6
      have HOWN6 := Lib.hid hown6
      have HROW := Lib.hid hrow
      have HONE := Lib.hid hone
      have HX6 := Lib.hid hx6
      have HB := Lib.hid hbase
      clear hset6 hown6 hrow hone hx6 hx5 hset4 hbase hsz
      go_wp2_with (at_builtin; refine wpList_append_row 116 94 (.tmp 27) (.tmp 29) rfl w.heap.size _ 7 88 Tryz.underlying116 info31t rfl (by decide) rfl _ us.length (us.flatMap csC) rfl HOWN6.out 1 (csC ⟨normC c, .slice a4 (normC c).set.length cap4⟩) HROW.out HONE.out (by omega) (by unfold maxLen; omega) HB.out ?_; intro v' w7 hown7 hgrow; have HOWN7 := Lib.hid hown7; have HG := Lib.hid hgrow; clear hown7 hgrow)
      go_roundw
      case rel =>
        refine ⟨k + 1, us ++ [⟨normC c, .slice a4 (normC c).set.length cap4⟩], hlt, by go_num, ?_, ?_, ?_, ?_, ?_, ?_⟩
        · show _ = _; rw [List.length_append, List.length_singleton, hlen.out]
        · show _ = _; rw [HTK.out, ← hus.out, List.map_append]; rfl
        · show World.ownsRow _ _ _ _ _ _ _
          rw [List.length_append, List.length_singleton, List.flatMap_append, List.flatMap_singleton]
          exact HOWN7.out
        · show ∀ x ∈ us ++ [_], _
          intro x hxm
          rcases List.mem_append.1 hxm with hxm | hxm
          · exact ((hset.out x hxm).ext HX6.out).keep HOWN6.out HG.out
          · rw [List.mem_singleton.1 hxm]; exact HSET6.out.keep HOWN6.out HG.out
        · show us ++ [_] = [] → _
          intro h; simp at h
        · exact (hx.trans HX6.out).grown_none HG.out (own_base HOWN6.out)
      case measure => simp [intOf]; omega
    · obtain rfl : k = n := by omega
      have hI : decide ((k : Int) < (k : Int)) = false := decide_eq_false (by omega)
      have hus2 : Hid (us.map CS.c = p.map normC) := by
        have h := hus.out
        rw [List.take_of_length_le (by rw [← HN.out]; exact Nat.le_refl _)] at h
        exact h
      have hxF : Ext wr (wr.alloc (.cells #[.func (.func 63) #[] #[], .func (.func 64) #[] #[]] 120)) := (Ext.refl wr).alloc _
      have hF := heap_alloc_new wr (.cells #[.func (.func 63) #[] #[], .func (.func 64) #[] #[]] 120)
      have F1 := cell_of_row _ _ 1 _ _ _ hF
      have hlen2 : us.length ≤ 12 := by have := hlen.out; omega
      have hso := sorted_any _ w.heap.size u4 us (Row.of_own (own_ext hown.out hxF)) hlen2 (fun x hx => (hset.out x hx).ext hxF) hnil.out
      have HSO := Lib.hid hso
      have HXF := Lib.hid (hx.trans hxF)
      clear hso hF hxF
      go_wp2_with fail
      refine wp_loop_rounds 3 ?_
      rw [rounds_succ]
      go_wp2_with fail
      generalize wr.alloc (.cells #[.func (.func 63) #[] #[], .func (.func 64) #[] #[]] 120) = wf at *
      refine HSO.out.mono ?_
      rintro e w2 ⟨v2, us2, rfl, h2⟩
      have G1 := h2.2.2.2.2.1.cell F1
      have hlen3 : us2.length ≤ 12 := by rw [h2.1.length_eq]; exact hlen2
      have hon := once_any w2 w.heap.size v2 us2 (Row.of_own h2.2.2.1) hlen3 h2.2.2.2.1
      have HON := Lib.hid hon
      have H2 := Lib.hid h2
      clear h2 hon HSO F1
      go_wp2_with fail
      rw [rounds_succ]
      go_wp2_with fail
      refine HON.out.mono ?_
      rintro e w3 ⟨v3, rfl, h3⟩
      have H3 := Lib.hid h3
      clear h3 HON G1
      go_wp2_with fail
      rw [rounds_succ]
      go_wp2_with fail
      go_ret2
      refine ⟨v3, compF CS.c us2, rfl, ?_, own_low H3.out.1 ((HXF.out.trans H2.out.2.2.2.2.1).size), H3.out.2.1, HXF.out.trans (H2.out.2.2.2.2.1.trans H3.out.2.2)⟩
      rw [map_compF CS.c _ us2 (Nat.le_refl _)]
      refine compL_sorted wo_C (l := p.map normC) ?_ ?_ (fun a _ b _ => order_zero) (fun a _ b _ => ⟨fun h => by rw [of_decide_eq_true h]; exact wo_C.refl b, fun h => decide_eq_true (order_zero h)⟩)
      · rw [← hus2.out]; exact H2.out.1.map _
      · rw [List.pairwise_map]; exact H2.out.2.1
end Go.Proofs.YtaklnpjpndkccaaGreat

namespace Go.Proofs.YtaklnpjpndkccaaGreat
open Go.RowKit Go.Sort

set_option maxRecDepth 100000 in
set_option maxHeartbeats 4000000 in
theorem new_may (w : World) (v : Value) (p : List C) (hp : PredR w v p) (hm : mayP p = false) (next : Int) :
    Calls Tryz.prog 7 #[v, .int .u64 next] w fun e w' => e = .returned (.tuple #[.pointer none, .int .i64 30]) ∧ Ext w w' := by
  have CN := Lib.hid (normal_no w v p hp hm)
  clear hp hm
  go_enter Tryz.func7, Tryz.ntmps7
  go_wp2_with (go_at_call 33; (with_reducible refine CN.out.mono ?_); rintro e w5 ⟨rfl, hx5⟩; have HX5 := Lib.hid hx5; clear hx5)
  go_ret2
  exact ⟨rfl, HX5.out⟩
set_option maxRecDepth 100000 in
set_option maxHeartbeats 4000000 in
theorem new_arg (w : World) (v : Value) (p : List C) (hp : PredR w v p) (hm : mayP p = true) (next : Nat) (hn : next < 1 ∨ 1099511627777 < next) :
    Calls Tryz.prog 7 #[v, .int .u64 next] w fun e w' => e = .returned (.tuple #[.pointer none, .int .i64 1]) ∧ Ext w w' := by
  have CN := Lib.hid (normal_yes w v p hp hm)
  clear hp hm
  by_cases h1 : next < 1
  · have d1 : decide ((next : Int) < 1) = true := decide_eq_true (by omega)
    have d2 : decide (next < 1) = true := decide_eq_true h1
    have hz : (next : Int) = 0 := by omega
    rw [hz]
    clear d1 d2 h1 hz hn
    go_enter Tryz.func7, Tryz.ntmps7
    go_wp2_with (go_at_call 33; refine CN.out.mono ?_; rintro e w5 ⟨v5, us, rfl, _, _, _, hx5⟩; have HX5 := Lib.hid hx5; clear hx5)
    go_ret2
    exact ⟨rfl, HX5.out⟩
  · have d1 : decide ((next : Int) < 1) = false := decide_eq_false (by omega)
    have d2 : decide ((1099511627777 : Int) < (next : Int)) = true := decide_eq_true (by omega)
    clear h1 hn
    go_enter Tryz.func7, Tryz.ntmps7
    go_wp2_with (go_at_call 33; refine CN.out.mono ?_; rintro e w5 ⟨v5, us, rfl, _, _, _, hx5⟩; have HX5 := Lib.hid hx5; clear hx5)
    go_ret2
    exact ⟨rfl, HX5.out⟩
/-- What stands behind New. -/
def NewO (w w' : World) (bs : Nat) (p : List C) (next : Nat) : Prop := ∃ w0 pv, SplR w0 w' bs pv (normP p) next 0 0 ∧ Ext w w0 ∧ Ext w w'
set_option maxRecDepth 100000 in
set_option maxHeartbeats 4000000 in
theorem new_yes (w : World) (v : Value) (p : List C) (hp : PredR w v p) (hm : mayP p = true) (next : Nat) (h1 : 1 ≤ next) (h2 : next ≤ 1099511627777) :
    Calls Tryz.prog 7 #[v, .int .u64 next] w fun e w' => ∃ bs : Nat, e = .returned (.tuple #[.pointer (some ⟨bs, 0, none⟩), .int .i64 0]) ∧ Hid (NewO w w' bs p next) := by
  have CN := Lib.hid (normal_yes w v p hp hm)
  clear hp hm
  have d1 : decide ((next : Int) < 1) = false := decide_eq_false (by omega)
  have d2 : decide ((1099511627777 : Int) < (next : Int)) = false := decide_eq_false (by omega)
  clear h1 h2
  go_enter Tryz.func7, Tryz.ntmps7
  go_wp2_with (go_at_call 33; refine CN.out.mono ?_; rintro e w5 ⟨v5, us, rfl, hus, hown, hset, hx5⟩; have HX5 := Lib.hid hx5; have HPR : Hid (PredR w5 v5 (normP p)) := (by show PredR _ _ _; rw [← hus]; exact PredR.mk us (Row.of_own hown) fun x hm => (hset x hm).set); obtain ⟨a5, c5, rfl, _, _⟩ := own_shape hown; clear hus hown hset hx5)
  go_ret2
  refine ⟨_, rfl, w5, _, ⟨(boxes1 w5 _).2, Nat.le_refl _, HPR.out, (boxes1 w5 _).1⟩, HX5.out, HX5.out.trans (boxes1 w5 _).1⟩

set_option maxHeartbeats 4000000 in
theorem nstate (w : World) : Calls Tryz.prog 22 #[.pointer none] w fun e w' => e = .returned (.int .i64 0) ∧ w' = w := by
  go_enter Tryz.func22, Tryz.ntmps22
  go_wp2_with fail
  go_ret
  exact ⟨rfl, rfl⟩
set_option maxHeartbeats 4000000 in
theorem nnext (w : World) : Calls Tryz.prog 12 #[.pointer none] w fun e w' => e = .returned (.int .u64 0) ∧ w' = w := by
  go_enter Tryz.func12, Tryz.ntmps12
  go_wp2_with fail
  go_ret
  exact ⟨rfl, rfl⟩
set_option maxHeartbeats 4000000 in
theorem nlit (w : World) (known : Bool) : Calls Tryz.prog 10 #[.pointer none, .bool known] w fun e w' => e = .returned (.tuple #[]) ∧ w' = w := by
  go_enter Tryz.func10, Tryz.ntmps10
  go_wp2_with fail
  go_end0
  exact ⟨rfl, rfl⟩
set_option maxHeartbeats 4000000 in
theorem nask (w : World) (cnt : Int) : Calls Tryz.prog 11 #[.pointer none, .int .u64 cnt] w fun e w' => e = .returned (.tuple #[.int .u64 0, .bool false]) ∧ w' = w := by
  go_enter Tryz.func11, Tryz.ntmps11
  go_wp2_with (go_at_call 22; (with_reducible refine (nstate _).mono ?_); rintro e w5 ⟨rfl, rfl⟩)
  go_ret2
  exact ⟨rfl, rfl⟩
set_option maxHeartbeats 4000000 in
theorem npage (w : World) (cnt : Int) (fr en : Int) (hi hg : Value) (last : Bool) (room : Int) :
    Calls Tryz.prog 13 #[.pointer none, .int .u64 cnt, .agg #[.int .u64 fr, .int .u64 en, hi, hg, .bool last], .int .i64 room] w fun e w' => e = .returned (.slice none 0 0) ∧ Ext w w' := by
  have HX := Lib.hid (boxes1 w (.cells #[.int .u64 fr, .int .u64 en, hi, hg, .bool last] 34)).1
  go_enter Tryz.func13, Tryz.ntmps13
  go_wp2_with (go_at_call 22; (with_reducible refine (nstate _).mono ?_); rintro e w5 ⟨rfl, rfl⟩)
  go_ret
  exact ⟨rfl, HX.out⟩
set_option maxRecDepth 100000 in
set_option maxHeartbeats 4000000 in
theorem ncomes (w : World) (x : IM) (hs : AttrR w x.h x.av) (hl : x.av.length * 56 ≤ 140737488355328) (room : Int) :
    Calls Tryz.prog 14 #[.pointer none, .agg #[.int .u64 x.n, .int .u64 x.t, .string (strOf x.key), .slice x.ha x.av.length x.hc], .int .i64 room] w
      fun e w' => e = .returned (.slice none 0 0) ∧ Ext w w' := by
  obtain ⟨hx, hb⟩ := boxes1 w (.cells #[.int .u64 x.n, .int .u64 x.t, .string (strOf x.key), .slice x.ha x.av.length x.hc] 49)
  have CC := Lib.hid (icopied_any _ x (hs.ext hx) hl)
  have m0 := cell_of_row _ _ 0 _ _ _ hb
  have m1 := cell_of_row _ _ 1 _ _ _ hb
  have m2 := cell_of_row _ _ 2 _ _ _ hb
  have m3 := cell_of_row _ _ 3 _ _ _ hb
  have HX := Lib.hid hx
  clear hx hb hs
  go_enter Tryz.func14, Tryz.ntmps14
  go_wp2_with (first | (go_at_call 35; refine CC.out.mono ?_; rintro e w2 ⟨ha, hc, rfl, hat, hx2⟩; have HX2 := Lib.hid hx2; clear hat hx2) | (go_at_call 22; (with_reducible refine (nstate _).mono ?_); rintro e w5 ⟨rfl, rfl⟩))
  go_ret
  exact ⟨rfl, (HX.out.trans HX2.out).trans (boxes1 w2 _).1⟩
end Go.Proofs.YtaklnpjpndkccaaGreat

namespace Go.Proofs.YtaklnpjpndkccaaGreat
open Go.RowKit Go.Sort

theorem set_lit (w : World) (l : List V) (hm : l.length ≤ maxLen) : SetR (w.alloc (.cells (l.flatMap vC).toArray 80)) (.slice (some ⟨w.heap.size, 0, none⟩) l.length l.length) l :=
  Row.of_own (World.ownsRow_lit (base := w.heap.size) (e := 80) (size := 4) w (l.flatMap vC).toArray l.length (Nat.le_refl _) hm (by simp only [List.size_toArray]; exact flat_len vC 4 vC_len l))
theorem pred_lit (w : World) (us : List CS) (hm : us.length ≤ maxLen) (hs : ∀ x ∈ us, SetR w x.h x.c.set) : PredR (w.alloc (.cells (us.flatMap csC).toArray 94)) (.slice (some ⟨w.heap.size, 0, none⟩) us.length us.length) (us.map CS.c) :=
  PredR.mk us (Row.of_own (World.ownsRow_lit (base := w.heap.size) (e := 94) (size := 7) w (us.flatMap csC).toArray us.length (Nat.le_refl _) hm (by simp only [List.size_toArray]; exact flat_len csC 7 csC_len us))) fun x hx => (hs x hx).ext ((Ext.refl w).alloc _)
theorem attr_lit (w : World) (l : List (List UInt8 × V)) (hm : l.length ≤ maxLen) : AttrR (w.alloc (.cells (l.flatMap aC).toArray 82)) (.slice (some ⟨w.heap.size, 0, none⟩) l.length l.length) l :=
  Row.of_own (World.ownsRow_lit (base := w.heap.size) (e := 82) (size := 5) w (l.flatMap aC).toArray l.length (Nat.le_refl _) hm (by simp only [List.size_toArray]; exact flat_len aC 5 aC_len l))
set_option maxRecDepth 100000 in
theorem lawN_any (w : World) (n : Int) : Calls Tryz.prog 42 #[.int .i64 n] w fun e w' => e = .returned (.agg #[.int .i64 1, .int .i64 n, .string ⟨#[]⟩, .bool false]) ∧ Ext w w' := by
  go_enter Tryz.func42, Tryz.ntmps42
  go_wp2
  have hR := heap_alloc_new w (.cells #[.int .i64 1, .int .i64 n, .string ⟨#[]⟩, .bool false] 80)
  have r0 := cell_of_row _ _ 0 _ _ _ hR
  have r1 := cell_of_row _ _ 1 _ _ _ hR
  have r2 := cell_of_row _ _ 2 _ _ _ hR
  have r3 := cell_of_row _ _ 3 _ _ _ hR
  refine bodyPost_ret (v := .agg #[.int .i64 1, .int .i64 n, .string ⟨#[]⟩, .bool false]) (by simp [results, Tryz.results42, go_sem, r0, r1, r2, r3]) rfl ⟨rfl, (Ext.refl w).alloc _⟩
set_option maxRecDepth 100000 in
theorem lawE_any (w : World) (a : Option Addr) (n c : Nat) : Calls Tryz.prog 40 #[.slice a n c] w fun e w' => e = .returned (.agg #[.string ⟨#[]⟩, .slice a n c]) ∧ Ext w w' := by
  go_enter Tryz.func40, Tryz.ntmps40
  go_wp2
  have hR := heap_alloc_new w (.cells #[.string ⟨#[]⟩, .slice a n c] 47)
  have r0 := cell_of_row _ _ 0 _ _ _ hR
  have r1 := cell_of_row _ _ 1 _ _ _ hR
  refine bodyPost_ret (v := .agg #[.string ⟨#[]⟩, .slice a n c]) (by simp [results, Tryz.results40, go_sem, r0, r1]) rfl ⟨rfl, (Ext.refl w).alloc _⟩
set_option maxRecDepth 100000 in
theorem lawA_any (w : World) (s t : ByteArray) (k n : Int) (b : Bool) : Calls Tryz.prog 41 #[.string s, .agg #[.int .i64 k, .int .i64 n, .string t, .bool b]] w fun e w' => e = .returned (.agg #[.string s, .int .i64 k, .int .i64 n, .string t, .bool b]) ∧ Ext w w' := by
  go_enter Tryz.func41, Tryz.ntmps41
  go_wp2
  have hR := heap_alloc_new (w.alloc (.cells #[.int .i64 k, .int .i64 n, .string t, .bool b] 80)) (.cells #[.string s, .int .i64 k, .int .i64 n, .string t, .bool b] 82)
  rw [World.size_alloc] at hR
  have r0 := cell_of_row _ _ 0 _ _ _ hR
  have r1 := cell_of_row _ _ 1 _ _ _ hR
  have r2 := cell_of_row _ _ 2 _ _ _ hR
  have r3 := cell_of_row _ _ 3 _ _ _ hR
  have r4 := cell_of_row _ _ 4 _ _ _ hR
  refine bodyPost_ret (v := .agg #[.string s, .int .i64 k, .int .i64 n, .string t, .bool b]) (by simp [results, Tryz.results41, go_sem, r0, r1, r2, r3, r4]) rfl ⟨rfl, ((Ext.refl w).alloc _).alloc _⟩
def vN1 (n : Int) : V := ⟨1, n, [], false⟩
end Go.Proofs.YtaklnpjpndkccaaGreat

namespace Go.Proofs.YtaklnpjpndkccaaGreat
open Go.RowKit Go.Sort

/-- The law's item of a number. -/
def lawI (n : Nat) : PI := ⟨n, 0, [], [([97], vN1 n)]⟩
set_option maxRecDepth 100000 in
set_option maxHeartbeats 4000000 in
theorem lawI_own (w : World) (n : Nat) (hn : n ≤ 1000) :
    Calls Tryz.prog 23 #[.int .u64 n] w fun e w' => ∃ x : IM, e = .returned (.agg #[.int .u64 x.n, .int .u64 x.t, .string (strOf x.key), .slice x.ha x.av.length x.hc]) ∧ Hid (x.pi = lawI n ∧ AttrO w.heap.size w' x.h x.av ∧ Ext w w') := by
  obtain ⟨hx, hb⟩ := boxes1 w (.cells #[.int .u64 0, .int .u64 0, .string ⟨#[]⟩, .slice none 0 0] 49)
  have HB := Lib.hid hb
  have HX := Lib.hid hx
  clear hx hb
  go_enter Tryz.func23, Tryz.ntmps23
  go_wp2_with (first | (go_at_call 42; (with_reducible refine (lawN_any _ _).mono ?_); rintro e w2 ⟨rfl, hx2⟩; have HX2 := Lib.hid hx2; clear hx2) | (go_at_call 41; (with_reducible refine (lawA_any _ _ _ _ _ _).mono ?_); rintro e w3 ⟨rfl, hx3⟩; have HX3 := Lib.hid hx3; clear hx3; have HX3b := Lib.hid (boxes1 w3 (.cells #[.string ⟨#[97]⟩, .int .i64 1, .int .i64 n, .string ⟨#[]⟩, .bool false] 82)).1) | (go_at_call 40; (with_reducible refine (lawE_any _ _ _ _).mono ?_); rintro e w4 ⟨rfl, hx4⟩; have HX4 := Lib.hid hx4; clear hx4; have HB4 := Lib.hid (block_later HB.out (((HX2.out.trans HX3.out).trans HX3b.out).trans HX4.out))) | (refine wpList_store_whole 49 (.tmp 2) (.tmp 10) rfl rfl w.heap.size rfl #[.int .u64 n, .int .u64 0, .string ⟨#[]⟩, .slice (some ⟨w3.heap.size, 0, none⟩) 1 1] rfl _ 49 HB4.out rfl sizeItem (by simp [Value.oneCell']) ?_))
  have hr := setRow_heap w4 w.heap.size _ #[.int .u64 n, .int .u64 0, .string ⟨#[]⟩, .slice (some ⟨w3.heap.size, 0, none⟩) 1 1] 49 (0, 0) HB4.out
  have g0 := cell_of_row _ _ 0 _ _ _ hr
  have g1 := cell_of_row _ _ 1 _ _ _ hr
  have g2 := cell_of_row _ _ 2 _ _ _ hr
  have g3 := cell_of_row _ _ 3 _ _ _ hr
  have hxx := ((HX.out.trans HX2.out).trans HX3.out).trans (HX3b.out.trans HX4.out)
  have hw4 : w.heap.size < w3.heap.size := Nat.lt_of_lt_of_le (Array.getElem?_eq_some_iff.1 HB.out).1 (HX2.out.trans HX3.out).size
  refine bodyPost_ret (v := .agg #[.int .u64 n, .int .u64 0, .string ⟨#[]⟩, .slice (some ⟨w3.heap.size, 0, none⟩) 1 1]) (by simp [results, Tryz.results23, go_sem, g0, g1, g2, g3]) rfl ⟨⟨n, 0, [], some ⟨w3.heap.size, 0, none⟩, 1, [([97], vN1 n)]⟩, rfl, rfl, ?_, hxx.setRow (Nat.le_refl _) _⟩
  have ho : w4.ownsRow w3.heap.size 82 5 (.slice (some ⟨w3.heap.size, 0, none⟩) 1 1) 1 ([([97], vN1 (n : Int))].flatMap aC) := own_ext (World.ownsRow_lit (base := w3.heap.size) (e := 82) (size := 5) w3 ([([97], vN1 (n : Int))].flatMap aC).toArray 1 (Nat.le_refl _) (by decide) rfl) HX4.out
  exact own_low (own_rowJ ho HB4.out (by decide) _) (Nat.le_of_lt hw4)
theorem lawI_any (w : World) (n : Nat) (hn : n ≤ 1000) :
    Calls Tryz.prog 23 #[.int .u64 n] w fun e w' => ∃ x : IM, e = .returned (.agg #[.int .u64 x.n, .int .u64 x.t, .string (strOf x.key), .slice x.ha x.av.length x.hc]) ∧ Hid (x.pi = lawI n ∧ AttrR w' x.h x.av ∧ Ext w w') := by
  refine (lawI_own w n hn).mono ?_
  rintro e w' ⟨x, rfl, h⟩
  exact ⟨x, rfl, h.out.1, Row.of_own h.out.2.1, h.out.2.2⟩
end Go.Proofs.YtaklnpjpndkccaaGreat

namespace Go.Proofs.YtaklnpjpndkccaaGreat
open Go.RowKit Go.Sort

theorem SplR.later {w0 w w' : World} {bs : Nat} {pv : Value} {p : List C} {next : Nat} {st cnt : Int} (h : SplR w0 w bs pv p next st cnt) (hx : Ext w w') : SplR w0 w' bs pv p next st cnt := ⟨block_later h.sp hx, h.old, h.pr, h.hx.trans hx⟩
theorem SplR.turn {w0 w w' : World} {bs : Nat} {pv : Value} {p : List C} {next n' : Nat} {st cnt st' cnt' : Int} (h : SplR w0 w bs pv p next st cnt) (hg : w.grownBy w' (some bs)) (hS : SpB w' bs pv n' st' cnt') : SplR w0 w' bs pv p n' st' cnt' := ⟨hS, h.old, h.pr, ext_but h.hx hg h.old⟩
theorem lit_spl {w0 w : World} {bs : Nat} {pv : Value} {p : List C} {next : Nat} {st cnt : Int} (h : SplR w0 w bs pv p next st cnt) (known : Bool) :
    Calls Tryz.prog 10 #[.pointer (some ⟨bs, 0, none⟩), .bool known] w fun e w' => e = .returned (.tuple #[]) ∧ Hid (SplR w0 w' bs pv p next (if known then 1 else 0) cnt ∧ w.grownBy w' (some bs)) := by
  refine (slit_any w bs pv next st cnt h.sp known).mono ?_
  rintro e w' ⟨rfl, rfl⟩
  exact ⟨rfl, h.turn (grown_setJ _ _ _ _) (SpB.set2 h.sp _), grown_setJ _ _ _ _⟩
theorem ask_spl {w0 w : World} {bs : Nat} {pv : Value} {p : List C} {next : Nat} {cnt : Int} (h : SplR w0 w bs pv p next 1 cnt) (c2 : Int) :
    Calls Tryz.prog 11 #[.pointer (some ⟨bs, 0, none⟩), .int .u64 c2] w fun e w' => e = .returned (.tuple #[.int .u64 next, .bool true]) ∧ Hid (SplR w0 w' bs pv p next 2 c2 ∧ w.grownBy w' (some bs)) := by
  refine (sask_yes w bs pv next cnt h.sp c2).mono ?_
  rintro e w' ⟨rfl, rfl⟩
  have hg := grown_at (grown_setJ w bs 2 (.int .i64 2)) (grown_setJ (w.setCell ⟨bs, 2, none⟩ (.int .i64 2)) bs 3 (.int .u64 c2))
  exact ⟨rfl, h.turn hg (SpB.set3 (SpB.set2 h.sp 2) c2), hg⟩
theorem tell_spl {w0 w w' : World} {bs : Nat} {pv v : Value} {p : List C} {next n' : Nat} {st cnt st' cnt' : Int} {out : List PD} (h : SplR w0 w bs pv p next st cnt) (hT : TellO w w' bs pv v out n' st' cnt') : SplR w0 w' bs pv p n' st' cnt' := by
  obtain ⟨O, _, _, _, hS, hg⟩ := hT
  exact h.turn hg hS
theorem TellO.shape {w w' : World} {bs : Nat} {pv v : Value} {n' : Nat} {st' cnt' : Int} {out : List PD} (hT : TellO w w' bs pv v out n' st' cnt') : ∃ a c, v = .slice a out.length c := by
  obtain ⟨O, h1, h2, _⟩ := hT
  obtain ⟨a, c, e, _, _⟩ := own_shape h2
  exact ⟨a, c, by rw [e, ← h1, List.length_map]⟩
/-- What the page of the examples comes to. -/
theorem ex_row (x4 x6 : IM) (h4 : x4.pi = lawI 4) (h6 : x6.pi = lawI 6) {Zg : List (Nat × Nat)} {Zi : List IM} (hg : StS kfGap [(5, 5)] Zg) (hi : StS kfItem [x4, x6] Zi) : rowD Zg (Zi.map IM.pi) = [PD.ofI (lawI 4), PD.ofG (5, 5), PD.ofI (lawI 6)] := by
  have e1 : Zg = [(5, 5)] := StS.unique hg (StS.self (by simp))
  have n4 : x4.n = 4 := congrArg PI.n h4
  have n6 : x6.n = 6 := congrArg PI.n h6
  have e2 : Zi = [x4, x6] := StS.unique hi (StS.self (by simp [kfItem, n4, n6]))
  rw [e1, e2, List.map_cons, List.map_cons, List.map_nil, h4, h6]
  rw [rowD, if_neg (by decide), rowD, if_pos (by decide), rowD]
  rfl
theorem ex_page : pageP [] 9 7 true [PD.ofI (lawI 4), PD.ofG (5, 5), PD.ofI (lawI 6)] 3 = ([PD.ofI (lawI 4), PD.ofG (5, 5), PD.ofI (lawI 6)], 7, 3) := by kernel_rfl
theorem ex_comes : comesP [] 9 (lawI 7) 7 3 = ([PD.ofI (lawI 7)], 8, 3) := by kernel_rfl
theorem ex_again : comesP [] 9 (lawI 7) 8 3 = ([], 8, 3) := by kernel_rfl
theorem items_lit (w : World) (x y : IM) (h1 : AttrR w x.h x.av) (h2 : AttrR w y.h y.av) : ImR (w.alloc (.cells #[.int .u64 x.n, .int .u64 x.t, .string (strOf x.key), .slice x.ha x.av.length x.hc, .int .u64 y.n, .int .u64 y.t, .string (strOf y.key), .slice y.ha y.av.length y.hc] 49)) (.slice (some ⟨w.heap.size, 0, none⟩) 2 2) [x, y] := by
  have hx := (boxes1 w (.cells #[.int .u64 x.n, .int .u64 x.t, .string (strOf x.key), .slice x.ha x.av.length x.hc, .int .u64 y.n, .int .u64 y.t, .string (strOf y.key), .slice y.ha y.av.length y.hc] 49)).1
  refine ⟨Row.of_own (World.ownsRow_lit (base := w.heap.size) (e := 49) (size := 4) w (imC x ++ imC y).toArray 2 (Nat.le_refl _) (by decide) rfl), fun z hz => ?_⟩
  simp only [List.mem_cons, List.not_mem_nil, or_false] at hz
  rcases hz with rfl | rfl
  · exact h1.ext hx
  · exact h2.ext hx
theorem gaps_lit (w : World) (f g : Nat) : GpR (w.alloc (.cells #[.int .u64 f, .int .u64 g] 51)) (.slice (some ⟨w.heap.size, 0, none⟩) 1 1) [(f, g)] :=
  Row.of_own (World.ownsRow_lit (base := w.heap.size) (e := 51) (size := 2) w (gpC (f, g)).toArray 1 (Nat.le_refl _) (by decide) rfl)
end Go.Proofs.YtaklnpjpndkccaaGreat
