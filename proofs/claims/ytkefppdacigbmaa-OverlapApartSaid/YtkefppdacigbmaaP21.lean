/- Apart.
Overlaps, Any.
Example.
con, str of the law of overlapping; an example's contract. -/
import Derived.Sort.CutIn
import Derived.Test.YtkefppdacigbmaaP20
import Derived.Test.YtkefppdacigbmaaP17
namespace Go.Proofs.Ytkefppdacigbmaa
open Go.RowKit Go.Sort Go.Shelf
attribute [local go_sem] Oper.semAt_some

theorem row_keeps {S : Nat → Prop} {W W' : World} {size n : Nat} {v : Value} {xs : List Value} (h : Row W size v n xs) (hk : Keeps S W W') (hS : ∀ k, S k → ∃ r, W.heap[k]? = some (.loop r)) : Row W' size v n xs := by
  obtain ⟨h1, a, cap, e, h3, h4, h5, h6, h7⟩ := h
  refine ⟨h1, a, cap, e, h3, h4, h5, h6, fun j u hj => ?_⟩
  obtain ⟨p, e2, hcl⟩ := h7 j u hj
  refine ⟨p, e2, ?_⟩
  refine (World.cell?_of_block (hk.block _ (World.block_lt_of_cell? W _ hcl) fun hs => ?_)).trans hcl
  obtain ⟨r, hr⟩ := hS _ hs
  simp [World.cell?, hr] at hcl
theorem rgr_keeps {S : Nat → Prop} {W W' : World} {v : Value} {r : Rg} (h : RgR W v r) (hk : Keeps S W W') (hS : ∀ k, S k → ∃ r, W.heap[k]? = some (.loop r)) : RgR W' v r := by
  obtain ⟨a1, c1, a2, c2, a3, c3, e, h1, h2, h3⟩ := h.ex
  exact ⟨a1, c1, a2, c2, a3, c3, e, row_keeps h1 hk hS, row_keeps h2 hk hS, row_keeps h3 hk hS⟩
theorem apart_end {p q : List C} {l : List (List UInt8)} (hl : bothF p q = l) (hm : (mayP p && mayP q) = true) (h : ∀ n ∈ l, ((askedF p n).and (askedF q n)).empty = false) : apartF p q = none := by
  unfold apartF
  rw [hm, hl, if_pos rfl, List.find?_eq_none]
  intro n hn
  rw [h n hn]; exact Bool.false_ne_true
theorem apart_at {p q : List C} {pre rest : List (List UInt8)} {nm : List UInt8} (hl : bothF p q = pre ++ nm :: rest) (hm : (mayP p && mayP q) = true) (h : ∀ n ∈ pre, ((askedF p n).and (askedF q n)).empty = false) (he : ((askedF p nm).and (askedF q nm)).empty = true) : apartF p q = some nm := by
  unfold apartF
  rw [hm, hl, if_pos rfl, List.find?_append, List.find?_eq_none.2 fun n hn => by rw [h n hn]; exact Bool.false_ne_true, Option.none_or, List.find?_cons, he]
theorem loop_put {W : World} {l : Nat} {o : Obj} {o' : Obj} (h : W.heap[l]? = some o) : (W.putObj l o').heap[l]? = some o' := World.putObj_heap_same (Array.getElem?_eq_some_iff.1 h).1

set_option maxRecDepth 100000 in
set_option maxHeartbeats 8000000 in
theorem apart_no (w : World) (vp vq : Value) (p q : List C) (hp : PredR w vp p) (hq : PredR w vq q) (hm : (mayP p && mayP q) = false) :
    Calls Try.prog 45 #[vp, vq] w fun e w' => e = .returned (.tuple #[.string ⟨#[]⟩, .bool false]) ∧ Ext w w' := by
  obtain ⟨ap, cp, rfl, _, _⟩ := hp.shape
  obtain ⟨aq, cq, rfl, _, _⟩ := hq.shape
  obtain ⟨hx0, hb4, hb5⟩ := boxes2 w (.cells #[.string ⟨#[]⟩] 9) (.cells #[.bool false] 4)
  have hmay := may95_any _ _ _ p q (hp.ext hx0) (hq.ext hx0)
  rw [hm] at hmay
  have HM := Lib.hid hmay
  have H4 := Lib.hid hb4
  have H5 := Lib.hid hb5
  clear hmay hm hp hq hb4 hb5
  generalize p.length = pl at *
  generalize q.length = ql at *
  refine callsIn_wide (n := 9).1 ?_
  refine callsIn_of_wp_marks Try.func45 rfl trivial ?_ rfl
  simp only [Try.ntmps45, List.size_toArray, List.length_cons, List.length_nil, Nat.reduceAdd, Nat.reduceSub, Array.replicate_succ, Array.replicate_zero, List.push_toArray, List.append_toArray, List.nil_append, List.cons_append]
  gi_wp2_with fail
  refine ⟨trivial, ?_⟩
  refine CallsIn.mono (callsIn_wide.2 HM.out) ?_
  rintro e W1 ⟨rfl, hx1⟩
  have H4 := Lib.hid (block_later H4.out hx1)
  have H5 := Lib.hid (block_later H5.out hx1)
  have m4 := cell_of_row _ _ 0 _ _ _ H4.out
  have m5 := cell_of_row _ _ 0 _ _ _ H5.out
  have f4 := frozen_row H4.out 0
  have f5 := frozen_row H5.out 0
  have k4 := setCell_block W1 w.heap.size 0 (.string ⟨#[]⟩) _ _ _ H4.out
  have k5 : (W1.setCell ⟨w.heap.size, 0, none⟩ (.string ⟨#[]⟩)).heap[w.heap.size + 1]? = some (.cells #[.bool false] 4 (0, 0)) := (setCell_block_other W1 ⟨w.heap.size, 0, none⟩ _ _ (by show w.heap.size + 1 ≠ w.heap.size; omega)).trans H5.out
  have k6 := setCell_block (W1.setCell ⟨w.heap.size, 0, none⟩ (.string ⟨#[]⟩)) (w.heap.size + 1) 0 (.bool false) _ _ _ k5
  have k7 : ((W1.setCell ⟨w.heap.size, 0, none⟩ (.string ⟨#[]⟩)).setCell ⟨w.heap.size + 1, 0, none⟩ (.bool false)).heap[w.heap.size]? = some (.cells #[.string ⟨#[]⟩] 9 (0, 0)) := (setCell_block_other _ ⟨w.heap.size + 1, 0, none⟩ _ _ (by show w.heap.size ≠ w.heap.size + 1; omega)).trans k4
  have c4 := cell_of_row _ _ 0 _ _ _ k7
  have c5 := cell_of_row _ _ 0 _ _ _ k6
  have hxe : Ext w ((W1.setCell ⟨w.heap.size, 0, none⟩ (.string ⟨#[]⟩)).setCell ⟨w.heap.size + 1, 0, none⟩ (.bool false)) := ((hx0.trans hx1).setCell (p := ⟨w.heap.size, 0, none⟩) (Nat.le_refl _) _).setCell (p := ⟨w.heap.size + 1, 0, none⟩) (Nat.le_succ _) _
  have HC := Lib.hid (And.intro c4 (And.intro c5 hxe))
  clear k4 k5 k6 k7 c4 c5 hxe
  gi_wp2_with fail
  have d4 := HC.out.1
  have d5 := HC.out.2.1
  exact ⟨.tuple #[.string ⟨#[]⟩, .bool false], by simp [results, Try.results45, go_sem, d4, d5], rfl, HC.out.2.2⟩

set_option maxRecDepth 100000 in
set_option maxHeartbeats 16000000 in
theorem apart_yes (w : World) (vp vq : Value) (p q : List C) (hp : PredR w vp p) (hq : PredR w vq q) (kp : ∀ c ∈ p, okC c) (kq : ∀ c ∈ q, okC c) (hm : (mayP p && mayP q) = true) :
    Calls Try.prog 45 #[vp, vq] w fun e w' => e = .returned (.tuple #[.string (strOf ((apartF p q).getD [])), .bool (apartF p q).isSome]) ∧ Ext w w' := by
  obtain ⟨ap, cp, rfl, _, _⟩ := hp.shape
  obtain ⟨aq, cq, rfl, _, _⟩ := hq.shape
  obtain ⟨hx0, hb4, hb5⟩ := boxes2 w (.cells #[.string ⟨#[]⟩] 9) (.cells #[.bool false] 4)
  have hsz : ((w.alloc (.cells #[.string ⟨#[]⟩] 9)).alloc (.cells #[.bool false] 4)).heap.size = w.heap.size + 2 := by simp
  have hmay := may95_any _ _ _ p q (hp.ext hx0) (hq.ext hx0)
  have hmm := hm
  rw [hm] at hmay
  simp only [Bool.and_eq_true] at hmm
  have hlp := may_len hmm.1
  have hlq := may_len hmm.2
  have HMAY := Lib.hid hmay
  have HMM := Lib.hid hm
  have HP := Lib.hid hp
  have HQ := Lib.hid hq
  have H4 := Lib.hid hb4
  have H5 := Lib.hid hb5
  have HLP := Lib.hid hlp
  have HLQ := Lib.hid hlq
  have HSZ := Lib.hid hsz
  clear hmay hm hmm hp hq hb4 hb5 hlp hlq hsz
  generalize hpl : p.length = pl at *
  generalize hql : q.length = ql at *
  have HPL := Lib.hid hpl
  have HQL := Lib.hid hql
  clear hpl hql
  generalize hres : (Value.tuple #[.string (strOf ((apartF p q).getD [])), .bool (apartF p q).isSome]) = res
  have HRES := Lib.hid hres
  clear hres
  refine callsIn_wide (n := 9).1 ?_
  refine callsIn_of_wp_marks Try.func45 rfl trivial ?_ rfl
  simp only [Try.ntmps45, List.size_toArray, List.length_cons, List.length_nil, Nat.reduceAdd, Nat.reduceSub, Array.replicate_succ, Array.replicate_zero, List.push_toArray, List.append_toArray, List.nil_append, List.cons_append]
  gi_wp2_with fail
  refine ⟨trivial, ?_⟩
  refine CallsIn.mono (callsIn_wide.2 HMAY.out) ?_
  rintro e W1 ⟨rfl, hx1⟩
  have hasked := asked96_any W1 _ _ p q (HP.out.ext (hx0.trans hx1)) (HQ.out.ext (hx0.trans hx1)) (by rw [HPL.out]; exact HLP.out) (by rw [HQL.out]; exact HLQ.out)
  have HA := Lib.hid hasked
  clear hasked HMAY
  gi_wp2_with fail
  refine ⟨trivial, ?_⟩
  refine CallsIn.mono (callsIn_wide.2 HA.out) ?_
  rintro e W2 ⟨b5, b6, vn, l0, rfl, hcomp, hl0, hx2, hI, hb5, hbx5⟩
  have h1s : w.heap.size + 2 ≤ W1.heap.size := by have := hx1.size; rw [HSZ.out] at this; exact this
  have hx02 := (hx0.trans hx1).trans hx2
  have k4 := block_later H4.out (hx1.trans hx2)
  have k5 := block_later H5.out (hx1.trans hx2)
  clear HA H4 H5
  gi_wp2_with fail
  refine range_law (gf := 140) rfl (enters_of Try.func140 (by kernel_rfl) rfl) ?_
  intro fn rc hrc
  have HRC := Lib.hid hrc
  clear hrc
  obtain ⟨hx3, hdf, hlp⟩ := boxes2 W2 (.deferred (some [])) (.loop (rc .ready))
  have j4 := block_later k4 hx3
  have j5 := block_later k5 hx3
  have hI3 := hI.keeps (Keeps.of_ext (S := fun _ => False) hx3) (fun _ h => h.elim)
  have hbx := block_later hbx5 hx3
  have hx03 := hx02.trans hx3
  have hhi := hI.lohi.2
  have hlo : W1.heap.size + 2 = W1.heap.size + 2 := rfl
  generalize (W2.alloc (.deferred (some []))).alloc (.loop (rc .ready)) = W3 at *
  generalize hL : W2.heap.size = hi at *
  clear hx3 hI k4 k5 hbx5 hx02 hlo
  refine CallsIn.mono (iter_any _ (hi + 1) w p q _ _ HP.out HQ.out kp kq (W1.heap.size + 2) hi b5 b6 (by omega) vn l0 (bothF p q) hcomp hl0
    (fun pre W => (∀ n ∈ pre, ((askedF p n).and (askedF q n)).empty = false) ∧ W.heap[w.heap.size]? = some (.cells #[.string ⟨#[]⟩] 9 (0, 0)) ∧ W.heap[w.heap.size + 1]? = some (.cells #[.bool false] 4 (0, 0)) ∧ W.heap[hi]? = some (.deferred (some [])) ∧ W.heap[hi + 1]? = some (.loop (rc .ready)))
    (fun W => Ext w W ∧ ∃ nm, apartF p q = some nm ∧ W.heap[w.heap.size]? = some (.cells #[.string (strOf nm)] 9 (0, 0)) ∧ W.heap[w.heap.size + 1]? = some (.cells #[.bool true] 4 (0, 0)) ∧ W.heap[hi]? = some (.deferred (some [])) ∧ W.heap[hi + 1]? = some (.loop (recRet rc .done)))
    ?abide ?yield W3 hx03 hI3 hbx ⟨by simp, j4, j5, hdf, hlp⟩) ?done
  case abide =>
    rintro pre W W' ⟨h1, h2, h3, h4, h5⟩ hk
    exact ⟨h1, hk.heap h2 (by omega), hk.heap h3 (by omega), hk.heap h4 (by omega), hk.heap h5 (by omega)⟩
  case done =>
    rintro e W ⟨⟨x, rfl⟩, ⟨hxw, h1, h2, h3, h4, h5⟩ | ⟨hxw, nm, h1, h2, h3, h4, h5⟩⟩
    · refine ⟨⟨_, rfl⟩, .inl ⟨h5, ?_⟩⟩
      have hr : res = .tuple #[.string ⟨#[]⟩, .bool false] := by rw [← HRES.out, apart_end rfl HMM.out h1]; rfl
      have hK : Keeps (fun k => k = hi + 1) W (W.putObj (hi + 1) (.loop (rc .exhausted))) := Keeps.put _ W _ _ rfl
      have g2 := hK.heap h2 (by omega)
      have g3 := hK.heap h3 (by omega)
      have g4 := hK.heap h4 (by omega)
      have hxk := hK.ext hxw (fun k hk => by have : k = hi + 1 := hk; omega)
      generalize W.putObj (hi + 1) (.loop (rc .exhausted)) = Wd at *
      have m4 := cell_of_row _ _ 0 _ _ _ g2
      have m5 := cell_of_row _ _ 0 _ _ _ g3
      have f4 := frozen_row g2 0
      have f5 := frozen_row g3 0
      have hK2 : Keeps (fun k => k = w.heap.size ∨ k = w.heap.size + 1) Wd ((Wd.setCell ⟨w.heap.size, 0, none⟩ (.string ⟨#[]⟩)).setCell ⟨w.heap.size + 1, 0, none⟩ (.bool false)) := (Keeps.cell _ Wd _ _ (.inl rfl)).trans (Keeps.cell _ _ _ _ (.inr rfl))
      have k4 := setCell_block Wd w.heap.size 0 (.string ⟨#[]⟩) _ _ _ g2
      have k5 : (Wd.setCell ⟨w.heap.size, 0, none⟩ (.string ⟨#[]⟩)).heap[w.heap.size + 1]? = some (.cells #[.bool false] 4 (0, 0)) := (setCell_block_other Wd ⟨w.heap.size, 0, none⟩ _ _ (by show w.heap.size + 1 ≠ w.heap.size; omega)).trans g3
      have k6 := setCell_block (Wd.setCell ⟨w.heap.size, 0, none⟩ (.string ⟨#[]⟩)) (w.heap.size + 1) 0 (.bool false) _ _ _ k5
      have k7 : ((Wd.setCell ⟨w.heap.size, 0, none⟩ (.string ⟨#[]⟩)).setCell ⟨w.heap.size + 1, 0, none⟩ (.bool false)).heap[w.heap.size]? = some (.cells #[.string ⟨#[]⟩] 9 (0, 0)) := (setCell_block_other _ ⟨w.heap.size + 1, 0, none⟩ _ _ (by show w.heap.size ≠ w.heap.size + 1; omega)).trans k4
      have k8 := hK2.heap g4 (by omega)
      have hxe := hK2.ext hxk (fun k hk => by omega)
      have HC := Lib.hid (And.intro k7 (And.intro k6 (And.intro k8 hxe)))
      clear g2 g3 g4 k4 k5 k6 k7 k8 hxe hxk hK hK2
      gi_wp2_with fail
      generalize (Wd.setCell ⟨w.heap.size, 0, none⟩ (.string ⟨#[]⟩)).setCell ⟨w.heap.size + 1, 0, none⟩ (.bool false) = We at *
      have hK3 : Keeps (fun k => k = hi) We (We.putObj hi (.deferred none)) := Keeps.put _ We _ _ rfl
      have d4 := cell_of_row _ _ 0 _ _ _ (hK3.heap HC.out.1 (by omega))
      have d5 := cell_of_row _ _ 0 _ _ _ (hK3.heap HC.out.2.1 (by omega))
      refine ⟨by simp, .inl ⟨_, _, rfl, run_takeDeferred HC.out.2.2.1, ?_⟩⟩
      exact ⟨.tuple #[.string ⟨#[]⟩, .bool false], by simp [results, Try.results45, go_sem, d4, d5], rfl, hK3.ext HC.out.2.2.2 (fun k hk => by have : k = hi := hk; omega)⟩
    · refine ⟨⟨_, rfl⟩, .inr ⟨h5, ?_⟩⟩
      have hr : res = .tuple #[.string (strOf nm), .bool true] := by rw [← HRES.out, h1]; rfl
      have hK : Keeps (fun k => k = hi + 1 ∨ k = hi) W ((W.putObj (hi + 1) (.loop (recRet rc .exhausted))).putObj hi (.deferred none)) := (Keeps.put _ W _ _ (.inl rfl)).trans (Keeps.put _ _ _ _ (.inr rfl))
      have hK1 : Keeps (fun k => k = hi + 1) W (W.putObj (hi + 1) (.loop (recRet rc .exhausted))) := Keeps.put _ W _ _ rfl
      have d4 := cell_of_row _ _ 0 _ _ _ (hK.heap h2 (by omega))
      have d5 := cell_of_row _ _ 0 _ _ _ (hK.heap h3 (by omega))
      refine ⟨by simp, .inl ⟨_, _, rfl, run_takeDeferred (hK1.heap h4 (by omega)), ?_⟩⟩
      rw [hr]
      exact ⟨.tuple #[.string (strOf nm), .bool true], by simp [results, Try.results45, go_sem, d4, d5], rfl, hK.ext hxw (fun k hk => by have : k = hi + 1 ∨ k = hi := hk; omega)⟩
  case yield =>
    rintro pre nm rest vc v W hsp hxw hit ⟨h1, h2, h3, h4, h5⟩ hv
    obtain ⟨a1, c1, a2, c2, a3, c3, rfl, _, _, _⟩ := hv.ex
    have hap := apart_at (pre := pre) (rest := rest) (nm := nm) hsp HMM.out h1
    have HSP := Lib.hid hsp
    clear hsp
    generalize hRR : (askedF p nm).and (askedF q nm) = R at *
    have HRR := Lib.hid hRR
    clear hRR
    refine round_law HRC.out h5 rfl ?_
    obtain ⟨hxa, hbr⟩ := boxes1 W (.cells #[.slice a1 R.i.length c1, .slice a2 R.s.length c2, .slice a3 R.b.length c3, .bool R.odd] 57)
    have hva := hv.ext hxa
    have l5 := block_later h5 hxa
    have hKa : Keeps (fun k => k = hi + 1) (W.alloc (.cells #[.slice a1 R.i.length c1, .slice a2 R.s.length c2, .slice a3 R.b.length c3, .bool R.odd] 57)) ((W.alloc (.cells #[.slice a1 R.i.length c1, .slice a2 R.s.length c2, .slice a3 R.b.length c3, .bool R.odd] 57)).putObj (hi + 1) (.loop (rc .busy))) := Keeps.put _ _ _ _ rfl
    have hvb := rgr_keeps hva hKa (fun k hk => by have : k = hi + 1 := hk; rw [this]; exact ⟨_, l5⟩)
    have hlt : hi + 1 < W.heap.size := (Array.getElem?_eq_some_iff.1 h5).1
    have b2 := hKa.heap (block_later h2 hxa) (by omega)
    have b3 := hKa.heap (block_later h3 hxa) (by omega)
    have b4 := hKa.heap (block_later h4 hxa) (by omega)
    have b5' := loop_put (o' := .loop (rc .busy)) l5
    have bR := hKa.heap hbr (by omega)
    have hitb := (hit.keeps (Keeps.of_ext (S := fun _ => False) hxa) (fun _ h => h.elim)).keeps hKa (fun k hk => by have : k = hi + 1 := hk; omega)
    have hxb := hKa.ext (hxw.trans hxa) (fun k hk => by have : k = hi + 1 := hk; omega)
    have HA2 := Lib.hid (And.intro h1 (And.intro b2 (And.intro b3 (And.intro b4 (And.intro b5' (And.intro hitb hxb))))))
    have HAP := Lib.hid hap
    have HL5 := Lib.hid l5
    have HBR := Lib.hid bR
    have HVB := Lib.hid hvb
    clear h1 h2 h3 h4 h5 hxa hbr hva hKa b2 b3 b4 b5' bR hitb hxb l5 hvb hit hxw hap hv
    gi_wp2_with fail
    refine ⟨HL5.out, ?_⟩
    clear HL5
    generalize (W.alloc (.cells #[.slice a1 R.i.length c1, .slice a2 R.s.length c2, .slice a3 R.b.length c3, .bool R.odd] 57)).putObj (hi + 1) (.loop (rc .busy)) = W5 at *
    generalize W.heap.size = bR at *
    have r0 := cell_of_row _ _ 0 _ _ _ HBR.out
    have r1 := cell_of_row _ _ 1 _ _ _ HBR.out
    have r2 := cell_of_row _ _ 2 _ _ _ HBR.out
    have r3 := cell_of_row _ _ 3 _ _ _ HBR.out
    have hem := empty_any W5 _ R HVB.out
    generalize hE : R.empty = E at *
    have HEM := Lib.hid hem
    have HEE := Lib.hid hE
    clear hem hE
    gi_wp2_with fail
    refine ⟨trivial, ?_⟩
    refine CallsIn.mono (CallsIn.inRound _ (callsIn_wide.2 HEM.out)) ?_
    rintro e W6 ⟨rfl, hx6⟩
    clear r0 r1 r2 r3 HEM
    have b2 := block_later HA2.out.2.1 hx6
    have b3 := block_later HA2.out.2.2.1 hx6
    have b4 := block_later HA2.out.2.2.2.1 hx6
    have b5' := block_later HA2.out.2.2.2.2.1 hx6
    have hit6 := HA2.out.2.2.2.2.2.1.keeps (Keeps.of_ext (S := fun _ => False) hx6) (fun _ h => h.elim)
    have hx7 := HA2.out.2.2.2.2.2.2.trans hx6
    cases E with
    | false =>
      have hK : Keeps (fun k => k = hi + 1) W6 (W6.putObj (hi + 1) (.loop (rc .ready))) := Keeps.put _ _ _ _ rfl
      have e2 := hK.heap b2 (by omega)
      have e3 := hK.heap b3 (by omega)
      have e4 := hK.heap b4 (by omega)
      have e5 := loop_put (o' := .loop (rc .ready)) b5'
      have hit7 := hit6.keeps hK (fun k hk => by have : k = hi + 1 := hk; omega)
      have hx8 := hK.ext hx7 (fun k hk => by have : k = hi + 1 := hk; omega)
      have HC := Lib.hid (And.intro e2 (And.intro e3 (And.intro e4 (And.intro e5 (And.intro hit7 hx8)))))
      have HL := Lib.hid b5'
      clear b2 b3 b4 b5' hit6 hx7 hK e2 e3 e4 e5 hit7 hx8
      gi_wp2_with fail
      refine ⟨HL.out, .inl ⟨rfl, HC.out.2.2.2.2.2, HC.out.2.2.2.2.1, ?_, HC.out.1, HC.out.2.1, HC.out.2.2.1, HC.out.2.2.2.1⟩⟩
      intro n hn
      have hn' : n ∈ pre ∨ n = nm := by simpa using hn
      rcases hn' with hn' | rfl
      · exact HA2.out.1 n hn'
      · rw [HRR.out]; exact HEE.out
    | true =>
      have m4 := cell_of_row _ _ 0 _ _ _ b2
      have m5 := cell_of_row _ _ 0 _ _ _ b3
      have f4 := frozen_row b2 0
      have f5 := frozen_row b3 0
      have hK2 : Keeps (fun k => k = w.heap.size ∨ k = w.heap.size + 1) W6 ((W6.setCell ⟨w.heap.size, 0, none⟩ (.string (strOf nm))).setCell ⟨w.heap.size + 1, 0, none⟩ (.bool true)) := (Keeps.cell _ W6 _ _ (.inl rfl)).trans (Keeps.cell _ _ _ _ (.inr rfl))
      have k4 := setCell_block W6 w.heap.size 0 (.string (strOf nm)) _ _ _ b2
      have k5 : (W6.setCell ⟨w.heap.size, 0, none⟩ (.string (strOf nm))).heap[w.heap.size + 1]? = some (.cells #[.bool false] 4 (0, 0)) := (setCell_block_other W6 ⟨w.heap.size, 0, none⟩ _ _ (by show w.heap.size + 1 ≠ w.heap.size; omega)).trans b3
      have k6 := setCell_block (W6.setCell ⟨w.heap.size, 0, none⟩ (.string (strOf nm))) (w.heap.size + 1) 0 (.bool true) _ _ _ k5
      have k7 : ((W6.setCell ⟨w.heap.size, 0, none⟩ (.string (strOf nm))).setCell ⟨w.heap.size + 1, 0, none⟩ (.bool true)).heap[w.heap.size]? = some (.cells #[.string (strOf nm)] 9 (0, 0)) := (setCell_block_other _ ⟨w.heap.size + 1, 0, none⟩ _ _ (by show w.heap.size ≠ w.heap.size + 1; omega)).trans k4
      have k8 := hK2.heap b4 (by omega)
      have k9 := hK2.heap b5' (by omega)
      have hx8 := hK2.ext hx7 (fun k hk => by omega)
      have hK : Keeps (fun k => k = hi + 1) ((W6.setCell ⟨w.heap.size, 0, none⟩ (.string (strOf nm))).setCell ⟨w.heap.size + 1, 0, none⟩ (.bool true)) (((W6.setCell ⟨w.heap.size, 0, none⟩ (.string (strOf nm))).setCell ⟨w.heap.size + 1, 0, none⟩ (.bool true)).putObj (hi + 1) (.loop (recRet rc .done))) := Keeps.put _ _ _ _ rfl
      have e2 := hK.heap k7 (by omega)
      have e3 := hK.heap k6 (by omega)
      have e4 := hK.heap k8 (by omega)
      have e5 := loop_put (o' := .loop (recRet rc .done)) k9
      have hx9 := hK.ext hx8 (fun k hk => by have : k = hi + 1 := hk; omega)
      have HC := Lib.hid (And.intro e2 (And.intro e3 (And.intro e4 (And.intro e5 hx9))))
      have HL := Lib.hid k9
      clear b2 b3 b4 b5' hit6 hx7 hK2 k4 k5 k6 k7 k8 k9 hx8 hK e2 e3 e4 e5 hx9
      gi_wp2_with fail
      exact ⟨HL.out, .inr ⟨rfl, HC.out.2.2.2.2, nm, HAP.out (by first | rfl | trivial | exact HEE.out), HC.out.1, HC.out.2.1, HC.out.2.2.1, HC.out.2.2.2.1⟩⟩

theorem apart_any (w : World) (vp vq : Value) (p q : List C) (hp : PredR w vp p) (hq : PredR w vq q) (kp : ∀ c ∈ p, okC c) (kq : ∀ c ∈ q, okC c) :
    Calls Try.prog 45 #[vp, vq] w fun e w' => e = .returned (.tuple #[.string (strOf ((apartF p q).getD [])), .bool (apartF p q).isSome]) ∧ Ext w w' := by
  cases hm : (mayP p && mayP q) with
  | true => exact apart_yes w vp vq p q hp hq kp kq hm
  | false =>
    have : apartF p q = none := by unfold apartF; rw [hm]; rfl
    rw [this]
    exact apart_no w vp vq p q hp hq hm
end Go.Proofs.Ytkefppdacigbmaa

namespace Go.Proofs.Ytkefppdacigbmaa
open Go.RowKit

set_option maxRecDepth 100000 in
set_option maxHeartbeats 4000000 in
theorem overlaps_any (w : World) (vp vq : Value) (p q : List C) (hp : PredR w vp p) (hq : PredR w vq q) (kp : ∀ c ∈ p, okC c) (kq : ∀ c ∈ q, okC c) :
    Calls Try.prog 46 #[vp, vq] w fun e w' => e = .returned (.bool (overlapsF p q)) ∧ Ext w w' := by
  obtain ⟨ap, cp, rfl, _, _⟩ := hp.shape
  obtain ⟨aq, cq, rfl, _, _⟩ := hq.shape
  have h1 := apart_any w _ _ p q hp hq kp kq
  have HA := Lib.hid h1
  have HMAY := Lib.hid (fun W (hx : Ext w W) => may95_any W _ _ p q (hp.ext hx) (hq.ext hx))
  have hov : overlapsF p q = ((mayP p && mayP q) && !(apartF p q).isSome) := by unfold overlapsF; cases apartF p q <;> simp
  rw [hov]
  clear h1 hov hp hq kp kq
  generalize (mayP p && mayP q) = m at *
  generalize (apartF p q).isSome = s at *
  generalize strOf ((apartF p q).getD []) = nm at *
  generalize p.length = pl at *
  generalize q.length = ql at *
  cases m <;> cases s <;>
  · go_enter Try.func46, Try.ntmps46
    go_wp2_with fail
    refine HA.out.mono ?_
    rintro e w1 ⟨rfl, hx1⟩
    have H2 := Lib.hid (HMAY.out w1 hx1)
    go_wp2_with fail
    refine H2.out.mono ?_
    rintro e w2 ⟨rfl, hx2⟩
    go_wp2_with fail
    go_ret
    exact ⟨rfl, hx1.trans hx2⟩
theorem overlaps_lit {w : World} {vp vq : Value} {p q : List C} (hp : PredR w vp p) (hq : PredR w vq q) (kp : ∀ c ∈ p, okC c) (kq : ∀ c ∈ q, okC c) {b : Bool} (h : overlapsF p q = b) :
    Calls Try.prog 46 #[vp, vq] w fun e w' => e = .returned (.bool b) ∧ Ext w w' := by
  have := overlaps_any w vp vq p q hp hq kp kq
  rwa [h] at this
set_option maxRecDepth 100000 in
set_option maxHeartbeats 4000000 in
theorem any_lit {w : World} {vp : Value} {p : List C} (hp : PredR w vp p) (kp : ∀ c ∈ p, okC c) {b : Bool} (h : overlapsF p [] = b) :
    Calls Try.prog 51 #[vp] w fun e w' => e = .returned (.bool b) ∧ Ext w w' := by
  obtain ⟨ap, cp, rfl, _, _⟩ := hp.shape
  have h1 := overlaps_lit hp (PredR.nil w) kp (fun c hc => by cases hc) h
  have HA := Lib.hid h1
  clear h1 hp kp h
  generalize p.length = pl at *
  go_enter Try.func51, Try.ntmps51
  go_wp2_with fail
  refine HA.out.mono ?_
  rintro e w1 ⟨rfl, hx1⟩
  go_wp2_with fail
  go_ret
  exact ⟨rfl, hx1⟩
theorem apart_lit {w : World} {vp vq : Value} {p q : List C} (hp : PredR w vp p) (hq : PredR w vq q) (kp : ∀ c ∈ p, okC c) (kq : ∀ c ∈ q, okC c) {o : Option (List UInt8)} (h : apartF p q = o) :
    Calls Try.prog 45 #[vp, vq] w fun e w' => e = .returned (.tuple #[.string (strOf (o.getD [])), .bool o.isSome]) ∧ Ext w w' := by
  have := apart_any w vp vq p q hp hq kp kq
  rwa [h] at this
end Go.Proofs.Ytkefppdacigbmaa

namespace Go.Proofs.Ytkefppdacigbmaa
open Go.RowKit Go.Sort Go.Shelf
attribute [local go_sem] Oper.semAt_some

def exA (p q : List C) (n : List UInt8) : List UInt8 × V := (n, (someR ((askedF p n).and (askedF q n))).1)
def exampleF (p q : List C) : List (List UInt8 × V) := if overlapsF p q then (bothF p q).map (exA p q) else []
theorem attr_cells (w : World) (x : List UInt8 × V) : ∀ j u, (aC x)[j]? = some u → (w.alloc (.cells #[.string (strOf x.1), .int .i64 x.2.k, .int .i64 x.2.n, .string (strOf x.2.s), .bool x.2.b] 52)).cell? ((⟨w.heap.size, 0, none⟩ : Addr).add j) = some u := by
  intro j u hj
  obtain ⟨_, a, cap, e, _, _, _, _, h7⟩ := attr_row w x
  simp only [Value.slice.injEq] at e
  obtain ⟨rfl, _, _⟩ := e
  obtain ⟨p, e2, hcl⟩ := h7 j u hj
  cases e2
  have e3 : ((⟨w.heap.size, 0, none⟩ : Addr).add j) = ⟨w.heap.size, 0 + j, none⟩ := by cases j <;> simp [Addr.add]
  rw [e3]; exact hcl
theorem own_obj {w : World} {base size n b : Nat} {e : TypeId} {v : Value} {xs : List Value} {o : Obj} (h : w.ownsRow base e size v n xs) (hb : w.heap[b]? = some o) (ho : ∀ c t fr, o ≠ .cells c t fr) : v.ownBlock ≠ some b := by
  intro hk
  rcases h.2 with ⟨rfl, _⟩ | ⟨g, cap, cur, rfl, _, hg, _⟩
  · cases hk
  · have : g = b := by simpa [Value.ownBlock] using hk
    subst this
    rw [hb] at hg
    exact ho _ _ _ (Option.some.inj hg)
/-- What a round leaves. -/
structure ExU (w : World) (be hi : Nat) (rc : LoopState → Loop) (p q : List C) (pre : List (List UInt8)) (W : World) : Prop where
  ex : ∃ va, W.heap[w.heap.size]? = some (.cells #[.string ⟨#[]⟩, .slice none 0 0] 26 (0, 0)) ∧ W.heap[be]? = some (.cells #[.string ⟨#[]⟩, va] 26 (0, 0)) ∧ W.ownsRow hi 52 5 va pre.length ((pre.map (exA p q)).flatMap aC) ∧ W.heap[hi]? = some (.deferred (some [])) ∧ W.heap[hi + 1]? = some (.loop (rc .ready))

set_option maxRecDepth 100000 in
set_option maxHeartbeats 8000000 in
theorem example_no (w : World) (vp vq : Value) (p q : List C) (hp : PredR w vp p) (hq : PredR w vq q) (kp : ∀ c ∈ p, okC c) (kq : ∀ c ∈ q, okC c) (h : overlapsF p q = false) :
    Calls Try.prog 50 #[vp, vq] w fun e w' => e = .returned (.tuple #[.agg #[.string ⟨#[]⟩, .slice none 0 0], .bool false]) ∧ Ext w w' := by
  obtain ⟨ap, cp, rfl, _, _⟩ := hp.shape
  obtain ⟨aq, cq, rfl, _, _⟩ := hq.shape
  obtain ⟨hx0, hb4⟩ := boxes1 w (.cells #[.string ⟨#[]⟩, .slice none 0 0] 26)
  have hov := overlaps_lit (hp.ext hx0) (hq.ext hx0) kp kq h
  have HO := Lib.hid hov
  have H4 := Lib.hid hb4
  clear hov h hp hq hb4
  generalize p.length = pl at *
  generalize q.length = ql at *
  go_enter Try.func50, Try.ntmps50
  go_wp2_with fail
  refine HO.out.mono ?_
  rintro e w1 ⟨rfl, hx1⟩
  have H4 := Lib.hid (block_later H4.out hx1)
  go_wp2_with (refine wpList_store_whole 26 (.tmp 4) (.tmp 15) rfl rfl w.heap.size rfl #[.string ⟨#[]⟩, .slice none 0 0] rfl _ 26 H4.out rfl info26s (by simp [Value.oneCell']) ?_)
  have hq := setRow_heap _ _ _ #[.string ⟨#[]⟩, .slice none 0 0] _ _ H4.out
  have g0 := cell_of_row _ _ 0 _ _ _ hq
  have g1 := cell_of_row _ _ 1 _ _ _ hq
  exact bodyPost_ret (v := .tuple #[.agg #[.string ⟨#[]⟩, .slice none 0 0], .bool false]) (by simp [results, Try.results50, go_sem, g0, g1]) rfl ⟨rfl, (hx0.trans hx1).setRow (Nat.le_refl _) _⟩

set_option maxRecDepth 100000 in
set_option maxHeartbeats 16000000 in
theorem example_yes (w : World) (vp vq : Value) (p q : List C) (hp : PredR w vp p) (hq : PredR w vq q) (kp : ∀ c ∈ p, okC c) (kq : ∀ c ∈ q, okC c) (hm : overlapsF p q = true) :
    Calls Try.prog 50 #[vp, vq] w fun e w' => ∃ va, e = .returned (.tuple #[.agg #[.string ⟨#[]⟩, va], .bool true]) ∧ AttrR w' va ((bothF p q).map (exA p q)) ∧ Ext w w' := by
  obtain ⟨ap, cp, rfl, _, _⟩ := hp.shape
  obtain ⟨aq, cq, rfl, _, _⟩ := hq.shape
  obtain ⟨hx0, hb4⟩ := boxes1 w (.cells #[.string ⟨#[]⟩, .slice none 0 0] 26)
  have hsz : (w.alloc (.cells #[.string ⟨#[]⟩, .slice none 0 0] 26)).heap.size = w.heap.size + 1 := by simp
  have hov := overlaps_lit (hp.ext hx0) (hq.ext hx0) kp kq hm
  have hmm := (overlaps_iff _ _).1 hm
  have hlp := may_len hmm.1
  have hlq := may_len hmm.2.1
  have HOV := Lib.hid hov
  have HP := Lib.hid hp
  have HQ := Lib.hid hq
  have H4 := Lib.hid hb4
  have HLP := Lib.hid hlp
  have HLQ := Lib.hid hlq
  have HSZ := Lib.hid hsz
  clear hov hm hmm hp hq hb4 hlp hlq hsz
  generalize hpl : p.length = pl at *
  generalize hql : q.length = ql at *
  have HPL := Lib.hid hpl
  have HQL := Lib.hid hql
  clear hpl hql
  refine callsIn_wide (n := 9).1 ?_
  refine callsIn_of_wp_marks Try.func50 rfl trivial ?_ rfl
  simp only [Try.ntmps50, List.size_toArray, List.length_cons, List.length_nil, Nat.reduceAdd, Nat.reduceSub, Array.replicate_succ, Array.replicate_zero, List.push_toArray, List.append_toArray, List.nil_append, List.cons_append]
  gi_wp2_with fail
  refine ⟨trivial, ?_⟩
  refine CallsIn.mono (callsIn_wide.2 HOV.out) ?_
  rintro e W0 ⟨rfl, hx0b⟩
  obtain ⟨hx1, hbe⟩ := boxes1 W0 (.cells #[.string ⟨#[]⟩, .slice none 0 0] 26)
  have hx01 := (hx0.trans hx0b).trans hx1
  have k4 := block_later H4.out (hx0b.trans hx1)
  have h0s : w.heap.size + 1 ≤ W0.heap.size := by have := hx0b.size; rw [HSZ.out] at this; exact this
  have hs1 : (W0.alloc (.cells #[.string ⟨#[]⟩, .slice none 0 0] 26)).heap.size = W0.heap.size + 1 := by simp
  have hasked := asked96_any _ _ _ p q (HP.out.ext hx01) (HQ.out.ext hx01) (by rw [HPL.out]; exact HLP.out) (by rw [HQL.out]; exact HLQ.out)
  have HA := Lib.hid hasked
  have K4 := Lib.hid k4
  have KE := Lib.hid hbe
  have HS1 := Lib.hid hs1
  clear hasked HOV k4 hbe hs1
  gi_wp2_with fail
  refine ⟨trivial, ?_⟩
  refine CallsIn.mono (callsIn_wide.2 HA.out) ?_
  clear HA
  generalize W0.alloc (.cells #[.string ⟨#[]⟩, .slice none 0 0] 26) = W1 at *
  generalize hbee : W0.heap.size = be at *
  rintro e W2 ⟨b5, b6, vn, l0, rfl, hcomp, hl0, hx2, hI, hb5, hbx5⟩
  have h1s : W1.heap.size = be + 1 := HS1.out
  have hx02 := hx01.trans hx2
  have k4 := block_later K4.out hx2
  have ke := block_later KE.out hx2
  clear H4 K4 KE hx1 hx0b hbee HS1
  gi_wp2_with fail
  refine range_law (gf := 140) rfl (enters_of Try.func140 (by kernel_rfl) rfl) ?_
  intro fn rc hrc
  have HRC := Lib.hid hrc
  clear hrc
  obtain ⟨hx3, hdf, hlp⟩ := boxes2 W2 (.deferred (some [])) (.loop (rc .ready))
  have j4 := block_later k4 hx3
  have je := block_later ke hx3
  have hI3 := hI.keeps (Keeps.of_ext (S := fun _ => False) hx3) (fun _ h => h.elim)
  have hbx := block_later hbx5 hx3
  have hx03 := hx02.trans hx3
  have hhi := hI.lohi.2
  have hnl : (bothF p q).length ≤ 1000000 := by rw [← hcomp]; exact Nat.le_trans (compE_len _ l0 (Nat.le_refl _)) hl0
  generalize (W2.alloc (.deferred (some []))).alloc (.loop (rc .ready)) = W3 at *
  generalize hL : W2.heap.size = hi at *
  clear hx3 hI k4 ke hbx5 hx02
  refine CallsIn.mono (iter_any _ (hi + 1) w p q _ _ HP.out HQ.out kp kq (W1.heap.size + 2) hi b5 b6 (by omega) vn l0 (bothF p q) hcomp hl0
    (ExU w be hi rc p q)
    (fun _ => False)
    ?abide ?yield W3 hx03 hI3 hbx ⟨⟨.slice none 0 0, j4, je, World.ownsRow_nil _ _ _ _, hdf, hlp⟩⟩) ?done
  case abide =>
    rintro pre W W' ⟨va, h1, h2, h3, h4, h5⟩ hk
    exact ⟨va, hk.heap h1 (by omega), hk.heap h2 (by omega), own_keeps h3 hk fun k hs e => by have := own_base h3 k e; omega, hk.heap h4 (by omega), hk.heap h5 (by omega)⟩
  case done =>
    rintro e W ⟨⟨x, rfl⟩, ⟨hxw, va, h1, h2, h3, h4, h5⟩ | hf⟩
    · refine ⟨⟨_, rfl⟩, .inl ⟨h5, ?_⟩⟩
      have hK : Keeps (fun k => k = hi + 1) W (W.putObj (hi + 1) (.loop (rc .exhausted))) := Keeps.put _ W _ _ rfl
      have g1 := hK.heap h1 (by omega)
      have g2 := hK.heap h2 (by omega)
      have g3 : (W.putObj (hi + 1) (.loop (rc .exhausted))).ownsRow hi 52 5 va (bothF p q).length (((bothF p q).map (exA p q)).flatMap aC) := ownsRow_putObj h3 (.loop (rc .exhausted)) h5 rfl
      have g4 := hK.heap h4 (by omega)
      have hxk := hK.ext hxw (fun k hk => by have : k = hi + 1 := hk; omega)
      generalize W.putObj (hi + 1) (.loop (rc .exhausted)) = Wd at *
      obtain ⟨aa, ac, rfl, _, _⟩ := Row.shape (own_row g3)
      have m0 := cell_of_row _ _ 0 _ _ _ g2
      have m1 := cell_of_row _ _ 1 _ _ _ g2
      have HG := Lib.hid (And.intro g1 (And.intro g3 (And.intro g4 hxk)))
      have H1 := Lib.hid g1
      generalize hbl : (bothF p q).length = bl at *
      have HBL := Lib.hid hbl
      clear hK g1 g2 g3 g4 hxk h1 h2 h3 h4 h5 hbl
      gi_upto_region 9 with fail
      refine wpIn_wide.2 ?_
      go_wp2_with (refine wpList_store_whole 26 (.tmp 4) (.tmp 34) rfl rfl w.heap.size rfl #[.string ⟨#[]⟩, .slice aa bl ac] rfl _ 26 H1.out rfl info26s (by simp [Value.oneCell']) ?_)
      gi_wp2_with fail
      have hq := setRow_heap _ _ _ #[.string ⟨#[]⟩, .slice aa bl ac] _ _ H1.out
      have hK2 : Keeps (fun k => k = w.heap.size) Wd (Wd.setRow w.heap.size #[.string ⟨#[]⟩, .slice aa bl ac]) := Keeps.row _ Wd _ _ rfl
      have hK3 : Keeps (fun k => k = hi) (Wd.setRow w.heap.size #[.string ⟨#[]⟩, .slice aa bl ac]) ((Wd.setRow w.heap.size #[.string ⟨#[]⟩, .slice aa bl ac]).putObj hi (.deferred none)) := Keeps.put _ _ _ _ rfl
      have d := hK3.heap hq (by omega)
      have g0 := cell_of_row _ _ 0 _ _ _ d
      have g1 := cell_of_row _ _ 1 _ _ _ d
      have hxe := hK3.ext (hK2.ext HG.out.2.2.2 (fun k hk => by have : k = w.heap.size := hk; omega)) (fun k hk => by have : k = hi := hk; omega)
      have ho2 := own_keeps HG.out.2.1 hK2 fun k hs e => by have := own_base HG.out.2.1 k e; have : k = w.heap.size := hs; omega
      have hd2 := hK2.heap HG.out.2.2.1 (by omega)
      have ho3 := own_keeps ho2 hK3 fun k hs e => by
        have hs' : k = hi := hs
        subst hs'
        rcases ho2.2 with ⟨e0, _⟩ | ⟨g, cap, cur, e0, _, hg, _⟩
        · rw [e0] at e; cases e
        · rw [e0] at e
          have : g = k := by simpa [Value.ownBlock] using e
          subst this
          rw [hd2] at hg; cases hg
      refine ⟨by simp, .inl ⟨_, _, rfl, run_takeDeferred hd2, ?_⟩⟩
      refine ⟨.tuple #[.agg #[.string ⟨#[]⟩, .slice aa bl ac], .bool true], by simp [results, Try.results50, go_sem, g0, g1], .slice aa bl ac, rfl, ?_, hxe⟩
      have hr := own_row ho3
      rw [← HBL.out] at hr ⊢
      show Row _ 5 _ ((bothF p q).map (exA p q)).length _
      rw [List.length_map]; exact hr
    · exact hf.elim
  case yield =>
    rintro pre nm rest vc v W hsp hxw hit ⟨va, h1, h2, h3, h4, h5⟩ hv
    obtain ⟨a1, c1, a2, c2, a3, c3, rfl, _, _, _⟩ := hv.ex
    have hpl : pre.length < 1000000 := by
      have e := congrArg List.length hsp
      simp only [List.length_append, List.length_cons] at e
      omega
    have hgood := apart_good p q nm
    have hnx : ((pre ++ [nm]).map (exA p q)).flatMap aC = (pre.map (exA p q)).flatMap aC ++ aC (exA p q nm) := by simp
    have HSP := Lib.hid hsp
    have HNX := Lib.hid hnx
    clear hsp hnx
    have hexa : exA p q nm = (nm, (someR ((askedF p nm).and (askedF q nm))).1) := rfl
    rw [hexa] at HNX
    clear hexa
    generalize (askedF p nm).and (askedF q nm) = R at *
    refine round_law HRC.out h5 rfl ?_
    obtain ⟨hxa, hbr⟩ := boxes1 W (.cells #[.slice a1 R.i.length c1, .slice a2 R.s.length c2, .slice a3 R.b.length c3, .bool R.odd] 57)
    have hva := hv.ext hxa
    have l5 := block_later h5 hxa
    have hKa : Keeps (fun k => k = hi + 1) (W.alloc (.cells #[.slice a1 R.i.length c1, .slice a2 R.s.length c2, .slice a3 R.b.length c3, .bool R.odd] 57)) ((W.alloc (.cells #[.slice a1 R.i.length c1, .slice a2 R.s.length c2, .slice a3 R.b.length c3, .bool R.odd] 57)).putObj (hi + 1) (.loop (rc .busy))) := Keeps.put _ _ _ _ rfl
    have hvb := rgr_keeps hva hKa (fun k hk => by have : k = hi + 1 := hk; rw [this]; exact ⟨_, l5⟩)
    have hlt : hi + 1 < W.heap.size := (Array.getElem?_eq_some_iff.1 h5).1
    have b1 := hKa.heap (block_later h1 hxa) (by omega)
    have b2 := hKa.heap (block_later h2 hxa) (by omega)
    have b3 := ownsRow_putObj (own_ext h3 hxa) (.loop (rc .busy)) l5 rfl
    have b4 := hKa.heap (block_later h4 hxa) (by omega)
    have b5' := loop_put (o' := .loop (rc .busy)) l5
    have bR := hKa.heap hbr (by omega)
    have hitb := (hit.keeps (Keeps.of_ext (S := fun _ => False) hxa) (fun _ h => h.elim)).keeps hKa (fun k hk => by have : k = hi + 1 := hk; omega)
    have hxb := hKa.ext (hxw.trans hxa) (fun k hk => by have : k = hi + 1 := hk; omega)
    have HA2 := Lib.hid (And.intro b1 (And.intro b2 (And.intro b3 (And.intro b4 (And.intro b5' (And.intro hitb hxb))))))
    have HL5 := Lib.hid l5
    have HBR := Lib.hid bR
    have HVB := Lib.hid hvb
    have HGOOD := Lib.hid hgood
    clear h1 h2 h3 h4 h5 hxa hbr hva hKa b1 b2 b3 b4 b5' bR hitb hxb l5 hvb hit hxw hv hgood
    gi_wp2_with fail
    refine ⟨HL5.out, ?_⟩
    clear HL5
    generalize (W.alloc (.cells #[.slice a1 R.i.length c1, .slice a2 R.s.length c2, .slice a3 R.b.length c3, .bool R.odd] 57)).putObj (hi + 1) (.loop (rc .busy)) = W5 at *
    generalize W.heap.size = bR at *
    have r0 := cell_of_row _ _ 0 _ _ _ HBR.out
    have r1 := cell_of_row _ _ 1 _ _ _ HBR.out
    have r2 := cell_of_row _ _ 2 _ _ _ HBR.out
    have r3 := cell_of_row _ _ 3 _ _ _ HBR.out
    have hem := some_any W5 _ R HVB.out HGOOD.out
    generalize someR R = st at *
    have HEM := Lib.hid hem
    clear hem
    gi_wp2_with fail
    refine ⟨trivial, ?_⟩
    refine CallsIn.mono (CallsIn.inRound _ (callsIn_wide.2 HEM.out)) ?_
    rintro e W6 ⟨rfl, hx6⟩
    clear r0 r1 r2 r3 HEM
    obtain ⟨hx7, hb28⟩ := boxes1 W6 (.cells #[.int .i64 st.1.k, .int .i64 st.1.n, .string (strOf st.1.s), .bool st.1.b] 28)
    have hx57 := hx6.trans hx7
    have b1 := block_later HA2.out.1 hx57
    have b2 := block_later HA2.out.2.1 hx57
    have b3 := own_ext HA2.out.2.2.1 hx57
    have b4 := block_later HA2.out.2.2.2.1 hx57
    have b5' := block_later HA2.out.2.2.2.2.1 hx57
    have hit6 := HA2.out.2.2.2.2.2.1.keeps (Keeps.of_ext (S := fun _ => False) hx57) (fun _ h => h.elim)
    have hx8 := HA2.out.2.2.2.2.2.2.trans hx57
    have m1 := cell_of_row _ _ 1 _ _ _ b2
    have n0 := cell_of_row _ _ 0 _ _ _ hb28
    have n1 := cell_of_row _ _ 1 _ _ _ hb28
    have n2 := cell_of_row _ _ 2 _ _ _ hb28
    have n3 := cell_of_row _ _ 3 _ _ _ hb28
    gi_upto_region 8 with fail
    generalize W6.alloc (.cells #[.int .i64 st.1.k, .int .i64 st.1.n, .string (strOf st.1.s), .bool st.1.b] 28) = W7 at *
    generalize W6.heap.size = b28 at *
    obtain ⟨i0, hi0, hz0, hz1, hz2⟩ := info_parts info52t
    have hbase : hi ≤ W7.heap.size := by have := (Array.getElem?_eq_some_iff.1 b4).1; omega
    obtain ⟨hx9, _⟩ := boxes1 W7 (.cells #[.string (strOf nm), .int .i64 st.1.k, .int .i64 st.1.n, .string (strOf st.1.s), .bool st.1.b] 52)
    have c1 := block_later b1 hx9
    have c2 := block_later b2 hx9
    have c3 := own_ext b3 hx9
    have c4 := block_later b4 hx9
    have c5 := block_later b5' hx9
    have hit7 := hit6.keeps (Keeps.of_ext (S := fun _ => False) hx9) (fun _ h => h.elim)
    have hx10 := hx8.trans hx9
    have hbase2 := Nat.le_trans hbase hx9.size
    have hac := attr_cells W7 (nm, st.1)
    have HC1 := Lib.hid c1
    have HC2 := Lib.hid c2
    have HC3 := Lib.hid c3
    have HC4 := Lib.hid c4
    have HC5 := Lib.hid c5
    have HIT := Lib.hid hit7
    have HAC := Lib.hid hac
    have HI0 := Lib.hid hi0
    have HZ0 := Lib.hid hz0
    have HZ1 := Lib.hid hz1
    have HZ2 := Lib.hid hz2
    clear b1 b2 b3 b4 b5' hit6 hx8 hx9 hx57 hx6 hx7 hb28 c1 c2 c3 c4 c5 hit7 hac hi0 hz0 hz1 hz2
    gi_wp2_with (gi_at_builtin; go_loud (refine wpListIn_append_own _ rfl (.tmp 27) (.tmp 31) 24 rfl hi 52 i0 _ 5 56 Try.underlying24 HI0.out HZ0.out HZ1.out HZ2.out rfl (by decide) va pre.length ((pre.map (exA p q)).flatMap aC) rfl HC3.out ⟨W7.heap.size, 0, none⟩ 1 1 (aC (nm, st.1)) rfl rfl HAC.out (aC_one _) (by unfold maxLen; omega) (by omega) hbase2 ?_); intro v' w' hown2 hg _; obtain ⟨nb1, nb2, rfl, _, _⟩ := Row.shape (own_row hown2); have HO2 := Lib.hid hown2; have HG := Lib.hid hg; have d2 := (hg.block be (Array.getElem?_eq_some_iff.1 HC2.out).1 (fun e => own_ne HC3.out HC2.out (by decide) e.symm)).trans HC2.out; have dm := cell_of_row _ _ 1 _ _ _ d2; have df := frozen_row d2 1; have HD2 := Lib.hid d2; clear hown2 hg d2)
    have d1 := (HG.out.block w.heap.size (Array.getElem?_eq_some_iff.1 HC1.out).1 (fun e => own_ne HC3.out HC1.out (by decide) e.symm)).trans HC1.out
    have d4 := (HG.out.block hi (Array.getElem?_eq_some_iff.1 HC4.out).1 (fun e => own_obj HC3.out HC4.out (by intro c t fr e; cases e) e.symm)).trans HC4.out
    have d5 := (HG.out.block (hi + 1) (Array.getElem?_eq_some_iff.1 HC5.out).1 (fun e => own_obj HC3.out HC5.out (by intro c t fr e; cases e) e.symm)).trans HC5.out
    have hbs := own_base HC3.out
    have hit8 := HIT.out.keeps (Keeps.of_grown HG.out (S := fun k => hi ≤ k) fun k e => hbs k e) (fun k hk => .inr hk)
    have hx11 := (Keeps.of_grown HG.out (S := fun k => hi ≤ k) fun k e => hbs k e).ext hx10 (fun k hk => by omega)
    have hKs : Keeps (fun k => k = be) w' (w'.setCell ⟨be, 1, none⟩ (.slice nb1 (pre.length + 1) nb2)) := Keeps.of_grown (row := some be) ⟨rfl, rfl, rfl, by simp, fun k _ hk => setCell_block_other w' ⟨be, 1, none⟩ _ k (fun e => hk (by rw [e]))⟩ (fun k e => by cases e; rfl)
    have e1 := hKs.heap d1 (by omega)
    have e2 := setCell_block w' be 1 (.slice nb1 (pre.length + 1) nb2) _ _ _ HD2.out
    have e3 := own_cell HO2.out HD2.out (by decide) 1 (.slice nb1 (pre.length + 1) nb2)
    have e4 := hKs.heap d4 (by omega)
    have e5 := hKs.heap d5 (by omega)
    have hit9 := hit8.keeps hKs (fun k hk => by have : k = be := hk; omega)
    have hx12 := hKs.ext hx11 (fun k hk => by have : k = be := hk; omega)
    generalize w'.setCell ⟨be, 1, none⟩ (.slice nb1 (pre.length + 1) nb2) = We at *
    have hKp : Keeps (fun k => k = hi + 1) We (We.putObj (hi + 1) (.loop (rc .ready))) := Keeps.put _ _ _ _ rfl
    have g1 := hKp.heap e1 (by omega)
    have g2 := hKp.heap e2 (by omega)
    have g3 := ownsRow_putObj e3 (.loop (rc .ready)) e5 rfl
    have g4 := hKp.heap e4 (by omega)
    have g5 := loop_put (o' := .loop (rc .ready)) e5
    have hl : (pre ++ [nm]).length = pre.length + 1 := by simp
    refine ⟨e5, rfl, hKp.ext hx12 (fun k hk => by have : k = hi + 1 := hk; omega), by have hz := hit9.keeps hKp (fun k hk => by have : k = hi + 1 := hk; omega); rw [h1s] at hz; exact hz, ⟨_, g1, g2, ?_, g4, g5⟩⟩
    rw [HNX.out, hl]
    exact g3

theorem example_any (w : World) (vp vq : Value) (p q : List C) (hp : PredR w vp p) (hq : PredR w vq q) (kp : ∀ c ∈ p, okC c) (kq : ∀ c ∈ q, okC c) :
    Calls Try.prog 50 #[vp, vq] w fun e w' => ∃ va, e = .returned (.tuple #[.agg #[.string ⟨#[]⟩, va], .bool (overlapsF p q)]) ∧ AttrR w' va (exampleF p q) ∧ Ext w w' := by
  unfold exampleF
  cases h : overlapsF p q with
  | true => exact example_yes w vp vq p q hp hq kp kq h
  | false =>
    refine (example_no w vp vq p q hp hq kp kq h).mono ?_
    rintro e w' ⟨rfl, hx⟩
    exact ⟨_, rfl, Row.nil _ _, hx⟩
end Go.Proofs.Ytkefppdacigbmaa

namespace Go.Proofs.Ytkefppdacigbmaa
open Go.RowKit

set_option maxRecDepth 100000 in
set_option maxHeartbeats 2000000 in
theorem con52_any (w : World) (s : ByteArray) (op n : Int) : Calls Try.prog 52 #[.string s, .int .i64 op, .int .i64 n] w fun e w' => e = .returned (.agg #[.string s, .int .i64 op, .int .i64 1, .int .i64 n, .string ⟨#[]⟩, .bool false, .slice none 0 0]) ∧ Ext w w' := by
  obtain ⟨hx0, hT⟩ := boxes1 w (.cells #[.string ⟨#[]⟩, .int .i64 0, .int .i64 0, .int .i64 0, .string ⟨#[]⟩, .bool false, .slice none 0 0] 31)
  have HT := Lib.hid hT
  clear hT
  go_enter Try.func52, Try.ntmps52
  go_wp2_with fail
  refine (number_any _ n).mono ?_
  rintro e y ⟨rfl, hy⟩
  have HT := Lib.hid (block_later HT.out hy.1)
  have hxw := hx0.trans hy.1
  clear hy hx0
  go_wp2_with (refine wpList_store_whole 31 (.tmp 6) (.tmp 11) rfl rfl w.heap.size rfl #[.string s, .int .i64 op, .int .i64 1, .int .i64 n, .string (strOf []), .bool false, .slice none 0 0] rfl _ 31 HT.out rfl size31 (by simp [Value.oneCell']) ?_)
  have hq := setRow_heap _ _ _ #[.string s, .int .i64 op, .int .i64 1, .int .i64 n, .string (strOf []), .bool false, .slice none 0 0] _ _ HT.out
  have g0 := cell_of_row _ _ 0 _ _ _ hq
  have g1 := cell_of_row _ _ 1 _ _ _ hq
  have g2 := cell_of_row _ _ 2 _ _ _ hq
  have g3 := cell_of_row _ _ 3 _ _ _ hq
  have g4 := cell_of_row _ _ 4 _ _ _ hq
  have g5 := cell_of_row _ _ 5 _ _ _ hq
  have g6 := cell_of_row _ _ 6 _ _ _ hq
  refine bodyPost_ret (v := .agg #[.string s, .int .i64 op, .int .i64 1, .int .i64 n, .string (strOf []), .bool false, .slice none 0 0]) (by simp [results, Try.results52, go_sem, g0, g1, g2, g3, g4, g5, g6]) rfl ⟨rfl, hxw.setRow (Nat.le_refl _) _⟩

set_option maxRecDepth 100000 in
set_option maxHeartbeats 2000000 in
theorem str49_any (w : World) (s : ByteArray) (op : Int) (t : ByteArray) : Calls Try.prog 49 #[.string s, .int .i64 op, .string t] w fun e w' => e = .returned (.agg #[.string s, .int .i64 op, .int .i64 2, .int .i64 0, .string t, .bool false, .slice none 0 0]) ∧ Ext w w' := by
  obtain ⟨hx0, hT⟩ := boxes1 w (.cells #[.string ⟨#[]⟩, .int .i64 0, .int .i64 0, .int .i64 0, .string ⟨#[]⟩, .bool false, .slice none 0 0] 31)
  have hwd := fun W => word_any W t.data.toList
  rw [strOf_of] at hwd
  have HWD := Lib.hid hwd
  have HT := Lib.hid hT
  clear hT hwd
  go_enter Try.func49, Try.ntmps49
  go_wp2_with fail
  refine (HWD.out _).mono ?_
  rintro e y ⟨rfl, hy⟩
  have HT := Lib.hid (block_later HT.out hy.1)
  have hxw := hx0.trans hy.1
  clear hy hx0
  go_wp2_with (refine wpList_store_whole 31 (.tmp 6) (.tmp 11) rfl rfl w.heap.size rfl #[.string s, .int .i64 op, .int .i64 2, .int .i64 0, .string t, .bool false, .slice none 0 0] rfl _ 31 HT.out rfl size31 (by simp [Value.oneCell']) ?_)
  have hq := setRow_heap _ _ _ #[.string s, .int .i64 op, .int .i64 2, .int .i64 0, .string t, .bool false, .slice none 0 0] _ _ HT.out
  have g0 := cell_of_row _ _ 0 _ _ _ hq
  have g1 := cell_of_row _ _ 1 _ _ _ hq
  have g2 := cell_of_row _ _ 2 _ _ _ hq
  have g3 := cell_of_row _ _ 3 _ _ _ hq
  have g4 := cell_of_row _ _ 4 _ _ _ hq
  have g5 := cell_of_row _ _ 5 _ _ _ hq
  have g6 := cell_of_row _ _ 6 _ _ _ hq
  refine bodyPost_ret (v := .agg #[.string s, .int .i64 op, .int .i64 2, .int .i64 0, .string t, .bool false, .slice none 0 0]) (by simp [results, Try.results49, go_sem, g0, g1, g2, g3, g4, g5, g6]) rfl ⟨rfl, hxw.setRow (Nat.le_refl _) _⟩

theorem example_lit {w : World} {vp vq : Value} {p q : List C} (hp : PredR w vp p) (hq : PredR w vq q) (kp : ∀ c ∈ p, okC c) (kq : ∀ c ∈ q, okC c) {L : List (List UInt8 × V)} {b : Bool} {n : Nat} (h : exampleF p q = L) (hb : overlapsF p q = b) (hn : L.length = n) :
    Calls Try.prog 50 #[vp, vq] w fun e w' => ∃ aa cc, e = .returned (.tuple #[.agg #[.string ⟨#[]⟩, .slice aa n cc], .bool b]) ∧ AttrR w' (.slice aa n cc) L ∧ Ext w w' := by
  refine (example_any w vp vq p q hp hq kp kq).mono ?_
  rw [h, hb]
  rintro e w' ⟨va, rfl, ha, hx⟩
  obtain ⟨aa, cc, rfl, _, _⟩ := Row.shape ha
  simp only [hn] at ha ⊢
  exact ⟨aa, cc, rfl, ha, hx⟩
end Go.Proofs.Ytkefppdacigbmaa
