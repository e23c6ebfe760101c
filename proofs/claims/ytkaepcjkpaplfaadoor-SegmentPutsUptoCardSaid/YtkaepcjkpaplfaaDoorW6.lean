/- Records: the splitting of bytes. -/
import Derived.Test.YtkaepcjkpaplfaaDoorW5
import Derived.Maps.AppendAt
import Derived.Laws.EntriesVeiled
namespace Go.Proofs.YtkaepcjkpaplfaaDoor
open Go.RowKit Go.Shelf
attribute [local go_sem] Oper.semAt_some

/-- The record of a range over a function, in a state, no jump pending. -/
def recOf (fn : FuncId) (tmps : Array Value) (ps : Array Tmp) (assign body : Code) (D : Nat) (st : LoopState) : Loop :=
  { state := st, pending := none, fn, tmps, params := ps, assign, body, defers := D }

/-- A range over a function whose body never leaves. -/
theorem range_law {n : Nat} {P : Program} {g : Operand} {ps : Array Tmp} {assign body : Code} {Q : Exit → Act → World → Prop} {a : Act} {w : World} {gf : Nat} {lb : Array Value}
    (hg : a.eval g = .func (.func gf) #[] lb) (eg : ∀ args w, (callFunc gf args).run P w = .ok (.enter gf args) w)
    (h : ∀ fn rc, rc = recOf fn a.tmps ps assign body w.heap.size → CallsIn Fence.wide (n - 1) P gf (#[.func (.yield (w.heap.size + 1)) #[] #[]] ++ lb) ((w.alloc (.deferred (some []))).alloc (.loop (rc .ready))) fun e W =>
      (∃ v, e = .returned v) ∧ W.heap[w.heap.size + 1]? = some (.loop (rc .ready)) ∧
        Q .normal { a with defers := { target := .collected w.heap.size, args := #[] } :: a.defers } (W.putObj (w.heap.size + 1) (.loop (rc .exhausted)))) :
    (Code.rangeFunc g ps assign body).wpIn Fence.wide n P Q a w := by
  refine wpIn_rangeFunc ?_
  intro fn hfn
  have h := h fn _ rfl
  refine ⟨w.heap.size + 1, [{ target := .collected w.heap.size, args := #[] }], (w.alloc (.deferred (some []))).alloc (.loop (recOf fn a.tmps ps assign body w.heap.size .ready)), { target := .fn (.func gf) lb, args := #[.func (.yield (w.heap.size + 1)) #[] #[]] }, (w.alloc (.deferred (some []))).alloc (.loop (recOf fn a.tmps ps assign body w.heap.size .ready)), gf,
    #[.func (.yield (w.heap.size + 1)) #[] #[]] ++ lb, (w.alloc (.deferred (some []))).alloc (.loop (recOf fn a.tmps ps assign body w.heap.size .ready)), ?_, ?_, ?_, ?_, (fun h => by cases h), ?_⟩
  · exact run_enterLoop_outer _ _ _ _ _
  · simp only [resolve, hg]
    simp [go_sem]
  · intro f' hf'; trivial
  · simp [invoke, go_sem, eg]
  · refine h.mono ?_
    rintro e W ⟨⟨v, rfl⟩, hl, hq⟩
    exact ⟨none, _, run_endLoop hl (by simp [recOf]), hq⟩

/-- How a body that never leaves ends. -/
def bodyEnd (l : Nat) (r : LoopState → Loop) (R : Ending → World → Prop) : Exit → Act → World → Prop
  | .normal, _, W2 => W2.heap[l]? = some (.loop (r .busy)) ∧ R (.returned (.bool true)) (W2.putObj l (.loop (r .ready)))
  | _, _, _ => False

theorem round_law {n l : Nat} {P : Program} {args : Array Value} {W : World} {R : Ending → World → Prop} {fn : FuncId} {tmps : Array Value} {ps : Array Tmp} {assign body : Code} {D : Nat} {rc : LoopState → Loop} (hrc : rc = recOf fn tmps ps assign body D)
    (hl : W.heap[l]? = some (.loop (rc .ready))) (hs : args.size = ps.size)
    (h : assign.wpIn (Fence.wide.inRound l) n P (Exit.then (fun a₁ w₁ => w₁ = W ∧
      body.wpIn (Fence.wide.inRound l) n P (bodyEnd l rc R) a₁ (W.putObj l (.loop (rc .busy)))) (fun _ _ _ => False))
      { tmps := (ps.zip args).foldl (fun tmps (t, a) => tmps.setIfInBounds t a) tmps, defers := [] } W) :
    YieldAt Fence.wide n P l args W R := by
  subst hrc
  refine ⟨fn, _, assign, body, run_yield hl hs, roundIn_of_wpIn trivial (wpIn_mono h ?_)⟩
  rintro e a1 w1 hp
  cases e with
  | normal =>
    obtain ⟨rfl, hb⟩ := hp
    refine ⟨_, run_beginRound hl rfl, wpIn_mono hb ?_⟩
    rintro e2 a2 w2 hq
    cases e2 with
    | normal => exact ⟨_, _, run_endRound none hq.1, hq.2⟩
    | ret => exact hq.elim
    | exit id => exact hq.elim
    | goto t => exact hq.elim
    | panic c => exact hq.elim
    | outgrown => exact hq.elim
  | ret => exact hp.elim
  | exit id => exact hp.elim
  | goto t => exact hp.elim
  | panic c => exact hp.elim
  | outgrown => exact hp.elim

theorem frames_any (w : World) (v : Value) (b : List UInt8) (hv : Bytes w v b) :
    Calls Tryd.prog 57 #[v] w fun e W => e = .returned (.func (.func 69) #[] #[.pointer (some ⟨w.heap.size + 2, 0, none⟩), .pointer (some ⟨w.heap.size + 1, 0, none⟩)]) ∧ Ext w W ∧ It w v w.heap.size 0 W ∧ W.heap.size = w.heap.size + 3 := by
  obtain ⟨a, cap, rfl, hc, hm⟩ := hv.shape
  go_enter Tryd.func57, Tryd.ntmps57
  go_wp2
  go_ret
  refine ⟨rfl, ((Ext.refl w).alloc _).alloc _ |>.alloc _, ⟨((Ext.refl w).alloc _).alloc _ |>.alloc _, ((Boxed.new w 34 _).alloc _).alloc _, ?_, ?_⟩, by simp⟩
  · have := (Boxed.new (w.alloc (.cells #[.slice a b.length cap] 34)) 3 (.int .i64 0)).alloc (.cells #[.func (.func 66) #[] #[.pointer (some ⟨w.heap.size, 0, none⟩), .pointer (some ⟨w.heap.size + 1, 0, none⟩)]] 116)
    rwa [World.size_alloc] at this
  · have := Boxed.new ((w.alloc (.cells #[.slice a b.length cap] 34)).alloc (.cells #[.int .i64 0] 3)) 116 (.func (.func 66) #[] #[.pointer (some ⟨w.heap.size, 0, none⟩), .pointer (some ⟨w.heap.size + 1, 0, none⟩)])
    rwa [World.size_alloc, World.size_alloc] at this

/-- The records of a list of slices. -/
def Recs (W : World) (base : Nat) (us : List Value) (rs : List (List UInt8)) : Prop :=
  us.length = rs.length ∧ ∀ (i : Nat) (u : Value) (r : List UInt8), us[i]? = some u → rs[i]? = some r → Rec W base u r

theorem own_not_u8 {W : World} {base n : Nat} {v : Value} {xs : List Value} (h : W.ownsRow base 34 1 v n xs) {k : Nat} (e : some k = v.ownBlock) : ∀ c fr, W.heap[k]? ≠ some (.cells c 5 fr) := by
  intro c fr hc
  rcases h.2 with ⟨rfl, _⟩ | ⟨g, cap, cur, rfl, _, hg, _⟩
  · cases e
  · have : k = g := by simpa [Value.ownBlock] using e
    subst this
    rw [hg] at hc; cases hc
theorem Keeps.mono {S T : Nat → Prop} {W W' : World} (h : Keeps S W W') (hST : ∀ k, S k → T k) : Keeps T W W' :=
  ⟨h.os, h.tape, h.output, h.size, fun k hk hs => h.block k hk (fun e => hs (hST k e))⟩
theorem own_mono {W : World} {base base' : Nat} {e : TypeId} {size n : Nat} {v : Value} {xs : List Value} (h : W.ownsRow base e size v n xs) (hb : base' ≤ base) : W.ownsRow base' e size v n xs := by
  obtain ⟨h1, h2⟩ := h
  refine ⟨h1, ?_⟩
  rcases h2 with h2 | ⟨g, cap, cur, hv, hg, r⟩
  · exact .inl h2
  · exact .inr ⟨g, cap, cur, hv, Nat.le_trans hb hg, r⟩
theorem Recs.mono {W : World} {base base' : Nat} {us : List Value} {rs : List (List UInt8)} (h : Recs W base us rs) (hb : base' ≤ base) : Recs W base' us rs :=
  ⟨h.1, fun i u r h1 h2 => (h.2 i u r h1 h2).mono hb⟩
theorem info34 : (Tryd.prog.info? 34).map (fun i => (i.zero, i.size, i.bytes)) = some (some (.slice none 0 0), 1, 24) := by kernel_rfl

theorem ownsRow_keeps {S : Nat → Prop} {W W' : World} {base : Nat} {e : TypeId} {size n : Nat} {v : Value} {xs : List Value} (h : W.ownsRow base e size v n xs) (hk : Keeps S W W') (hS : ∀ k, S k → some k ≠ v.ownBlock) : W'.ownsRow base e size v n xs := by
  obtain ⟨h1, h2⟩ := h
  refine ⟨h1, ?_⟩
  rcases h2 with h2 | ⟨g, cap, cur, hv, hg, hh, r⟩
  · exact .inl h2
  · exact .inr ⟨g, cap, cur, hv, hg, hk.heap hh (fun e => hS g e (by rw [hv]; rfl)), r⟩
theorem Recs.keeps {S : Nat → Prop} {W W' : World} {base : Nat} {us : List Value} {rs : List (List UInt8)} (h : Recs W base us rs) (hk : Keeps S W W') (hS : ∀ k, S k → k < base ∨ ∀ c fr, W.heap[k]? ≠ some (.cells c 5 fr)) : Recs W' base us rs :=
  ⟨h.1, fun i u r h1 h2 => (h.2 i u r h1 h2).keeps hk hS⟩
theorem Recs.snoc {W : World} {base : Nat} {us : List Value} {rs : List (List UInt8)} (h : Recs W base us rs) {u : Value} {r : List UInt8} (hr : Rec W base u r) : Recs W base (us ++ [u]) (rs ++ [r]) := by
  refine ⟨by simp [h.1], fun i v s h1 h2 => ?_⟩
  rcases Nat.lt_trichotomy i us.length with hi | hi | hi
  · rw [List.getElem?_append_left hi] at h1
    rw [List.getElem?_append_left (by rw [← h.1]; exact hi)] at h2
    exact h.2 i v s h1 h2
  · subst hi
    rw [List.getElem?_append_right (Nat.le_refl _)] at h1
    rw [List.getElem?_append_right (by rw [h.1]; exact Nat.le_refl _)] at h2
    simp [h.1] at h1 h2
    subst h1; subst h2; exact hr
  · rw [List.getElem?_eq_none (by simp; omega)] at h1; cases h1

set_option maxHeartbeats 1000000 in
theorem split_any (w : World) (v : Value) (b : List UInt8) (hv : Bytes w v b) (hn : b.length ≤ 52776558133248) :
    Calls Tryd.prog 36 #[v] w fun e W => ∃ vl us, e = .returned (.tuple #[vl, .int .i64 (splitF b).2]) ∧ W.ownsRow w.heap.size 34 1 vl us.length us ∧ Recs W w.heap.size us (splitF b).1 ∧ Ext w W := by
  obtain ⟨a, cap, rfl, hc, hm⟩ := hv.shape
  refine callsIn_wide (n := 9).1 ?_
  refine callsIn_of_wp_marks Tryd.func36 rfl trivial ?_ rfl
  simp only [Tryd.ntmps36, List.size_toArray, List.length_cons, List.length_nil, Nat.reduceAdd, Nat.reduceSub, Array.replicate_succ, Array.replicate_zero, List.push_toArray, List.append_toArray, List.nil_append, List.cons_append]
  gi_wp2_with fail
  refine ⟨trivial, ?_⟩
  have hx0 : Ext w ((w.alloc (.cells #[.slice none 0 0] 55)).alloc (.cells #[.int .i64 0] 3)) := ((Ext.refl w).alloc _).alloc _
  have hb0 : Boxed ((w.alloc (.cells #[.slice none 0 0] 55)).alloc (.cells #[.int .i64 0] 3)) w.heap.size 55 (.slice none 0 0) := (Boxed.new w 55 _).alloc _
  have hb1 : Boxed ((w.alloc (.cells #[.slice none 0 0] 55)).alloc (.cells #[.int .i64 0] 3)) (w.heap.size + 1) 3 (.int .i64 0) := by have := Boxed.new (w.alloc (.cells #[.slice none 0 0] 55)) 3 (.int .i64 0); rwa [World.size_alloc] at this
  have hsz : ((w.alloc (.cells #[.slice none 0 0] 55)).alloc (.cells #[.int .i64 0] 3)).heap.size = w.heap.size + 2 := by simp
  generalize (w.alloc (.cells #[.slice none 0 0] 55)).alloc (.cells #[.int .i64 0] 3) = Wa at *
  refine CallsIn.mono (callsIn_wide.2 (frames_any Wa _ b (hv.ext hx0))) ?_
  rintro e Wb ⟨rfl, hxb, hI, hszb⟩
  gi_wp2_with fail
  refine range_law (gf := 69) rfl (enters_of Tryd.func69 (by kernel_rfl) rfl) ?_
  intro fn rc hrc
  rw [hsz] at hI hszb
  have hIw : It w (.slice a b.length cap) (w.heap.size + 2) 0 Wb := ⟨hx0.trans hxb, hI.box_, hI.here, hI.next_⟩
  have hszb' : Wb.heap.size = w.heap.size + 5 := by omega
  rw [hszb'] at hrc ⊢
  have HRC := Lib.hid hrc; clear hrc
  have hb0b : Boxed Wb w.heap.size 55 (.slice none 0 0) := (hxb.block w.heap.size (by omega)).trans hb0
  have hb1b : Boxed Wb (w.heap.size + 1) 3 (.int .i64 0) := (hxb.block (w.heap.size + 1) (by omega)).trans hb1
  have hmore : Ext Wb ((Wb.alloc (.deferred (some []))).alloc (.loop (rc .ready))) := ((Ext.refl Wb).alloc _).alloc _
  have hdf : ((Wb.alloc (.deferred (some []))).alloc (.loop (rc .ready))).heap[w.heap.size + 5]? = some (.deferred (some [])) := by
    rw [← hszb']; exact (Below.heap_alloc _ _ _ (by simp)).trans (World.alloc_heap_new Wb _)
  have hlp : ((Wb.alloc (.deferred (some []))).alloc (.loop (rc .ready))).heap[w.heap.size + 6]? = some (.loop (rc .ready)) := by
    have := World.alloc_heap_new (Wb.alloc (.deferred (some []))) (.loop (rc .ready)); rwa [World.size_alloc, hszb'] at this
  have hI2 := hIw.ext' hmore (by omega)
  have hb0c : Boxed ((Wb.alloc (.deferred (some []))).alloc (.loop (rc .ready))) w.heap.size 55 (.slice none 0 0) := (hmore.block w.heap.size (by omega)).trans hb0b
  have hb1c : Boxed ((Wb.alloc (.deferred (some []))).alloc (.loop (rc .ready))) (w.heap.size + 1) 3 (.int .i64 0) := (hmore.block (w.heap.size + 1) (by omega)).trans hb1b
  generalize (Wb.alloc (.deferred (some []))).alloc (.loop (rc .ready)) = Wc at *
  refine CallsIn.mono (iter_any _ (w.heap.size + 5 + 1) w _ b (w.heap.size + 2) hv (by omega) (fun pre W => ∃ vl us, Boxed W w.heap.size 55 vl ∧ W.ownsRow (w.heap.size + 7) 34 1 vl us.length us ∧ Recs W (w.heap.size + 5) us pre ∧
    Boxed W (w.heap.size + 1) 3 (.int .i64 ((frs pre).length : Nat)) ∧ W.heap[w.heap.size + 5]? = some (.deferred (some [])) ∧ W.heap[w.heap.size + 6]? = some (.loop (rc .ready)) ∧ 9 * pre.length ≤ (frs pre).length)
    ?abide ?size ?yield Wc hI2 ?start) ?done
  case abide =>
    rintro pre W W' k ⟨vl, us, h1, h2, h3, h4, h5, h6, h7⟩ hg hk
    have hK : Keeps (fun j => j = w.heap.size + 3) W W' := Keeps.of_grown hg (by rcases hk with rfl | rfl <;> simp <;> omega)
    exact ⟨vl, us, hK.heap h1 (by omega), ownsRow_keeps h2 hK (fun k e1 e2 => by have := (h2.lt k e2.symm).1; omega), h3.keeps hK (fun k e => .inl (by omega)),
      hK.heap h4 (by omega), hK.heap h5 (by omega), hK.heap h6 (by omega), h7⟩
  case size =>
    rintro pre W ⟨vl, us, h1, h2, h3, h4, h5, h6, h7⟩
    have := (Array.getElem?_eq_some_iff.1 h6).1
    omega
  case start => exact ⟨.slice none 0 0, [], hb0c, World.ownsRow_nil _ _ _ _, ⟨rfl, by simp⟩, by simpa [frs] using hb1c, hdf, hlp, by simp⟩
  case done =>
    rintro e W ⟨⟨x, rfl⟩, hx, vl, us, h1, h2, h3, h4, h5, h6, h7⟩
    refine ⟨⟨_, rfl⟩, h6, ?_⟩
    have hK : Keeps (fun j => j = w.heap.size + 6) W (W.putObj (w.heap.size + 5 + 1) (.loop (rc .exhausted))) := Keeps.of_grown (grownBy_putObj' W (w.heap.size + 5 + 1) _) (by simp)
    have hx2 := hK.ext hx (by omega)
    have g1 := hK.heap h1 (by omega)
    have g2 := ownsRow_putObj h2 (.loop (rc .exhausted)) h6 rfl
    have g3 := h3.keeps hK (fun k e => .inr (by rw [e, h6]; simp))
    have g4 := hK.heap h4 (by omega)
    have g5 := hK.heap h5 (by omega)
    generalize W.putObj (w.heap.size + 5 + 1) (.loop (rc .exhausted)) = Wd at *
    have c1 := Boxed.cell g1
    have c4 := Boxed.cell g4
    have hmix : Tryd.prog.follows .mixedOrders = true := by kernel_rfl
    obtain ⟨-, av, capv, hvl, -⟩ := Row.of_own g2
    subst hvl
    gi_wp2_with fail
    refine wpIn_wide.2 ?_
    go_quiet (fail)
    gi_wp2_with fail
    have g5' : (Wd.drewN nq).heap[w.heap.size + 5]? = some (.deferred (some [])) := g5
    refine ⟨by simp, .inl ⟨_, _, rfl, run_takeDeferred g5', ?_⟩⟩
    rw [(split_shape b.length b (Nat.le_refl _)).2.1]
    refine ⟨_, results_tmp2 (fn := Tryd.f36) rfl _ _ _, ?_⟩
    have hK7 : Keeps (fun j => j = w.heap.size + 5) Wd ((Wd.drewN nq).putObj (w.heap.size + 5) (.deferred none)) :=
      (Keeps.of_grown (grown_of_ext (Ext.drewN Wd nq)) (by simp)).trans (Keeps.of_grown (grownBy_putObj' (Wd.drewN nq) (w.heap.size + 5) _) (by simp))
    refine ⟨_, us, rfl, ?_, ?_, ?_⟩
    · exact own_mono (ownsRow_keeps g2 hK7 (fun k e1 e2 => by have := (g2.lt k e2.symm).1; omega)) (by omega)
    · exact (g3.keeps hK7 (fun k e => .inr (by rw [e, g5]; simp))).mono (by omega)
    · exact hK7.ext hx2 (fun k e => by omega)
  case yield =>
    rintro pre q r u W hit ⟨vl, us, h1, h2, h3, h4, h5, h6, h7⟩ hrec hq hgr hqb
    refine round_law HRC.out h6 rfl ?_
    have hK0 : Keeps (fun j => j = w.heap.size ∨ j = w.heap.size + 1 ∨ j = w.heap.size + 6 ∨ some j = vl.ownBlock) W (W.putObj (w.heap.size + 5 + 1) (.loop (rc .busy))) := Keeps.of_grown (grownBy_putObj' W (w.heap.size + 5 + 1) _) (by simp)
    have hb1 := (World.grownBy.block (grownBy_putObj' W (w.heap.size + 5 + 1) (.loop (rc .busy))) w.heap.size (Boxed.lt h1) (by simp only [ne_eq, Option.some.injEq]; omega)).trans h1
    have hb4 := (World.grownBy.block (grownBy_putObj' W (w.heap.size + 5 + 1) (.loop (rc .busy))) (w.heap.size + 1) (Boxed.lt h4) (by simp only [ne_eq, Option.some.injEq]; omega)).trans h4
    have hr2 := ownsRow_putObj h2 (.loop (rc .busy)) h6 rfl
    have hl6 : (W.putObj (w.heap.size + 5 + 1) (.loop (rc .busy))).heap[w.heap.size + 6]? = some (.loop (rc .busy)) := World.putObj_heap_same (Array.getElem?_eq_some_iff.1 h6).1
    generalize W.putObj (w.heap.size + 5 + 1) (.loop (rc .busy)) = W1 at *
    have hbox1 : Boxed W1 w.heap.size 55 vl := hb1
    have hbox4 : Boxed W1 (w.heap.size + 1) 3 (.int .i64 ((frs pre).length : Nat)) := hb4
    have c1 := hbox1.cell
    have f1 := hbox1.frozen
    have c4 := hbox4.cell
    have f4 := hbox4.frozen
    obtain ⟨g, cap2, h4', e1, e2, e3, e4⟩ := id hrec
    have hlt : 9 * pre.length + 9 ≤ b.length := by have := hgr.1; omega
    obtain ⟨i0, hi, hz0, hz1, hz2⟩ := info_parts info34
    have hsz1 := Nat.lt_of_lt_of_le (Array.getElem?_eq_some_iff.1 hl6).1 (Nat.le_refl _)
    have hul := h3.1
    generalize hQ' : q + (r.length + 8) = q' at *
    have HQ' := Lib.hid hQ'; clear hQ'
    subst e4
    gi_wp2_with (gi_at_builtin; refine wpListIn_append_own _ rfl (.tmp 12) (.tmp 14) 55 rfl (w.heap.size + 7) 34 i0 (.slice none 0 0) 1 24 Tryd.underlying55 hi hz0 hz1 hz2 rfl (by decide) vl us.length us rfl (hr2.alloc _) ⟨W1.heap.size, 0, none⟩ 1 1 [_] rfl rfl (cell_one_new _ _ _) (by simp [Value.oneCell']) (by simp only [maxLen]; omega) (by omega) (by simp; omega) ?_; intro v' w1 hown' hgrow hnil; obtain ⟨g', cap', rfl⟩ := ownsRow_succ hown'; have hbox1' := Boxed.kept (hbox1.alloc _) hgrow (hbox1.not_row (by decide) hr2); have hbox4' := Boxed.kept (hbox4.alloc _) hgrow (hbox4.not_row (by decide) hr2); have c1' := hbox1'.cell; have f1' := hbox1'.frozen; have c4' := hbox4'.cell; have f4' := hbox4'.frozen)
    have hob : ∀ k, some k = vl.ownBlock → w.heap.size + 7 ≤ k := fun k e => (h2.lt k e.symm).1
    have hS1 : Keeps (fun j => j = w.heap.size ∨ j = w.heap.size + 1 ∨ some j = vl.ownBlock) W1 w1 :=
      Keeps.trans (Keeps.of_grown (World.grownBy_alloc W1 _ none) (by simp)) (Keeps.of_grown hgrow (fun k e => .inr (.inr e.symm)))
    have hS2 : ∀ x : Value, Keeps (fun j => j = w.heap.size ∨ j = w.heap.size + 1 ∨ some j = vl.ownBlock) w1 (w1.setCell ⟨w.heap.size, 0, none⟩ x) := fun x =>
      Keeps.of_grown (grownBy_setCell' w1 w.heap.size x) (fun k e => by cases e; exact .inl rfl)
    have hS3 : ∀ (x y : Value), Keeps (fun j => j = w.heap.size ∨ j = w.heap.size + 1 ∨ some j = vl.ownBlock) (w1.setCell ⟨w.heap.size, 0, none⟩ x) ((w1.setCell ⟨w.heap.size, 0, none⟩ x).setCell ⟨w.heap.size + 1, 0, none⟩ y) := fun x y =>
      Keeps.of_grown (grownBy_setCell' _ (w.heap.size + 1) y) (fun k e => by cases e; exact .inr (.inl rfl))
    have hS4 := (hS1.trans (hS2 (.slice (some ⟨g', 0, none⟩) (pre.length + 1) cap'))).trans (hS3 _ (.int .i64 (q' : Int)))
    have hbA := (hbox1'.set (.slice (some ⟨g', 0, none⟩) (pre.length + 1) cap')).other (B' := w.heap.size + 1) (by omega) (.int .i64 (q' : Int))
    have hbB := (hbox4'.other (B' := w.heap.size) (by omega) (.slice (some ⟨g', 0, none⟩) (pre.length + 1) cap')).set (.int .i64 (q' : Int))
    have hrw := ownsRow_setCell_below (ownsRow_setCell_below hown' (a := ⟨w.heap.size, 0, none⟩) (by show w.heap.size < _; omega) (.slice (some ⟨g', 0, none⟩) (pre.length + 1) cap')) (a := ⟨w.heap.size + 1, 0, none⟩) (by show w.heap.size + 1 < _; omega) (.int .i64 (q' : Int))
    generalize (w1.setCell ⟨w.heap.size, 0, none⟩ (.slice (some ⟨g', 0, none⟩) (pre.length + 1) cap')).setCell ⟨w.heap.size + 1, 0, none⟩ (.int .i64 (q' : Int)) = W2 at *
    have hl7 : W2.heap[w.heap.size + 6]? = some (.loop (rc .busy)) := hS4.heap hl6 (fun e => by
      rcases e with e | e | e
      · omega
      · omega
      · have := hob _ e; omega)
    refine ⟨hl7, rfl, ?_⟩
    have hK5 : Keeps (fun j => j = w.heap.size ∨ j = w.heap.size + 1 ∨ j = w.heap.size + 6 ∨ some j = vl.ownBlock) W (W2.putObj (w.heap.size + 5 + 1) (.loop (rc .ready))) :=
      (hK0.trans (hS4.mono (fun k e => by
        rcases e with e | e | e
        · exact .inl e
        · exact .inr (.inl e)
        · exact .inr (.inr (.inr e))))).trans (Keeps.of_grown (grownBy_putObj' W2 (w.heap.size + 5 + 1) _) (by simp))
    have hno : ∀ k, (k = w.heap.size ∨ k = w.heap.size + 1 ∨ k = w.heap.size + 6 ∨ some k = vl.ownBlock) → k < w.heap.size + 5 ∨ ∀ c fr, W.heap[k]? ≠ some (.cells c 5 fr) := fun k e => by
      rcases e with e | e | e | e
      · exact .inl (by omega)
      · exact .inl (by omega)
      · exact .inr (by rw [e, h6]; simp)
      · exact .inr (own_not_u8 h2 e)
    have hge : ∀ k, (k = w.heap.size ∨ k = w.heap.size + 1 ∨ k = w.heap.size + 6 ∨ some k = vl.ownBlock) → k = w.heap.size ∨ k = w.heap.size + 1 ∨ w.heap.size + 6 ≤ k := fun k e => by
      rcases e with e | e | e | e
      · exact .inl e
      · exact .inr (.inl e)
      · exact .inr (.inr (by omega))
      · exact .inr (.inr (by have := hob k e; omega))
    refine ⟨hit.keeps hK5 (fun k e => by have := hge k e; omega) (fun e => by have := hge _ e; omega) (fun e => by have := hge _ e; omega) (fun e => by have := hge _ e; omega), .slice (some ⟨g', 0, none⟩) (pre.length + 1) cap', ?_, us ++ [_], ?_, (h3.keeps hK5 hno).snoc (hrec.keeps hK5 hno), ?_, hK5.heap h5 (fun e => by have := hge _ e; omega), ?_, ?_⟩
    · exact hbA.kept (grownBy_putObj' W2 (w.heap.size + 5 + 1) _) (by simp only [ne_eq, Option.some.injEq]; omega)
    · have := ownsRow_putObj hrw (.loop (rc .ready)) hl7 rfl
      rw [List.length_append, List.length_singleton, hul]
      first | exact this | (rw [hul] at this; exact this)
    · have e : (frs (pre ++ [r])).length = q' := by rw [frs_snoc, List.length_append, fr_length, ← HQ'.out]; omega
      rw [e]
      exact hbB.kept (grownBy_putObj' W2 (w.heap.size + 5 + 1) _) (by simp only [ne_eq, Option.some.injEq]; omega)
    · exact World.putObj_heap_same (Array.getElem?_eq_some_iff.1 hl7).1
    · rw [frs_snoc, List.length_append, fr_length]; omega

end Go.Proofs.YtkaepcjkpaplfaaDoor
