/- The walk through MatchAll. -/
import Derived.Test.YtckigoeomkphhaaGreatPk12
import Derived.Test.YtckigoeomkphhaaGreatPk13
namespace Go.Proofs.YtckigoeomkphhaaGreat
open Go.RowKit Go.MapKept

theorem wpList_minX {P : Program} {ops : Array Oper} {Q : Exit → Act → World → Prop} {a : Act} {w : World} {rest : List Oper} {o : Oper} (x y : Operand) (ts : Array TypeId)
    (ho : o.op = .call { callee := .builtin .min, args := #[x, y], argTypes := ts }) (hw : Region.wanted o (yielded ops a.tmps) = true) (p q : Int) (r : Nat)
    (hx : a.eval x = .int .i64 p) (hy : a.eval y = .int .i64 q) (hr : min p q = r)
    (h : wpList P ops Q rest (a.put o.dst (.int .i64 r)) w) : wpList P ops Q (o :: rest) a w := by
  refine wpList_val hw ?_ h
  have hr2 := run_min_int2 (P := P) (w := w) ts o.type .i64 .i64 p q
  have e : (if q < p then q else p) = (r : Int) := by rw [← hr]; split <;> omega
  rw [e] at hr2
  simp [execOp, ho, resolve, invoke, builtin, hx, hy, hr2, Result.andThen]
theorem wf_smallX {n : Int} (h0 : 0 ≤ n) (h1 : n ≤ 1000000) : (Lit.int .i64 n).wf = true := by
  have e1 : IntKind.i64.min = -9223372036854775808 := by decide
  have e2 : IntKind.i64.max = 9223372036854775807 := by decide
  simp only [Lit.wf, e1, e2, Bool.and_eq_true, decide_eq_true_eq]
  omega
theorem info_intX : (Tryz.prog.info? 3).map (fun i => (i.zero, i.size, i.bytes)) = some (some (.int .i64 0), 1, 8) := by kernel_rfl
theorem int_rowX (w : World) (n : Int) : Row (w.alloc (.cells #[.int .i64 n] 3)) 1 (.slice (some ⟨w.heap.size, 0, none⟩) 1 1) 1 [.int .i64 n] :=
  Row.of_own (World.ownsRow_lit (base := w.heap.size) (e := 3) (size := 1) w #[.int .i64 n] 1 (Nat.le_refl _) (by decide) rfl)
/-- A row of ints of the call's own. -/
def OwnI (w : World) (b : Nat) (v : Value) (l : List Int) : Prop := w.ownsRow b 3 1 v l.length (l.flatMap iC1)
theorem OwnI.turn {w w' : World} {b base bp bq : Nat} {v : Value} {l : List Int} (h : OwnI w b v l) (ht : TurnX base bp bq w w') (hm : ∀ q, Two2 bp bq q → ∃ es c, w.heap[q]? = some (.map es c)) : OwnI w' b v l :=
  ht.own h (fun q hq h2 => by obtain ⟨es, c, hh⟩ := hm q h2; exact own_noMap h hq hh) (by decide)
theorem Ix.maps {w : World} {base b bp bq : Nat} {R : SP} (h : Ix w base b bp bq R) : ∀ q, Two2 bp bq q → ∃ es c, w.heap[q]? = some (.map es c) := by
  obtain ⟨S, Q, hi, _⟩ := h.ex
  exact hi.maps
/-- What MatchAll keeps: the index, two rows. -/
structure AllI (W w : World) (base b bp bq : Nat) (R : SP) (v8 v9 : Value) (l8 l9 : List Int) : Prop where
  ix : Ix w base b bp bq R
  o8 : OwnI w base v8 l8
  o9 : OwnI w base v9 l9
  ap : ∀ q, v8.ownBlock = some q → v9.ownBlock ≠ some q
  ext : Ext W w
  lo : W.heap.size ≤ base
theorem AllI.later {W w w' : World} {base b bp bq : Nat} {R : SP} {v8 v9 : Value} {l8 l9 : List Int} (h : AllI W w base b bp bq R v8 v9 l8 l9) (hx : Ext w w') : AllI W w' base b bp bq R v8 v9 l8 l9 :=
  ⟨h.ix.ext hx, own_ext h.o8 hx, own_ext h.o9 hx, h.ap, h.ext.trans hx, h.lo⟩
theorem AllI.add {W w w' : World} {base b bp bq : Nat} {R R' : SP} {v8 v9 : Value} {l8 l9 : List Int} (h : AllI W w base b bp bq R v8 v9 l8 l9) (hi : Ix w' base b bp bq R') (ht : TurnX base bp bq w w') : AllI W w' base b bp bq R' v8 v9 l8 l9 :=
  ⟨hi, h.o8.turn ht h.ix.maps, h.o9.turn ht h.ix.maps, h.ap, turnX_ext ht h.ext h.lo h.ix.lo, h.lo⟩
theorem own_not_int {w : World} {b n : Nat} {v : Value} {xs : List Value} (h : w.ownsRow b 3 1 v n xs) {k : Nat} {o : Obj} (ho : w.heap[k]? = some o) (hn : ∀ cs fr, o ≠ .cells cs 3 fr) : v.ownBlock ≠ some k := by
  intro e
  rcases h.2 with ⟨rfl, _⟩ | ⟨g, cap, cur, rfl, _, hg, _⟩
  · simp [Value.ownBlock] at e
  · simp only [Value.ownBlock, Option.some.injEq] at e
    subst e
    rw [ho] at hg
    cases hg
    exact hn _ _ rfl
theorem IdxR.keepI {w w' : World} {base b bp bq n b2 : Nat} {S : List PE} {Q : List PQ} {v : Value} {xs : List Value} (h : IdxR w base b bp bq S Q) (ho : w.ownsRow b2 3 1 v n xs) (hg : w.grownBy w' v.ownBlock) : IdxR w' base b bp bq S Q := by
  have key : ∀ {b e size n : Nat} {u : Value} {ys : List Value}, w.ownsRow b e size u n ys → e ≠ 3 → w'.ownsRow b e size u n ys := fun hu he => own_keep hu hg fun k hk e => own_apart hu ho he k e hk
  have hm : ∀ {c : Nat} {d : TypeDesc} {E : List (Value × Value)}, MapE w c d E → MapE w' c d E := fun hm => by
    obtain ⟨es, cl, h1, h2⟩ := hm
    exact ⟨es, cl, (hg.block _ (Array.getElem?_eq_some_iff.1 h1).1 fun e => own_noMap ho e.symm h1).trans h1, h2⟩
  refine ⟨(hg.block b (Array.getElem?_eq_some_iff.1 h.box).1 fun e => own_ne ho h.box (by decide) e.symm).trans h.box, hm h.mp, fun k hk => ?_, ⟨hm h.parts.mq, fun q hq => key (h.parts.rows q hq) (by decide), fun q hq x hx => key (h.parts.sets q hq x hx) (by decide), h.parts.apart⟩, h.cont⟩
  obtain ⟨us, e, h1, h2⟩ := h.preds k hk
  exact ⟨us, e, key h1 (by decide), fun x hx => key (h2 x hx) (by decide)⟩
theorem Ix.keepI {w w' : World} {base b bp bq n b2 : Nat} {R : SP} {v : Value} {xs : List Value} (h : Ix w base b bp bq R) (ho : w.ownsRow b2 3 1 v n xs) (hg : w.grownBy w' v.ownBlock) : Ix w' base b bp bq R := by
  obtain ⟨S, Q, hi, e⟩ := h.ex
  exact ⟨⟨S, Q, hi.keepI ho hg, e⟩, Nat.le_trans h.le hg.size, h.ne, h.lo, h.six, h.few, h.ids, h.nrm⟩
/-- One of the rows has grown. -/
theorem AllI.app8 {W w w' : World} {base b bp bq : Nat} {R : SP} {v8 v9 v' : Value} {l8 l9 : List Int} {k : Int} (h : AllI W w base b bp bq R v8 v9 l8 l9) (ho : w'.ownsRow base 3 1 v' (l8.length + 1) (l8.flatMap iC1 ++ [.int .i64 k])) (hg : w.grownBy w' v8.ownBlock) (hw : v'.ownBlock = v8.ownBlock ∨ v'.ownBlock = some w.heap.size) : AllI W w' base b bp bq R v' v9 (l8 ++ [k]) l9 := by
  have hx : Ext W w' := h.ext.grown_none hg fun q hq => Nat.le_trans h.lo (own_base h.o8 q hq)
  refine ⟨h.ix.keepI h.o8 hg, ?_, own_keep h.o9 hg fun q hq e => h.ap q e hq, fun q hq e => ?_, hx, h.lo⟩
  · unfold OwnI; rw [List.length_append, List.flatMap_append]; exact ho
  · rcases hw with e2 | e2
    · rw [e2] at hq; exact h.ap q hq e
    · rw [e2] at hq
      have h1 := own_lt h.o9 q e
      have h2 := Option.some.inj hq
      omega
theorem AllI.app9 {W w w' : World} {base b bp bq : Nat} {R : SP} {v8 v9 v' : Value} {l8 l9 : List Int} {k : Int} (h : AllI W w base b bp bq R v8 v9 l8 l9) (ho : w'.ownsRow base 3 1 v' (l9.length + 1) (l9.flatMap iC1 ++ [.int .i64 k])) (hg : w.grownBy w' v9.ownBlock) (hw : v'.ownBlock = v9.ownBlock ∨ v'.ownBlock = some w.heap.size) : AllI W w' base b bp bq R v8 v' l8 (l9 ++ [k]) := by
  have hx : Ext W w' := h.ext.grown_none hg fun q hq => Nat.le_trans h.lo (own_base h.o9 q hq)
  refine ⟨h.ix.keepI h.o9 hg, own_keep h.o8 hg fun q hq e => h.ap q hq e, ?_, fun q hq e => ?_, hx, h.lo⟩
  · unfold OwnI; rw [List.length_append, List.flatMap_append]; exact ho
  · rcases hw with e2 | e2
    · rw [e2] at e; exact h.ap q hq e
    · rw [e2] at e
      have h1 := own_lt h.o8 q hq
      have h2 := Option.some.inj e
      omega

set_option maxRecDepth 100000 in
set_option maxHeartbeats 32000000 in
theorem matchAll_walk (W : World) (v0 : Value) (us : List PP) (hu : PredsR W v0 us) (key : List UInt8) (va : Value) (l : List AT) (hv : AttrR W va l) (g : Nat) (hg : g < 256) :
    Calls Tryz.prog 5 #[v0, .agg #[.string (strOf key), va], .int .u8 g] W fun e W' => e = .returned (.bool true) ∧ Ext W W' := by
  obtain ⟨a0, c0, rfl, hc0, hm0⟩ := Row.shape hu.row
  obtain ⟨av, cv, rfl, _, _⟩ := Row.shape hv
  unfold maxLen at hm0
  obtain ⟨hxe, hbe⟩ := boxes1 W (.cells #[.string (strOf key), .slice av l.length cv] 34)
  have HU := Lib.hid (hu.ext hxe)
  have HV := Lib.hid (hv.ext hxe)
  have HXE := Lib.hid hxe
  have HBE := Lib.hid hbe
  clear hu hv hxe hbe
  obtain ⟨N, hN⟩ : ∃ N, N = us.length := ⟨_, rfl⟩
  have HN := Lib.hid hN
  rw [← hN] at HU hc0 ⊢
  clear hN
  obtain ⟨ln, hln⟩ : ∃ ln, ln = l.length := ⟨_, rfl⟩
  rw [← hln] at HU HV HXE HBE ⊢
  clear hln
  go_enter Tryz.func5, Tryz.ntmps5
  go_upto_region 1 with fail
  generalize hw1 : W.alloc (.cells #[.string (strOf key), .slice av ln cv] 34) = w1 at *
  obtain ⟨be, hbe⟩ : ∃ be, be = W.heap.size := ⟨_, rfl⟩
  rw [← hbe] at HBE ⊢
  clear hw1 hbe
  go_upto_region 4 with (go_at_call 7; (with_reducible refine (ix_new w1).mono ?_); rintro e w2 ⟨b, bp, bq, rfl, hi, hx⟩; have HI := Lib.hid hi; have HX := Lib.hid hx; clear hi hx)
  obtain ⟨ps, hps⟩ : ∃ ps, ps = us.map PP.p := ⟨_, rfl⟩
  have HPS := Lib.hid hps
  obtain ⟨m, hm⟩ : ∃ m, m = min N 60 := ⟨_, rfl⟩
  have hmm : min (N : Int) 60 = (m : Int) := by omega
  have HMM := Lib.hid hmm
  have hmN : m ≤ N := by omega
  have hm60 : m ≤ 60 := by omega
  obtain ⟨gm, hgm⟩ : ∃ gm, gm = g % m := ⟨_, rfl⟩
  have HGM := Lib.hid hgm
  have HA0 : Hid (AllI w1 w2 w1.heap.size b bp bq (maR ps 0) (.slice none 0 0) (.slice none 0 0) (maW ps l 0) (maX ps l gm 0)) := ⟨HI.out, own_none _ _ _ _, own_none _ _ _ _, (fun _ h => nomatch h), HX.out, Nat.le_refl _⟩
  have HMEQ := Lib.hid hm
  clear HI HX hps hmm hgm hm
  have HF60 : Hid (m = 60 ∨ m = N) := by show _ ∨ _; have := HMEQ.out; omega

  go_upto_block 0 with fail
  go_cut [8, 9, 10, 11, 12, 13] from 17 to 56 (fun v8 v9 v10 _ _ _ wc => v10 = .int .i64 ((maR ps m).length : Nat) ∧ Hid (AllI w1 wc w1.heap.size b bp bq (maR ps m) v8 v9 (maW ps l m) (maX ps l gm m)))
  case first =>
    go_wp2_with fail
    go_loopw [8, 9, 10, 17] (fun v8 v9 v10 i wr => ∃ k : Nat, k ≤ m ∧ i = .int .i64 k ∧ v10 = .int .i64 ((maR ps k).length : Nat) ∧ Hid (AllI w1 wr w1.heap.size b bp bq (maR ps k) v8 v9 (maW ps l k) (maX ps l gm k))) (fun _ _ _ i _ => m - (intOf i).toNat)
    case atStart => exact ⟨0, Nat.zero_le _, rfl, rfl, HA0.out⟩
    case round =>
      clear HA0
      obtain ⟨k, hk, rfl, rfl, hA⟩ := hrel
      by_cases hlt : k < m
      · have hI : decide ((k : Int) < (N : Int)) = true := decide_eq_true (by omega)
        have hkN : (k : Int) < (N : Int) := by omega
        have hk6 : ((k : Int) == 60) = false := beq_eq_false_iff_ne.2 (by omega)
        have hkl : k < us.length := by have := HN.out; omega
        have hnx : k + 1 ≤ m := hlt
        obtain ⟨B, o, rfl, f0⟩ := (HU.out.ext hA.out.ext).at hkl
        have hpr := (HU.out.ext hA.out.ext).hs _ (List.getElem_mem hkl)
        have hpk : us[k].p = maP ps k := by
          unfold maP
          rw [HPS.out, List.getD_eq_getElem?_getD, List.getElem?_map, List.getElem?_eq_getElem hkl]; rfl
        rw [hpk] at hpr
        obtain ⟨ap, cp, hpe, _, _⟩ := hpr.shape
        rw [hpe] at hpr f0
        have hadd := ix_add hA.out.ix (k : Int) (wf_smallX (by omega) (by omega)) _ _ hpr
        rw [(maR_add (by omega : k < 60)).1, (maR_add (by omega : k < 60)).2] at hadd
        obtain ⟨a8, c8, rfl, hc8, hm8⟩ := own_shape hA.out.o8
        obtain ⟨a9, c9, rfl, hc9, hm9⟩ := own_shape hA.out.o9
        have hl8 := maW_len ps l k
        have hl9 := maX_len ps l gm k
        have e8 : maW ps l (k + 1) = maW ps l k ++ (if mayP (maP ps k) && matchP (maP ps k) l then [(k : Int)] else []) := rfl
        have e9 : maX ps l gm (k + 1) = maX ps l gm k ++ (if (mayP (maP ps k) && matchP (maP ps k) l) && !decide (k = gm) then [(k : Int)] else []) := rfl
        have eR : (maR ps (k + 1)).length = (maR ps k).length + (if mayP (maP ps k) then 1 else 0) := by
          show (maR ps k ++ _).length = _
          rw [List.length_append]
          split <;> rfl
        have hlR := maR_len ps k
        have HPR : Hid (∀ W', Ext w1 W' → PredR W' (.slice ap (maP ps k).length cp) (maP ps k)) := fun W' hW => by
          have h := (HU.out.ext hW).hs _ (List.getElem_mem hkl)
          rw [hpk, hpe] at h; exact h
        have HADD := Lib.hid hadd
        have HA := Lib.hid hA.out
        have E8 := Lib.hid e8
        have E9 := Lib.hid e9
        have ER := Lib.hid eR
        clear hpr hadd hA e8 e9 eR hpk hpe
        generalize maP ps k = p at *
        obtain ⟨pl, hpl⟩ : ∃ pl, pl = p.length := ⟨_, rfl⟩
        rw [← hpl] at HPR HADD f0
        clear hpl
        obtain ⟨rl, hrl⟩ : ∃ rl, rl = (maR ps k).length := ⟨_, rfl⟩
        rw [← hrl] at hlR ER ⊢
        clear hrl
        obtain ⟨n8, hn8⟩ : ∃ n8, n8 = (maW ps l k).length := ⟨_, rfl⟩
        have HN8 := Lib.hid hn8
        rw [← hn8] at hl8 hc8 HA ⊢
        obtain ⟨n9, hn9⟩ : ∃ n9, n9 = (maX ps l gm k).length := ⟨_, rfl⟩
        have HN9 := Lib.hid hn9
        rw [← hn9] at hl9 hc9 HA ⊢
        clear hn8 hn9
        go_upto_region 9 with (go_at_call 8; (with_reducible refine HADD.out.mono ?_); rintro e w3 ⟨rfl, hi, ht⟩; have HA3 := Lib.hid (HA.out.add hi ht); clear hi ht)
        clear HADD HA f0
        have hmay := pmay_any w3 _ p (HPR.out _ HA3.out.ext)
        rw [show (Value.slice ap pl cp) = .slice ap pl cp from rfl] at hmay
        have HMAY := Lib.hid hmay
        clear hmay
        cases hm : mayP p with
        | false =>
          rw [hm] at HMAY
          have e8 : maW ps l (k + 1) = maW ps l k := by rw [E8.out, hm]; simp
          have e9 : maX ps l gm (k + 1) = maX ps l gm k := by rw [E9.out, hm]; simp
          have eR : (maR ps (k + 1)).length = rl := by rw [ER.out, hm]; rfl
          have F8 := Lib.hid e8
          have F9 := Lib.hid e9
          have FR := Lib.hid eR
          clear e8 e9 eR hm E8 E9 ER
          go_wp2_with (go_at_call 22; (with_reducible refine HMAY.out.mono ?_); rintro e w4 ⟨rfl, hx⟩; have HA4 := Lib.hid (HA3.out.later hx); clear hx)
          go_roundw
          case rel => exact ⟨k + 1, hnx, by go_num, by rw [FR.out], by rw [F8.out, F9.out]; exact HA4.out⟩
          case measure => simp [intOf]; omega
        | true =>
          rw [hm] at HMAY
          have eR : (maR ps (k + 1)).length = rl + 1 := by rw [ER.out, hm]; rfl
          have FR := Lib.hid eR
          have HM := Lib.hid hm
          clear eR hm ER
          go_upto_region 13 with (go_at_call 22; (with_reducible refine HMAY.out.mono ?_); rintro e w4 ⟨rfl, hx⟩; have HA4 := Lib.hid (HA3.out.later hx); clear hx)
          clear HA3 HMAY
          have hbe4 := block_later HBE.out HA4.out.ext
          have b0 := cell_of_row _ _ 0 _ _ _ hbe4
          have b1 := cell_of_row _ _ 1 _ _ _ hbe4
          have hmat := matches_any w4 _ p key _ l (HPR.out _ HA4.out.ext) (HV.out.ext HA4.out.ext)
          have HMAT := Lib.hid hmat
          clear hbe4 hmat
          cases hq : matchP p l with
          | false =>
            rw [hq] at HMAT
            have e8 : maW ps l (k + 1) = maW ps l k := by rw [E8.out, hq, Bool.and_false]; simp
            have e9 : maX ps l gm (k + 1) = maX ps l gm k := by rw [E9.out, hq, Bool.and_false, Bool.false_and]; simp
            have F8 := Lib.hid e8
            have F9 := Lib.hid e9
            clear e8 e9 hq E8 E9
            go_wp2_with (go_at_call 23; (with_reducible refine HMAT.out.mono ?_); rintro e w5 ⟨rfl, hx⟩; have HA5 := Lib.hid (HA4.out.later hx); clear hx)
            go_roundw
            case rel => exact ⟨k + 1, hnx, by go_num, by rw [FR.out]; go_num, by rw [F8.out, F9.out]; exact HA5.out⟩
            case measure => simp [intOf]; omega
          | true =>
            rw [hq] at HMAT
            have e8 : maW ps l (k + 1) = maW ps l k ++ [(k : Int)] := by rw [E8.out, HM.out, hq]; rfl
            have e9 : maX ps l gm (k + 1) = maX ps l gm k ++ (if !decide (k = gm) then [(k : Int)] else []) := by rw [E9.out, HM.out, hq]; rfl
            have F8 := Lib.hid e8
            have F9 := Lib.hid e9
            clear e8 e9 hq E8 E9
            go_upto_region 14 with (go_at_call 23; (with_reducible refine HMAT.out.mono ?_); rintro e w5 ⟨rfl, hx⟩; have HA5 := Lib.hid (HA4.out.later hx); clear hx)
            clear HA4 HMAT b0 b1
            have hxb : Ext w5 (w5.alloc (.cells #[.int .i64 (k : Int)] 3)) := (Ext.refl w5).alloc _
            have HA6 := Lib.hid (HA5.out.later hxb)
            have HR6 := Lib.hid (int_rowX w5 (k : Int))
            have hb6 : w1.heap.size ≤ (w5.alloc (.cells #[.int .i64 (k : Int)] 3)).heap.size := HA6.out.ext.size
            have ho8 : (w5.alloc (.cells #[.int .i64 (k : Int)] 3)).ownsRow w1.heap.size 3 1 (.slice a8 n8 c8) n8 ((maW ps l k).flatMap iC1) := by rw [HN8.out]; have h := HA6.out.o8; rw [HN8.out] at h; exact h
            have HO8 := Lib.hid ho8
            clear hxb ho8
            go_upto_region 15 with (at_builtin; refine wpList_append_whose 30 3 (.tmp 40) (.tmp 42) rfl w1.heap.size _ 1 8 Tryz.underlying30 info_intX rfl (by decide) rfl (.slice a8 n8 c8) n8 ((maW ps l k).flatMap iC1) rfl HO8.out 1 [.int .i64 (k : Int)] HR6.out (by simp [Value.oneCell']) (by decide) (by omega) (by unfold maxLen; omega) hb6 ?_; intro v7 w7 ho7 hg7 hw7; have HO7 := Lib.hid ho7; have HG7 := Lib.hid hg7; have HW7 := Lib.hid hw7; clear ho7 hg7 hw7)
            have hA7 := HA6.out.app8 (k := (k : Int)) (by rw [← HN8.out]; exact HO7.out) HG7.out HW7.out
            rw [← F8.out] at hA7
            have HA7 := Lib.hid hA7
            obtain ⟨a7, c7, rfl, _, _⟩ := own_shape HO7.out
            clear hA7 HA6 HA5 HO7 HG7 HW7 HR6 HO8 hb6
            have hmpos : 0 < m := by omega
            have htm : Int.tmod (g : Int) (m : Int) = (gm : Int) := by rw [HGM.out]; exact (Int.ofNat_tmod g m).symm
            have hne0 : ¬ (m : Int) = 0 := by omega
            by_cases hkg : k = gm
            · have hneq : ((k : Int) != (gm : Int)) = false := by rw [hkg]; simp
              have e9 : maX ps l gm (k + 1) = maX ps l gm k := by rw [F9.out, decide_eq_true hkg]; simp
              have G9 := Lib.hid e9
              clear e9 F9 hkg
              go_wp2_with (refine wpList_minX (.tmp 48) (.const (.int .i64 60)) _ rfl rfl _ _ m rfl rfl HMM.out ?_)
              go_roundw
              case rel => exact ⟨k + 1, hnx, by go_num, by rw [FR.out]; go_num, by rw [G9.out]; exact HA7.out⟩
              case measure => simp [intOf]; omega
            · have hneq : ((k : Int) != (gm : Int)) = true := bne_iff_ne.2 (by omega)
              have e9 : maX ps l gm (k + 1) = maX ps l gm k ++ [(k : Int)] := by rw [F9.out, decide_eq_false hkg]; rfl
              have G9 := Lib.hid e9
              clear e9 F9 hkg
              go_upto_region 16 with (refine wpList_minX (.tmp 48) (.const (.int .i64 60)) _ rfl rfl _ _ m rfl rfl HMM.out ?_)
              have hxb : Ext w7 (w7.alloc (.cells #[.int .i64 (k : Int)] 3)) := (Ext.refl w7).alloc _
              have HA8 := Lib.hid (HA7.out.later hxb)
              have HR8 := Lib.hid (int_rowX w7 (k : Int))
              have hb8 : w1.heap.size ≤ (w7.alloc (.cells #[.int .i64 (k : Int)] 3)).heap.size := HA8.out.ext.size
              have ho9 : (w7.alloc (.cells #[.int .i64 (k : Int)] 3)).ownsRow w1.heap.size 3 1 (.slice a9 n9 c9) n9 ((maX ps l gm k).flatMap iC1) := by rw [HN9.out]; have h := HA8.out.o9; rw [HN9.out] at h; exact h
              have HO9 := Lib.hid ho9
              clear hxb ho9
              go_wp2_with (at_builtin; refine wpList_append_whose 30 3 (.tmp 52) (.tmp 54) rfl w1.heap.size _ 1 8 Tryz.underlying30 info_intX rfl (by decide) rfl (.slice a9 n9 c9) n9 ((maX ps l gm k).flatMap iC1) rfl HO9.out 1 [.int .i64 (k : Int)] HR8.out (by simp [Value.oneCell']) (by decide) (by omega) (by unfold maxLen; omega) hb8 ?_; intro v9' w9 ho7 hg7 hw7; have HO7 := Lib.hid ho7; have HG7 := Lib.hid hg7; have HW7 := Lib.hid hw7; clear ho7 hg7 hw7)
              have hA9 := HA8.out.app9 (k := (k : Int)) (by rw [← HN9.out]; exact HO7.out) HG7.out HW7.out
              rw [← G9.out] at hA9
              have HA9 := Lib.hid hA9
              clear hA9 HA8 HA7 HO7 HG7 HW7 HR8 HO9 hb8
              go_roundw
              case rel => exact ⟨k + 1, hnx, by go_num, by rw [FR.out]; go_num, HA9.out⟩
              case measure => simp [intOf]; omega
      · obtain rfl : k = m := by omega
        by_cases hkN : k < N
        · have hI : decide ((k : Int) < (N : Int)) = true := decide_eq_true (by omega)
          have hkNi : (k : Int) < (N : Int) := by omega
          have hk6 : ((k : Int) == 60) = true := beq_iff_eq.2 (by have := HF60.out; omega)
          have hkl : k < us.length := by have := HN.out; omega
          obtain ⟨B, o, rfl, f0⟩ := (HU.out.ext hA.out.ext).at hkl
          go_wp2_with fail
          go_meet
          case rel => exact ⟨rfl, hA.out⟩
        · have hI : decide ((k : Int) < (N : Int)) = false := decide_eq_false (by omega)
          go_wp2_with fail
          go_meet
          case rel => exact ⟨rfl, hA.out⟩
  case rest =>
    obtain ⟨rfl, hA⟩ := hcut
    obtain ⟨a8, c8, rfl, _, _⟩ := own_shape hA.out.o8
    obtain ⟨a9, c9, rfl, _, _⟩ := own_shape hA.out.o9
    have HA := Lib.hid hA.out
    have hm := ix_match hA.out.ix (maR ps m) (maR_rel ps m) key _ l (HV.out.ext hA.out.ext)
    rw [maR_want] at hm
    have HM := Lib.hid hm
    have hbe := block_later HBE.out hA.out.ext
    have b0 := cell_of_row _ _ 0 _ _ _ hbe
    have b1 := cell_of_row _ _ 1 _ _ _ hbe
    clear hm hbe hA HA0
    go_wp2_with fail
    (with_reducible refine HM.out.mono ?_); rintro e wA ⟨am, cm, rfl, ho, hx⟩
    have HA2 := Lib.hid (HA.out.later hx)
    have hs := samei_any _ _ _ (maW ps l m) (maW ps l m) (own_int ho) (own_int HA2.out.o8)
    rw [decide_eq_true (rfl : maW ps l m = maW ps l m)] at hs
    have HS := Lib.hid hs
    clear hs ho hx HA HM b0 b1
    go_wp2_with fail
    (with_reducible refine HS.out.mono ?_); rintro e wB ⟨rfl, hx⟩
    have HA3 := Lib.hid (HA2.out.later hx)
    have hi := ix_ids HA3.out.ix (maR ps m) (maR_rel ps m)
    rw [List.length_map] at hi
    have HI := Lib.hid hi
    clear hi hx HA2 HS
    obtain ⟨rl, hrl⟩ : ∃ rl, rl = (maR ps m).length := ⟨_, rfl⟩
    rw [← hrl] at HI ⊢
    have t1 : ((rl : Int) != (rl : Int)) = false := by simp
    clear hrl
    go_upto_region 20 with (go_at_call 12; (with_reducible refine HI.out.mono ?_); rintro e wC ⟨ai, ci, rfl, ho, hx⟩; have HA4 := Lib.hid (HA3.out.later hx); clear ho hx)
    clear HI HA3
    by_cases hN0 : N = 0
    · have hz : ((N : Int) == 0) = true := beq_iff_eq.2 (by omega)
      go_wp2_with (go_at_call 6; (with_reducible refine (awake08_any _).mono ?_); rintro e wD ⟨rfl, hx⟩; have HX := Lib.hid (HA4.out.ext.trans hx); clear hx)
      go_ret
      exact ⟨rfl, HXE.out.trans HX.out⟩
    · have hz : ((N : Int) == 0) = false := beq_eq_false_iff_ne.2 (by omega)
      have htm : Int.tmod (g : Int) (m : Int) = (gm : Int) := by rw [HGM.out]; exact (Int.ofNat_tmod g m).symm
      have hne0 : ¬ (m : Int) = 0 := by have := HMEQ.out; omega
      have HD := Lib.hid (ix_del HA4.out.ix (gm : Int))
      go_upto_region 23 with (first
        | (refine wpList_minX (.tmp 78) (.const (.int .i64 60)) _ rfl rfl _ _ m rfl rfl HMM.out ?_)
        | (go_at_call 9; (with_reducible refine HD.out.mono ?_); rintro e wD ⟨rfl, hi, ht⟩; have HA5 := Lib.hid (HA4.out.add hi ht); clear hi ht))
      clear HD HA4
      go_wp2_with fail
      (with_reducible refine (awake08_any _).mono ?_); rintro e wE ⟨rfl, hx⟩
      have HA6 := Lib.hid (HA5.out.later hx)
      have hrel : RelSL (delS (maR ps m) (gm : Int)) (delS (maR ps m) (gm : Int)) := ⟨List.Perm.refl _, (maR_rel ps m).2.sublist List.filter_sublist⟩
      have hm2 := ix_match HA6.out.ix _ hrel key _ l (HV.out.ext HA6.out.ext)
      rw [maR_less] at hm2
      have HM2 := Lib.hid hm2
      have hbe := block_later HBE.out HA6.out.ext
      have b0 := cell_of_row _ _ 0 _ _ _ hbe
      have b1 := cell_of_row _ _ 1 _ _ _ hbe
      clear hm2 hbe hx HA5 hrel
      go_wp2_with fail
      (with_reducible refine HM2.out.mono ?_); rintro e wF ⟨an, cn, rfl, ho, hx⟩
      have HA7 := Lib.hid (HA6.out.later hx)
      have hs2 := samei_any _ _ _ (maX ps l gm m) (maX ps l gm m) (own_int ho) (own_int HA7.out.o9)
      rw [decide_eq_true (rfl : maX ps l gm m = maX ps l gm m)] at hs2
      have HS2 := Lib.hid hs2
      clear hs2 ho hx HA6 HM2 b0 b1
      go_wp2_with fail
      (with_reducible refine HS2.out.mono ?_); rintro e wG ⟨rfl, hx⟩
      have HX := Lib.hid (HA7.out.ext.trans hx)
      clear hx
      go_wp2_with fail
      go_ret
      exact ⟨rfl, HXE.out.trans HX.out⟩
end Go.Proofs.YtckigoeomkphhaaGreat
