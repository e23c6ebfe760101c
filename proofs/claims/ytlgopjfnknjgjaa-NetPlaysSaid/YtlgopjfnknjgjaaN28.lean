/- maps.Clone (45), Copy (32). -/
import Derived.Test.YtlgopjfnknjgjaaN24
import Derived.Test.YtlgopjfnknjgjaaN22
import Derived.Laws.Externs
namespace Go.Proofs.Ytlgopjfnknjgjaa
open Go.RowKit Go.MapKept

theorem run_clone {P : Program} (w : World) {r : Nat} {es : Array MapEntry} {clock : Nat} (t : TypeId) (hb : w.heap[r]? = some (.map es clock)) :
    (Extern.MapsClone.clone #[.iface t (.map (some r))]).run P w = .ok (.iface t (.map (some w.heap.size))) (w.alloc (.map es clock)) := by
  have e : Extern.MapsClone.clone #[.iface t (.map (some r))] = (getObj r >>= fun o => match o with
      | .map entries clock => (newObj (.map entries clock) >>= fun n => pure (.iface t (.map (some n))))
      | _ => stuck "maps.clone: a map expected") := rfl
  rw [e]
  simp [Go.MapKept.run_getObj_map hb, Result.andThen, go_sem]
theorem run_assert_map {P : Program} (w : World) (t xT k e : TypeId) (v : Value) (h : P.underlying t = some (.map k e)) : (Instr.typeAssert (.iface t v) xT t false).run P w = .ok v w := by
  simp [Instr.typeAssert, run_underlying h, go_sem, Result.andThen]
set_option maxHeartbeats 2000000 in
theorem mclone_any (w : World) (b : Nat) (d : TypeDesc) (E : List (Value × Value)) (hm : MapE w b d E) :
    Calls Try.prog 45 #[.map (some b)] w fun e w' => e = .returned (.map (some w.heap.size)) ∧ MapE w' w.heap.size d E ∧ Ext w w' := by
  obtain ⟨es, clock, hb, rest⟩ := hm
  have hq : ∀ (w : World) (r : Nat), (binOp .eql 85 (.map (some r)) (.map none)).run Try.prog w = .ok (.bool false) w := fun w r => by
    have := run_eql_map_nil (P := Try.prog) w 85 28 94 (some r) Try.underlying85
    simpa using this
  have hc : ∀ args w, (callFunc 52 args).run Try.prog w = ((Extern.MapsClone.clone args).run Try.prog w).andThen fun v w' => .ok (.value v) w' := fun args w => run_callFunc_extern Try.func52 (by kernel_rfl) (by kernel_rfl) (by kernel_rfl) (e := Extern.MapsClone.clone) (by kernel_rfl) args w
  have hr := run_clone (P := Try.prog) w 85 hb
  have ha := run_assert_map (P := Try.prog) (w.alloc (.map es clock)) 85 20 _ _ (.map (some w.heap.size)) Try.underlying85
  go_enter Try.func45, Try.ntmps45
  go_wp2_with fail
  go_ret
  exact ⟨rfl, ⟨es, clock, (Go.MapKept.heap_alloc w _).1, rest⟩, (Ext.refl w).alloc _⟩

theorem own_not_iter2 {w : World} {base size n r b : Nat} {e : TypeId} {v : Value} {xs : List Value} {d : TypeDesc} {E left : List (Value × Value)} (ho : w.ownsRow base e size v n xs) (hr : RangeE w r b d E left) : v.ownBlock ≠ some r := by
  intro hv
  obtain ⟨es, clock, since, seen, c0, _, _, _, _, h5, _⟩ := hr
  rcases ho.2 with ⟨rfl, _⟩ | ⟨g, cap, cur, rfl, _, hg, _⟩
  · simp [Value.ownBlock] at hv
  · simp only [Value.ownBlock, Option.some.injEq] at hv
    subst hv
    rw [h5] at hg
    cases hg
theorem wpList_putT {P : Program} {ops : Array Oper} {Q : Exit → Act → World → Prop} {a : Act} {w : World} {rest : List Oper} {o : Oper} (hg : o.guard = none) (hdst : o.dst = none) (m x v : Operand) (t : TypeId) (hop : o.op = .mapUpdate t m x v)
    {k e : TypeId} {d : TypeDesc} (ht : P.underlying t = some (.map k e)) (hd : P.underlying k = some d) {r b j : Nat} {E left : List (Value × Value)} {u : Value} (hm : a.eval m = .map (some b)) (h : RangeE w r b d E left) (hj : E[j]? = some (a.eval x, u)) (hn : ∀ p ∈ left, p.1 ≠ a.eval x)
    (hK : ∀ w', But b w w' → RangeE w' r b d (E.set j (a.eval x, a.eval v)) left → wpList P ops Q rest a w') : wpList P ops Q (o :: rest) a w :=
  wpList_putR hg m x v t hop ht hd hm h hj hn fun w' h1 h2 => by rw [hdst]; exact hK w' h1 h2
/-- A copy as it grows: L' are the packets as the new map has them, left those that are still to come. -/
structure CopyI (w wr : World) (cn cm r k last : Nat) (L L' : List PK) (left : List (Value × Value)) : Prop where
  rng : RangeE wr r cm (.int .u64) (L'.map pE) left
  same : L'.map kK = L.map kK
  net : wr.heap[cn]? = some (.cells #[.int .i64 k, .int .u64 last, .map (some cm)] 87 (0, 0))
  row : ∀ y ∈ L', (pE y ∈ left ∧ y ∈ L) ∨ ((∀ p ∈ left, p.1 ≠ (pE y).1) ∧ OwnB wr w.heap.size y.h y.b)
  apart : L'.Pairwise apartP
  ext : Ext w wr
  lo : w.heap.size ≤ cn ∧ w.heap.size ≤ cm ∧ w.heap.size ≤ r
/-- .. and one is being copied. -/
structure CopyM (w wr : World) (cn cm r k last : Nat) (L A : List PK) (y : PK) (B : List PK) (left : List (Value × Value)) : Prop where
  rng : RangeE wr r cm (.int .u64) ((A ++ y :: B).map pE) left
  same : (A ++ y :: B).map kK = L.map kK
  net : wr.heap[cn]? = some (.cells #[.int .i64 k, .int .u64 last, .map (some cm)] 87 (0, 0))
  row : ∀ z, (z ∈ A ∨ z ∈ B) → (pE z ∈ left ∧ z ∈ L) ∨ ((∀ p ∈ left, p.1 ≠ (pE z).1) ∧ OwnB wr w.heap.size z.h z.b)
  yl : y ∈ L
  new : ∀ p ∈ left, p.1 ≠ (pE y).1
  apart : (A ++ y :: B).Pairwise apartP
  ext : Ext w wr
  lo : w.heap.size ≤ cn ∧ w.heap.size ≤ cm ∧ w.heap.size ≤ r
theorem same_rise {L L' : List PK} (h : L'.map kK = L.map kK) (hr : L.Pairwise fun a b => a.id < b.id) : L'.Pairwise fun a b => a.id < b.id := by
  have h1 : (L.map kK).Pairwise fun a b => a.1 < b.1 := by rw [List.pairwise_map]; exact hr
  rw [← h, List.pairwise_map] at h1
  exact h1
theorem same_mem {L L' : List PK} (h : L'.map kK = L.map kK) {y : PK} (hy : y ∈ L') : ∃ x ∈ L, kK x = kK y := by
  have : kK y ∈ L.map kK := by rw [← h]; exact List.mem_map.2 ⟨y, hy, rfl⟩
  obtain ⟨x, hx, e⟩ := List.mem_map.1 this
  exact ⟨x, hx, e⟩
theorem key_id {x y : PK} (h : (pE x).1 = (pE y).1) : x.id = y.id := by
  have : Value.int .u64 (x.id : Nat) = Value.int .u64 (y.id : Nat) := h
  simp only [Value.int.injEq, true_and] at this
  omega
theorem CopyI.next {w wr w6 : World} {cn cm r k last : Nat} {L L' : List PK} {left left' : List (Value × Value)} {kv vv : Value} (h : CopyI w wr cn cm r k last L L' left) (hrise : L.Pairwise fun a b => a.id < b.id)
    (hp : left.Perm ((kv, vv) :: left')) (hin : (kv, vv) ∈ L'.map pE) (hr6 : RangeE w6 r cm (.int .u64) (L'.map pE) left') (hb : But r wr w6) :
    ∃ A y B, L' = A ++ y :: B ∧ pE y = (kv, vv) ∧ CopyM w w6 cn cm r k last L A y B left' := by
  obtain ⟨y, hy, ey⟩ := List.mem_map.1 hin
  obtain ⟨A, B, rfl⟩ := List.append_of_mem hy
  have hrise' := same_rise h.same hrise
  have hnd : (left.map (·.1)).Nodup := (h.rng.sub.map (·.1)).nodup h.rng.map.keys.2
  have hnd2 := ((hp.map (·.1)).nodup_iff).1 hnd
  rw [List.map_cons, List.nodup_cons] at hnd2
  have hnew : ∀ p ∈ left', p.1 ≠ (pE y).1 := fun p hp' e => hnd2.1 (by rw [show kv = (pE y).1 by rw [ey], ← e]; exact List.mem_map.2 ⟨p, hp', rfl⟩)
  have hsub : ∀ p ∈ left', p ∈ left := fun p hp' => hp.mem_iff.2 (List.mem_cons_of_mem _ hp')
  have hyin : pE y ∈ left := hp.mem_iff.2 (by rw [ey]; exact List.mem_cons_self ..)
  have keep : ∀ {z : PK}, OwnB wr w.heap.size z.h z.b → OwnB w6 w.heap.size z.h z.b := fun ho => own_keep ho hb.grown fun g hg e => own_not_iter2 ho h.rng (hg.trans e.symm)
  have hp2 := List.pairwise_append.1 hrise'
  refine ⟨A, y, B, rfl, ey, hr6, h.same, ?_, fun z hz => ?_, ?_, hnew, h.apart, hb.ext h.ext h.lo.2.2, h.lo⟩
  · refine (hb.block cn (fun e => ?_)).trans h.net
    obtain ⟨es, clock, since, seen, c0, _, _, _, _, h5, _⟩ := h.rng
    have h1 := h.net
    rw [e, h5] at h1
    cases h1
  · have hzl : z ∈ A ++ y :: B := by
      rcases hz with hz | hz
      · exact List.mem_append_left _ hz
      · exact List.mem_append_right _ (List.mem_cons_of_mem _ hz)
    have hne : z.id ≠ y.id := by
      rcases hz with hz | hz
      · exact Nat.ne_of_lt (hp2.2.2 z hz y (List.mem_cons_self ..))
      · exact Nat.ne_of_gt ((List.pairwise_cons.1 hp2.2.1).1 z hz)
    rcases h.row z hzl with ⟨h1, h2⟩ | ⟨h1, h2⟩
    · refine .inl ⟨?_, h2⟩
      rcases List.mem_cons.1 (hp.mem_iff.1 h1) with e | h3
      · exact absurd (key_id (x := z) (y := y) (by rw [e, ← ey])) hne
      · exact h3
    · exact .inr ⟨fun p hp' => h1 p (hsub p hp'), keep h2⟩
  · rcases h.row y hy with ⟨_, h2⟩ | ⟨h1, _⟩
    · exact h2
    · exact absurd rfl (h1 _ hyin)
theorem CopyM.ext' {w wr w' : World} {cn cm r k last : Nat} {L A B : List PK} {y : PK} {left : List (Value × Value)} (h : CopyM w wr cn cm r k last L A y B left) (hx : Ext wr w') : CopyM w w' cn cm r k last L A y B left :=
  ⟨h.rng.ext hx, h.same, block_later h.net hx, fun z hz => (h.row z hz).imp id fun h => ⟨h.1, own_ext h.2 hx⟩, h.yl, h.new, h.apart, h.ext.trans hx, h.lo⟩
/-- The box of the one that is being copied turns. -/
theorem CopyM.box {w wr w' : World} {cn cm r k last bp : Nat} {L A B : List PK} {y : PK} {left : List (Value × Value)} (h : CopyM w wr cn cm r k last L A y B left) {c : Array Value} (hb : wr.heap[bp]? = some (.cells c 94 (0, 0))) (hbp : w.heap.size ≤ bp) (hg : wr.grownBy w' (some bp)) : CopyM w w' cn cm r k last L A y B left := by
  have h1 : bp ≠ cn := fun e => by have := h.net; rw [← e, hb] at this; cases this
  have h2 : bp ≠ cm := fun e => by obtain ⟨es, clock, hm, _⟩ := h.rng.map; rw [← e, hb] at hm; cases hm
  have h3 : bp ≠ r := fun e => by obtain ⟨es, clock, since, seen, c0, _, _, _, _, h5, _⟩ := h.rng; rw [← e, hb] at h5; cases h5
  refine ⟨h.rng.grown hg (fun e => h2 (by cases e; rfl)) (fun e => h3 (by cases e; rfl)), h.same, ?_, fun z hz => (h.row z hz).imp id fun h => ⟨h.1, own_keep h.2 hg fun g hg e => own_ne h.2 hb (by decide) (hg.trans e.symm)⟩, h.yl, h.new, h.apart, ?_, h.lo⟩
  · exact (hg.block cn (Array.getElem?_eq_some_iff.1 h.net).1 (fun e => h1 (by cases e; rfl))).trans h.net
  · exact h.ext.grown_none (v := .slice (some ⟨bp, 0, none⟩) 0 0) hg fun g hg => by cases hg; exact hbp
theorem CopyM.put {w wr w' : World} {cn cm r k last n : Nat} {L A B : List PK} {y : PK} {v : Value} {left : List (Value × Value)} (h : CopyM w wr cn cm r k last L A y B left)
    (ho : OwnB wr n v y.b) (hn : w.heap.size ≤ n) (hlt : ∀ z, (z ∈ A ∨ z ∈ B) → ∀ g, z.h.ownBlock = some g → g < n) (hb : But cm wr w') (hr : RangeE w' r cm (.int .u64) (((A ++ y :: B).map pE).set A.length (.int .u64 (y.id : Nat), .agg #[.int .u64 y.id, .int .i64 y.fr, .int .i64 y.dst, v])) left) :
    CopyI w w' cn cm r k last L (A ++ ⟨y.id, y.fr, y.dst, y.b, v⟩ :: B) left := by
  have e1 : ((A ++ y :: B).map pE).set A.length (.int .u64 (y.id : Nat), .agg #[.int .u64 y.id, .int .i64 y.fr, .int .i64 y.dst, v]) = (A ++ ⟨y.id, y.fr, y.dst, y.b, v⟩ :: B).map pE := by
    rw [List.map_append, List.map_append, List.map_cons, List.map_cons, List.set_append_right _ _ (by rw [List.length_map]; exact Nat.le_refl _), List.length_map, Nat.sub_self, List.set_cons_zero]
    rfl
  rw [e1] at hr
  have keep : ∀ {b0 : Nat} {v : Value} {l : List UInt8}, OwnB wr b0 v l → OwnB w' b0 v l := fun ho => own_keep ho hb.grown fun g hg e => own_not_map ho h.rng.map (hg.trans e.symm)
  have hap := List.pairwise_append.1 h.apart
  refine ⟨hr, ?_, ?_, fun z hz => ?_, ?_, hb.ext h.ext h.lo.2.1, h.lo⟩
  · rw [← h.same, List.map_append, List.map_append, List.map_cons, List.map_cons]; rfl
  · refine (hb.block cn fun e => ?_).trans h.net
    obtain ⟨es, clock, hm, _⟩ := h.rng.map
    have h1 := h.net
    rw [e, hm] at h1
    cases h1
  · have key : (z ∈ A ∨ z ∈ B) ∨ z = ⟨y.id, y.fr, y.dst, y.b, v⟩ := by
      rcases List.mem_append.1 hz with hz | hz
      · exact .inl (.inl hz)
      · rcases List.mem_cons.1 hz with hz | hz
        · exact .inr hz
        · exact .inl (.inr hz)
    rcases key with hz | rfl
    · exact (h.row z hz).imp id fun h => ⟨h.1, keep h.2⟩
    · exact .inr ⟨h.new, own_low (keep ho) hn⟩
  · refine List.pairwise_append.2 ⟨hap.1, List.pairwise_cons.2 ⟨fun b hb' g hg e => ?_, (List.pairwise_cons.1 hap.2.1).2⟩, fun a ha b hb' => ?_⟩
    · have h1 := own_base ho g hg
      have h2 := hlt b (.inr hb') g e
      omega
    · rcases List.mem_cons.1 hb' with rfl | hb'
      · intro g hg e
        have h1 := own_base ho g e
        have h2 := hlt a (.inl ha) g hg
        omega
      · exact hap.2.2 a ha b (List.mem_cons_of_mem _ hb')
theorem CopyM.lt {w wr : World} {cn cm r k last base : Nat} {L A B : List PK} {y : PK} {left : List (Value × Value)} (h : CopyM w wr cn cm r k last L A y B left) (hL : ∀ x ∈ L, OwnB w base x.h x.b) : ∀ z, (z ∈ A ∨ z ∈ B) → ∀ g, z.h.ownBlock = some g → g < wr.heap.size := fun z hz g hg => by
  rcases h.row z hz with ⟨_, h2⟩ | ⟨_, h2⟩
  · exact Nat.lt_of_lt_of_le ((hL z h2).lt g hg).2 h.ext.size
  · exact (h2.lt g hg).2
theorem CopyI.done {w wr : World} {base bn bm cn cm r k last : Nat} {L L' : List PK} (h : CopyI w wr cn cm r k last L L' []) (hn : NetR w base bn bm k last L) : NetR wr w.heap.size cn cm k last L' := by
  have hm := fun {y : PK} (hy : y ∈ L') => same_mem h.same hy
  have ef : ∀ {x y : PK}, kK x = kK y → x.id = y.id ∧ x.fr = y.fr ∧ x.dst = y.dst ∧ x.b = y.b := fun e => by
    simp only [kK, Prod.mk.injEq] at e
    exact e
  refine ⟨h.net, h.rng.map, ⟨h.lo.1, h.lo.2.1⟩, same_rise h.same hn.rise, fun y hy => ?_, fun y hy => ?_, h.apart, fun y hy => ?_, hn.max.1, ?_, fun y hy => ?_⟩
  · obtain ⟨x, hx, e⟩ := hm hy; rw [← (ef e).1]; exact hn.low x hx
  · rcases h.row y hy with ⟨h1, _⟩ | ⟨_, h2⟩
    · cases h1
    · exact h2
  · obtain ⟨x, hx, e⟩ := hm hy; rw [← (ef e).2.1, ← (ef e).2.2.1]; exact hn.inn x hx
  · have := congrArg List.length h.same; rw [List.length_map, List.length_map] at this; rw [this]; exact hn.max.2.1
  · obtain ⟨x, hx, e⟩ := hm hy; rw [← (ef e).2.2.2]; exact hn.max.2.2 x hx

set_option maxRecDepth 100000 in
set_option maxHeartbeats 8000000 in
theorem copy_any (w : World) (base bn bm k last : Nat) (L : List PK) (h : NetR w base bn bm k last L) : Calls Try.prog 32 #[.pointer (some ⟨bn, 0, none⟩)] w fun e w' => ∃ cn cm L', e = .returned (.pointer (some ⟨cn, 0, none⟩)) ∧ L'.map kK = L.map kK ∧ NetR w' w.heap.size cn cm k last L' ∧ Ext w w' := by
  obtain ⟨c0, c1, c2⟩ := h.cell
  have H0 := Lib.hid h
  clear h
  go_enter Try.func32, Try.ntmps32
  go_upto_region 4 with (go_at_call 38; (with_reducible refine (none_same _ _ _ _ _ _ _ H0.out).mono ?_); rintro e w2 ⟨rfl, rfl⟩)
  clear c0 c1 c2
  obtain ⟨hxa, hbx⟩ := boxes1 w (.cells #[.int .i64 k, .int .u64 last, .map (some bm)] 87)
  have H1 := Lib.hid (H0.out.ext hxa)
  have HB1 := Lib.hid hbx
  have HX1 := Lib.hid hxa
  obtain ⟨c0, c1, c2⟩ := H1.out.cell
  clear hxa hbx
  generalize w.alloc (.cells #[.int .i64 k, .int .u64 last, .map (some bm)] 87) = w1 at *
  go_upto_region 5 with (go_at_call 45; (with_reducible refine (mclone_any _ _ _ _ H1.out.map).mono ?_); rintro e w2 ⟨rfl, hm, hx⟩; have hb2 := block_later HB1.out hx; have f2 := frozen_row hb2 2; have d2 := cell_of_row _ _ 2 _ _ _ hb2; have HM2 := Lib.hid hm; have HB2 := Lib.hid hb2; have HX2 := Lib.hid (HX1.out.trans hx); clear hm hx hb2)
  have hg3 := grown_set w2 w.heap.size 2 (.map (some w1.heap.size))
  have hb3 := set_blk w2 w.heap.size 2 (.map (some w1.heap.size)) _ _ _ HB2.out
  have hne : w.heap.size ≠ w1.heap.size := by
    have := (Array.getElem?_eq_some_iff.1 HB1.out).1
    omega
  have hm3 : MapE (w2.setCell ⟨w.heap.size, 2, none⟩ (.map (some w1.heap.size))) w1.heap.size (.int .u64) (L.map pE) := HM2.out.grown hg3 (fun e => hne (Option.some.inj e))
  have hx3 : Ext w (w2.setCell ⟨w.heap.size, 2, none⟩ (.map (some w1.heap.size))) := HX2.out.grown_none (v := .slice (some ⟨w.heap.size, 0, none⟩) 0 0) hg3 fun g hg => by cases hg; exact Nat.le_refl _
  have c2' := cell_of_row _ _ 2 _ _ _ hb3
  have HM3 := Lib.hid hm3
  have HX3 := Lib.hid hx3
  have HB3 := Lib.hid hb3
  have HLO : Hid (w.heap.size ≤ w1.heap.size) := HX1.out.size
  clear hg3 hb3 hne hm3 hx3 c0 c1 c2 f2 d2 HM2 HB2 HX2 H1 HB1 HX1
  generalize w2.setCell ⟨w.heap.size, 2, none⟩ (.map (some w1.heap.size)) = w3 at *
  generalize w1.heap.size = cm at *
  obtain ⟨cn, hcn⟩ : ∃ cn, cn = w.heap.size := ⟨_, rfl⟩
  have HCN : Hid (w.heap.size ≤ cn) := by show _ ≤ _; rw [hcn]; exact Nat.le_refl _
  rw [← hcn] at c2' HB3 ⊢
  clear hcn
  go_upto_region 6 with (at_range; refine wpList_rangeE rfl (.tmp 18) 85 rfl Try.underlying85 rfl HM3.out ?_; intro w5 hrg hx; have HRG := Lib.hid hrg; have HX5 := Lib.hid hx; clear hrg hx)
  have hst : CopyI w w5 cn cm w3.heap.size k last L L (L.map pE) := ⟨HRG.out, rfl, block_later HB3.out HX5.out, fun y hy => .inl ⟨List.mem_map.2 ⟨y, hy, rfl⟩, hy⟩, H0.out.apart, HX3.out.trans HX5.out, ⟨HCN.out, HLO.out, HX3.out.size⟩⟩
  have HST := Lib.hid hst
  clear hst HRG HX5 HB3 HX3 HM3 c2'
  generalize w3.heap.size = r at *
  go_frame
  go_loopw [4, 5] (fun _ _ wr => ∃ (L' : List PK) (left : List (Value × Value)), Hid (CopyI w wr cn cm r k last L L' left)) (fun _ _ wr => wr.rangeLeft cm r)
  case atStart => exact ⟨L, _, HST.out⟩
  case round =>
    clear HST
    obtain ⟨L', left, hci⟩ := hrel
    obtain ⟨E, HE⟩ : ∃ E, Hid (E = L'.map pE) := ⟨_, Lib.hid rfl⟩
    have hrng : Hid (RangeE wr r cm (.int .u64) E left) := by show RangeE _ _ _ _ _ _; rw [HE.out]; exact hci.out.rng
    go_wp2_with (at_next; refine wpList_nextE rfl (.tmp 19) rfl rfl hrng.out ?_ ?_)
    · intro hl0
      subst hl0
      go_wp2_with fail
      go_ret
      exact ⟨cn, cm, L', rfl, hci.out.same, hci.out.done H0.out, hci.out.ext⟩
    · intro kv vv left' w6 hperm hin hrg6 hbut hen
      rw [HE.out] at hin hrg6
      obtain ⟨A, y, B, hL', hy, hm⟩ := hci.out.next H0.out.rise hperm hin hrg6 hbut
      have HML := Lib.hid hci.out.rng.left_eq
      have hll := hperm.length_eq
      rw [List.length_cons] at hll
      have HLL := Lib.hid hll
      obtain ⟨ax, cx, hh⟩ := OwnB.slice (H0.out.own y hm.yl)
      have hoy : OwnB w6 base (.slice ax y.b.length cx) y.b := by rw [← hh]; exact own_ext (H0.out.own y hm.yl) hm.ext
      have hyl := H0.out.max.2.2 y hm.yl
      unfold pE pV at hy
      rw [hh] at hy
      simp only [Prod.mk.injEq] at hy
      obtain ⟨rfl, rfl⟩ := hy
      have HM6 := Lib.hid hm
      have HOY := Lib.hid hoy
      have HYL : Hid (y.b.length ≤ 1000000) := Nat.le_trans hyl (by decide)
      clear hL' hperm hin hrg6 hbut hci hll hh hm hoy hyl hrng HE
      generalize hnx : y.b.length = nx at *
      have HNX := Lib.hid hnx
      clear hnx
      go_upto_region 8 with fail
      obtain ⟨hxa, hbx⟩ := boxes1 w6 (.cells #[.int .u64 y.id, .int .i64 y.fr, .int .i64 y.dst, .slice ax nx cx] 94)
      have b3 := cell_of_row _ _ 3 _ _ _ hbx
      have HM7 := Lib.hid (HM6.out.ext' hxa)
      have HOY7 : Hid (w6.alloc (.cells #[.int .u64 y.id, .int .i64 y.fr, .int .i64 y.dst, .slice ax nx cx] 94) |>.ownsRow base 5 1 (.slice ax nx cx) nx (bC y.b)) := by have h1 := own_ext HOY.out hxa; rw [HNX.out] at h1; exact h1
      have HBX := Lib.hid hbx
      have HBP : Hid (w.heap.size ≤ w6.heap.size) := HM6.out.ext.size
      clear hxa hbx HM6 HOY hen
      generalize w6.alloc (.cells #[.int .u64 y.id, .int .i64 y.fr, .int .i64 y.dst, .slice ax nx cx] 94) = w7 at *
      generalize w6.heap.size = bp at *
      have HBY7 : Hid (Bytes w7 (.slice ax nx cx) y.b) := OwnB.bytes (base := base) (show World.ownsRow _ _ _ _ _ _ _ from by rw [HNX.out]; exact HOY7.out)
      have HYL2 : Hid (y.b.length ≤ 1000000) := by show _ ≤ _; rw [HNX.out]; exact HYL.out
      go_upto_region 9 with (go_at_call 46; (with_reducible refine (clone_any _ _ y.b HBY7.out HYL2.out).mono ?_); rintro e w8 ⟨v', rfl, ho, hx⟩; obtain ⟨a8, c8, e8, _, _⟩ := own_shape ho; rw [HNX.out] at e8; subst e8; have hbx8 := block_later HBX.out hx; have f3 := frozen_row hbx8 3; have d3 := cell_of_row _ _ 3 _ _ _ hbx8; have HBX8 := Lib.hid hbx8; have HO8 := Lib.hid ho; have HM8 := Lib.hid (HM7.out.ext' hx); clear ho hx hbx8)
      have hg9 := grown_set w8 bp 3 (.slice a8 nx c8)
      have hb9 := set_blk w8 bp 3 (.slice a8 nx c8) _ _ _ HBX8.out
      have hm9 := HM8.out.box HBX8.out HBP.out hg9
      have ho9 : OwnB (w8.setCell ⟨bp, 3, none⟩ (.slice a8 nx c8)) w7.heap.size (.slice a8 nx c8) y.b := own_keep HO8.out hg9 fun g hg e => own_ne HO8.out HBX8.out (by decide) (hg.trans e.symm)
      have e0 := cell_of_row _ _ 0 _ _ _ hb9
      have e1 := cell_of_row _ _ 1 _ _ _ hb9
      have e2 := cell_of_row _ _ 2 _ _ _ hb9
      have e3 := cell_of_row _ _ 3 _ _ _ hb9
      have g2 := cell_of_row _ _ 2 _ _ _ hm9.net
      have HM9 := Lib.hid hm9
      have HO9 := Lib.hid ho9
      have HLT := Lib.hid (HM7.out.lt H0.out.own)
      have HSZ : Hid (w.heap.size ≤ w7.heap.size) := HM7.out.ext.size
      have HJ : Hid (((A ++ y :: B).map pE)[A.length]? = some (pE y)) := by
        show _ = _
        rw [List.getElem?_map, List.getElem?_append_right (Nat.le_refl _), Nat.sub_self]; rfl
      clear hg9 hb9 hm9 ho9 b3 f3 d3 HBX8 HO8 HM8 HM7 HBX HOY7
      generalize w8.setCell ⟨bp, 3, none⟩ (.slice a8 nx c8) = w9 at *
      generalize w7.heap.size = n7 at *
      go_wp2_with (refine wpList_putT rfl rfl (.tmp 30) (.tmp 31) (.tmp 32) 85 rfl Try.underlying85 Try.underlying28 (j := A.length) rfl HM9.out.rng HJ.out HM9.out.new ?_; intro w10 hbut hr; have HI := Lib.hid (HM9.out.put HO9.out HSZ.out HLT.out hbut hr); clear hbut hr)
      go_roundw
      case rel => exact ⟨_, _, HI.out⟩
      case measure =>
        rw [HI.out.rng.left_eq, HML.out]
        have := HLL.out
        omega
end Go.Proofs.Ytlgopjfnknjgjaa
