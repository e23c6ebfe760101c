/- A table of ads in memory (23): none, New, Home; an ad copied.
Maps told by their entries: ranging over them; an entry that is taken and stored into. (Of any program.)
A region that draws its order and ends in a chain: what stands ahead by facts (K1), the chain's operations walked as they stand.
A table of ads (23): Learn. -/
import Derived.Lib.Hide
import Derived.WalkKit
import Derived.Maps.RangeWalk
import Derived.Maps.OwnSet
import Derived.BigRegion
import Derived.RegionTactic
import Derived.ChangeAlike
import Derived.Test.YtabegbelkfhbcaaGreatPk2
import Derived.Test.YtabegbelkfhbcaaGreatPk4
import Derived.Test.YtabegbelkfhbcaaGreatPk3
import Derived.Test.YtabegbelkfhbcaaGreatPk1
namespace Go.Proofs.YtabegbelkfhbcaaGreat
open Go.RowKit Go.MapKept

/-- Block b is a table, its map is block bm, and it knows T. -/
structure TabR (w : World) (b bm : Nat) (T : List KN) : Prop where
  box : w.heap[b]? = some (.cells #[.map (some bm)] 45 (0, 0))
  map : MapE w bm (.int .i64) (eK T)
  preds : ∀ k ∈ T, PredR w k.h k.p
theorem TabR.ext {w w' : World} {b bm : Nat} {T : List KN} (h : TabR w b bm T) (hx : Ext w w') : TabR w' b bm T := ⟨block_later h.box hx, h.map.ext hx, fun k hk => (h.preds k hk).ext hx⟩
theorem TabR.pubs {w : World} {b bm : Nat} {T : List KN} (h : TabR w b bm T) : Pubs T := eK_pubs h.map.keys.2
theorem TabR.ne {w : World} {b bm : Nat} {T : List KN} (h : TabR w b bm T) : b ≠ bm := fun e => by
  obtain ⟨es, c, hm, _⟩ := h.map
  have := h.box
  rw [e, hm] at this; cases this

/-! What a map's turning leaves. -/
def MapAt (w : World) (bm : Nat) : Prop := ∃ es c, w.heap[bm]? = some (.map es c)
theorem MapE.isMap {w : World} {bm : Nat} {d : TypeDesc} {E : List (Value × Value)} (h : MapE w bm d E) : MapAt w bm := by obtain ⟨es, c, h, _⟩ := h; exact ⟨es, c, h⟩
theorem row_grown {w w' : World} {bm size n : Nat} {v : Value} {xs : List Value} (h : Row w size v n xs) (hg : w.grownBy w' (some bm)) (hb : MapAt w bm) : Row w' size v n xs := by
  obtain ⟨h1, a, cap, e, h3, h4, h5, h6, h7⟩ := h
  refine ⟨h1, a, cap, e, h3, h4, h5, h6, fun j u hj => ?_⟩
  obtain ⟨p, e2, hcl⟩ := h7 j u hj
  refine ⟨p, e2, ?_⟩
  refine (World.cell?_of_block (hg.block _ (World.block_lt_of_cell? w _ hcl) fun hs => ?_)).trans hcl
  obtain ⟨es, c, hr⟩ := hb
  have hs : p.block = bm := (Option.some.inj hs)
  simp [World.cell?, hs, hr] at hcl
theorem predR_grown {w w' : World} {bm : Nat} {v : Value} {p : List C} (h : PredR w v p) (hg : w.grownBy w' (some bm)) (hb : MapAt w bm) : PredR w' v p := by
  obtain ⟨us, e, hr, hs⟩ := h
  exact ⟨us, e, row_grown hr hg hb, fun x hx => row_grown (hs x hx) hg hb⟩

theorem none_no (w : World) (b bm : Nat) (hb : w.heap[b]? = some (.cells #[.map (some bm)] 45 (0, 0))) :
    Calls Tryz.prog 22 #[.pointer (some ⟨b, 0, none⟩)] w fun e w' => e = .returned (.bool false) ∧ w' = w := by
  have h0 := cell_of_row _ _ 0 _ _ _ hb
  have hq : ∀ (w : World) (r : Nat), (binOp .eql 43 (.map (some r)) (.map none)).run Tryz.prog w = .ok (.bool false) w := fun w r => by
    have := run_eql_map_nil (P := Tryz.prog) w 43 3 67 (some r) Tryz.underlying43
    simpa using this
  have hp : ∀ (w : World) (x : Addr), (binOp .eql 28 (.pointer (some x)) (.pointer none)).run Tryz.prog w = .ok (.bool false) w := fun w x => by kernel_rfl
  go_enter Tryz.func22, Tryz.ntmps22
  go_wp2
  go_ret
  exact ⟨rfl, rfl⟩
theorem new_any (w : World) : Calls Tryz.prog 17 #[] w fun e w' => ∃ b bm, e = .returned (.pointer (some ⟨b, 0, none⟩)) ∧ TabR w' b bm [] ∧ w.heap.size ≤ b ∧ w.heap.size ≤ bm ∧ Ext w w' := by
  have hmk : (Instr.makeMap 43 none).run Tryz.prog w = .ok (.map (some w.heap.size)) (w.alloc (.map #[] 0)) := run_makeMap (P := Tryz.prog) 43 w
  go_enter Tryz.func17, Tryz.ntmps17
  go_wp2
  go_ret
  refine ⟨w.heap.size + 1, w.heap.size, rfl, ⟨?_, ?_, fun _ h => by cases h⟩, Nat.le_succ _, Nat.le_refl _, ((Ext.refl w).alloc _).alloc _⟩
  · have := heap_alloc_new (w.alloc (.map #[] 0)) (.cells #[.map (some w.heap.size)] 45)
    rwa [World.size_alloc] at this
  · exact (MapE.made w (.int .i64)).ext ((Ext.refl _).alloc _)
/-- A publisher that may be. -/
def homeB (pub : Int) : Bool := decide (0 ≤ pub) && decide (pub < 256)
theorem home_yes (w : World) (pub : Int) (h : homeB pub = true) : Calls Tryz.prog 24 #[.int .i64 pub] w fun e w' => ∃ n : Nat, e = .returned (.int .i64 n) ∧ w' = w := by
  obtain ⟨h1, h2⟩ : 0 ≤ pub ∧ pub < 256 := by unfold homeB at h; simpa using h
  have d1 : decide (pub < 0) = false := decide_eq_false (by omega)
  have d2 : decide ((256 : Int) ≤ pub) = false := decide_eq_false (by omega)
  clear h
  go_enter Tryz.func24, Tryz.ntmps24
  go_wp2
  go_ret
  obtain ⟨n, rfl⟩ : ∃ n : Nat, pub = (n : Int) := ⟨pub.toNat, by omega⟩
  exact ⟨n / 4, congrArg (fun x => Ending.returned (Value.int .i64 x)) (show ((n : Int) / 4) = ((n / 4 : Nat) : Int) by omega), rfl⟩
theorem home_no (w : World) (pub : Int) (h : homeB pub = false) : Calls Tryz.prog 24 #[.int .i64 pub] w fun e w' => e = .returned (.int .i64 (-1)) ∧ w' = w := by
  by_cases h1 : pub < 0
  · have d1 : decide (pub < 0) = true := decide_eq_true h1
    clear h h1
    go_enter Tryz.func24, Tryz.ntmps24
    go_wp2
    go_ret
    exact ⟨rfl, rfl⟩
  · have h2 : (256 : Int) ≤ pub := by
      unfold homeB at h
      rw [decide_eq_true (by omega : (0 : Int) ≤ pub), Bool.true_and] at h
      have := of_decide_eq_false h; omega
    have d1 : decide (pub < 0) = false := decide_eq_false h1
    have d2 : decide ((256 : Int) ≤ pub) = true := decide_eq_true h2
    clear h h1 h2
    go_enter Tryz.func24, Tryz.ntmps24
    go_wp2
    go_ret
    exact ⟨rfl, rfl⟩

/-! An ad copied. -/
def csH (x : CS) (h : Value) : CS := ⟨x.c, h⟩
theorem csC_set : ∀ (l : List CS) (i : Nat) (hi : i < l.length) (h : Value), (l.flatMap csC).set (i * 7 + 6) h = (l.set i (csH l[i] h)).flatMap csC
  | x :: l, 0, _, h => by simp [csC, csH]
  | x :: l, i + 1, hi, h => by
    have ih := csC_set l i (by simpa using hi) h
    have e : (i + 1) * 7 + 6 = i * 7 + 6 + 7 := by omega
    simp only [List.flatMap_cons, List.set_cons_succ, List.getElem_cons_succ]
    rw [← ih, e]
    simp only [csC, List.cons_append, List.nil_append, List.set_cons_succ]
/-- A constraint's set, made by the call from block b on. -/
def SetN (b : Nat) (w : World) (x : CS) : Prop := w.ownsRow b 50 4 x.h x.c.set.length (x.c.set.flatMap vC)
theorem set_oneT {w : World} {h : Value} {l : List V} (k : SetR w h l) : h.oneCell' = true := by
  obtain ⟨a, cap, rfl, _, _⟩ := Row.shape k; rfl
theorem info_adS : (Tryz.prog.info? 30).map (·.size) = some 3 := by kernel_rfl
theorem own_frozen {base size n cap g : Nat} {e : TypeId} {w : World} {xs : List Value} (h : w.ownsRow base e size (.slice (some ⟨g, 0, none⟩) n cap) n xs) (i : Nat) : w.frozen? ⟨g, i, none⟩ = false := by
  rcases h.2 with ⟨e, _⟩ | ⟨g', c, cur, e, hb, hg, _⟩
  · cases e
  · cases e
    exact frozen_of_row _ _ _ _ _ hg

theorem grown_setT (w : World) (b j : Nat) (v : Value) : w.grownBy (w.setCell ⟨b, j, none⟩ v) (some b) := by
  have h := Below.setCell (Below.refl b w) (p := ⟨b, j, none⟩) (Nat.le_refl _) v
  refine ⟨h.os, h.tape, h.output, by rw [World.size_setCell]; exact Nat.le_refl _, fun k hk hne => ?_⟩
  exact setCell_block_far w ⟨b, j, none⟩ v k (fun e => hne (by rw [e]))
theorem grown_rowT (w : World) (b : Nat) (cs : Array Value) : w.grownBy (w.setRow b cs) (some b) := by
  refine ⟨rfl, rfl, rfl, by simp, fun k hk hne => ?_⟩
  exact setRow_other w b k cs (fun e => hne (by rw [e]))

/-- A predicate whose memory was made from block b on. -/
def PredO (b : Nat) (w : World) (h : Value) (p : List C) : Prop := ∃ us : List CS, us.map CS.c = p ∧ w.ownsRow b 53 7 h us.length (us.flatMap csC) ∧ ∀ x ∈ us, SetN b w x
theorem PredO.pred {b : Nat} {w : World} {h : Value} {p : List C} (k : PredO b w h p) : PredR w h p := by
  obtain ⟨us, rfl, h1, h2⟩ := k
  exact PredR.mk us (Row.of_own h1) fun x hx => Row.of_own (h2 x hx)
theorem PredO.ext {b : Nat} {w w' : World} {h : Value} {p : List C} (k : PredO b w h p) (hx : Ext w w') : PredO b w' h p := by
  obtain ⟨us, e, h1, h2⟩ := k
  exact ⟨us, e, own_ext h1 hx, fun x hm => own_ext (h2 x hm) hx⟩
theorem PredO.keep {b base size n : Nat} {w w' : World} {h : Value} {p : List C} {v : Value} {e : TypeId} {xs : List Value} (k : PredO b w h p) (hv : w.ownsRow base e size v n xs) (h1 : e ≠ 53) (h2 : e ≠ 50) (hg : w.grownBy w' v.ownBlock) : PredO b w' h p := by
  obtain ⟨us, e, k1, k2⟩ := k
  exact ⟨us, e, own_keep k1 hg (own_apart hv k1 h1), fun x hm => own_keep (k2 x hm) hg (own_apart hv (k2 x hm) h2)⟩

set_option maxRecDepth 100000 in
set_option maxHeartbeats 8000000 in
theorem copied_own (w : World) (pub : Int) (ver : Nat) (h : Value) (p : List C) (hp : PredR w h p) (hm : mayP p = true) :
    Calls Tryz.prog 23 #[.agg #[.int .i64 pub, .int .u64 (ver : Nat), h]] w fun e w' => ∃ h', e = .returned (.agg #[.int .i64 pub, .int .u64 (ver : Nat), h']) ∧ PredO w.heap.size w' h' p ∧ Ext w w' := by
  obtain ⟨us, rfl, hrow, hsets⟩ := hp
  have hlen : us.length ≤ 6 := by have := may_len hm; rwa [List.length_map] at this
  have hsl : ∀ x ∈ us, x.c.set.length ≤ 6 := fun x hx => may_set (may_all hm _ (List.mem_map.2 ⟨x, hx, rfl⟩))
  obtain ⟨hx0, hb1, hb2⟩ := boxes2 w (.cells #[.int .i64 pub, .int .u64 (ver : Nat), h] 30) (.cells #[.int .i64 0, .int .u64 0, .slice none 0 0] 30)
  have hcl := cloneC_any _ h us (hrow.ext hx0) (fun x hx => set_oneT (hsets x hx)) (by omega)
  have hsz : (((w.alloc (.cells #[.int .i64 pub, .int .u64 (ver : Nat), h] 30)).alloc (.cells #[.int .i64 0, .int .u64 0, .slice none 0 0] 30))).heap.size = w.heap.size + 1 + 1 := by rw [World.size_alloc, World.size_alloc]
  obtain ⟨a, cap, rfl, hc, hcm⟩ := Row.shape hrow
  have c0 := cell_of_row _ _ 0 _ _ _ hb1
  have c1 := cell_of_row _ _ 1 _ _ _ hb1
  have c2 := cell_of_row _ _ 2 _ _ _ hb1
  have HB1 := Lib.hid hb1
  have HB2 := Lib.hid hb2
  have HX0 := Lib.hid hx0
  have HSZ := Lib.hid hsz
  have HLEN := Lib.hid hlen
  have HSETS := Lib.hid hsets
  have HSL := Lib.hid hsl
  obtain ⟨n, hn⟩ : ∃ n, n = us.length := ⟨_, rfl⟩
  have HN := Lib.hid hn
  rw [← hn] at hcl c2
  clear hb1 hb2 hx0 hsz hrow hm hlen hsets hsl
  rw [← hn] at HB1 HX0 HB2 HSZ ⊢
  clear hn
  go_enter Tryz.func23, Tryz.ntmps23
  go_wp2_with fail
  generalize ((w.alloc (.cells #[.int .i64 pub, .int .u64 (ver : Nat), .slice a n cap] 30)).alloc (.cells #[.int .i64 0, .int .u64 0, .slice none 0 0] 30)) = w0 at *
  refine hcl.mono ?_
  rintro e w1 ⟨v3, rfl, ho, hx1, _⟩
  clear hcl c0 c1 c2
  obtain ⟨a3, cap3, rfl, hc3, hm3⟩ := own_shape ho
  have HO := Lib.hid ho
  have HX1 := Lib.hid hx1
  have ha3 : 0 < n → ∃ g, a3 = some ⟨g, 0, none⟩ ∧ w0.heap.size ≤ g := fun h0 => by
    rcases ho.2 with ⟨e, _⟩ | ⟨g, c, cur, e, hb, _⟩
    · simp only [Value.slice.injEq] at e; omega
    · simp only [Value.slice.injEq] at e; exact ⟨g, e.1, hb⟩
  have HA3 := Lib.hid ha3
  clear ho hx1 ha3
  go_wp2_with fail
  go_loopw [4, 10] (fun _ i wr => ∃ (k : Nat) (vs : List CS), k ≤ n ∧ i = .int .i64 k ∧ Hid (vs.map CS.c = us.map CS.c) ∧ Hid (wr.ownsRow w0.heap.size 53 7 (.slice a3 n cap3) n (vs.flatMap csC)) ∧ Hid (∀ x ∈ vs, SetR w x.h x.c.set ∨ SetN w0.heap.size wr x) ∧ Hid (∀ j (hj : j < vs.length), j < k → SetN w0.heap.size wr vs[j]) ∧ Hid (Ext w0 wr)) (fun _ i _ => n - (intOf i).toNat)
  case atStart => exact ⟨0, us, Nat.zero_le _, rfl, rfl, HO.out, fun x hx => .inl (HSETS.out x hx), fun j _ hj => absurd hj (Nat.not_lt_zero _), HX1.out⟩
  case round =>
    clear HX1 HO
    have hn6 : n ≤ 6 := by have h1 := HLEN.out; have h2 := HN.out; omega
    obtain ⟨k, vs, hk, rfl, hvs, hown, hset, hnw, hx⟩ := hrel
    by_cases hlt : k < n
    · have hI : decide ((k : Int) < (n : Int)) = true := decide_eq_true (by omega)
      have hkN : (k : Int) < (n : Int) := by omega
      obtain ⟨g, rfl, hg⟩ := HA3.out (by omega)
      have hvl : vs.length = n := by have := congrArg List.length hvs.out; rw [List.length_map, List.length_map] at this; rw [this]; exact HN.out.symm
      have hkl : k < vs.length := by omega
      have hmem : vs[k] ∈ vs := List.getElem_mem hkl
      have h6 : vs[k].c.set.length ≤ 6 := by
        have hm : vs[k].c ∈ us.map CS.c := by rw [← hvs.out]; exact List.mem_map.2 ⟨_, hmem, rfl⟩
        obtain ⟨x, hx, e⟩ := List.mem_map.1 hm
        rw [← e]; exact HSL.out x hx
      have hsk : SetR wr vs[k].h vs[k].c.set := by
        rcases hset.out _ hmem with h | h
        · exact h.ext (HX0.out.trans hx.out)
        · exact Row.of_own h
      have hfl := flat_len csC 7 csC_len vs
      have hcell : wr.cell? ⟨g, k * 7 + 6, none⟩ = some vs[k].h := by
        have hr := Row.of_own hown.out
        have g0 := flat_get csC 7 csC_len vs k hkl 6 (by decide)
        have := Row.cellAt hr (u := vs[k].h) (by rw [g0]; rfl) (by omega)
        simpa using this
      have hcl := cloneV_any wr _ vs[k].c.set hsk (by omega)
      obtain ⟨ah, ch, hvh, _, _⟩ := Row.shape hsk
      have HVH := Lib.hid hvh
      rw [hvh] at hcell hcl
      have HCL := Lib.hid hcl
      clear hcl hsk hvh hmem
      go_wp2_with fail
      refine HCL.out.mono ?_
      rintro e w2 ⟨v2, rfl, ho2, hx2⟩
      have h2 := own_ext hown.out hx2
      have hfr := own_frozen h2 (k * 7 + 6)
      have hset1 := own_set1 h2 (j := k * 7 + 6) (by rw [hfl, hvl]; omega) v2
      rw [csC_set vs k hkl v2] at hset1
      have hc2 := hx2.cell hcell
      have hxx : Ext w0 (w2.setCell ⟨g, k * 7 + 6, none⟩ v2) := (hx.out.trans hx2).grown_none (v := .slice (some ⟨g, 0, none⟩) n cap3) hset1.2 (fun q hq => by simp only [Value.ownBlock, Option.some.injEq] at hq; omega)
      have hkeep : ∀ x, SetN w0.heap.size w2 x → SetN w0.heap.size (w2.setCell ⟨g, k * 7 + 6, none⟩ v2) x := fun x hx => own_keep hx hset1.2 fun q hq e => own_apart h2 hx (by decide) q hq e
      have hnew : SetN w0.heap.size (w2.setCell ⟨g, k * 7 + 6, none⟩ v2) (csH vs[k] v2) := hkeep _ (own_low ho2 hx.out.size)
      have hset' : Hid (∀ x ∈ vs.set k (csH vs[k] v2), SetR w x.h x.c.set ∨ SetN w0.heap.size (w2.setCell ⟨g, k * 7 + 6, none⟩ v2) x) := fun x hxm => by
        rcases List.mem_or_eq_of_mem_set hxm with h | rfl
        · exact (hset.out x h).imp id fun h => hkeep x (own_ext h hx2)
        · exact .inr hnew
      have hnw' : Hid (∀ j (hj : j < (vs.set k (csH vs[k] v2)).length), j < k + 1 → SetN w0.heap.size (w2.setCell ⟨g, k * 7 + 6, none⟩ v2) (vs.set k (csH vs[k] v2))[j]) := fun j hj hjk => by
        rw [List.length_set] at hj
        by_cases hjj : j = k
        · subst hjj; rw [List.getElem_set_self]; exact hnew
        · rw [List.getElem_set_ne (fun e => hjj e.symm)]
          exact hkeep _ (own_ext (hnw.out j hj (by omega)) hx2)
      have HROW := Lib.hid hset1.1
      have HXX := Lib.hid hxx
      have hvs' : Hid ((vs.set k (csH vs[k] v2)).map CS.c = us.map CS.c) := by
        show _ = _
        rw [List.map_set, show (csH vs[k] v2).c = vs[k].c from rfl]
        have : (vs.map CS.c).set k vs[k].c = vs.map CS.c := by
          have e : vs[k].c = (vs.map CS.c)[k]'(by rw [List.length_map]; exact hkl) := by rw [List.getElem_map]
          rw [e, List.set_getElem_self]
        rw [this]; exact hvs.out
      obtain ⟨a2, c2, rfl, _, _⟩ := own_shape ho2
      clear hset1 h2 ho2 hx2 hcell hkeep hnew hxx hfl HVH HCL
      generalize hsv : vs.set k (csH vs[k] (.slice a2 vs[k].c.set.length c2)) = vs' at *
      clear hsv
      generalize vs[k].c.set.length = L2 at *
      generalize vs[k].h = vh at *
      go_wp2_with fail
      go_roundw
      case rel => exact ⟨k + 1, vs', hlt, by go_num, hvs', HROW.out, hset', hnw', HXX.out⟩
      case measure => simp [intOf]; omega
    · obtain rfl : k = n := by omega
      have hI : decide ((k : Int) < (k : Int)) = false := decide_eq_false (by omega)
      have hb1 := block_later HB1.out hx.out
      have hb2 := block_later HB2.out hx.out
      have c0 := cell_of_row _ _ 0 _ _ _ hb1
      have c1 := cell_of_row _ _ 1 _ _ _ hb1
      have c2 := cell_of_row _ _ 2 _ _ _ hb1
      have hz := frozen_of_row _ _ 2 _ _ hb1
      have hxf : Ext w (wr.setCell ⟨w.heap.size, 2, none⟩ (.slice a3 k cap3)) := (HX0.out.trans hx.out).setCell (Nat.le_refl _) _
      have hbf : (wr.setCell ⟨w.heap.size, 2, none⟩ (.slice a3 k cap3)).heap[w.heap.size + 1]? = some (.cells #[.int .i64 0, .int .u64 0, .slice none 0 0] 30 (0, 0)) := (setCell_block_far wr ⟨w.heap.size, 2, none⟩ _ _ (Nat.succ_ne_self _)).trans hb2
      have HW1 := grown_setT wr w.heap.size 2 (.slice a3 k cap3)
      have h0sz := HSZ.out
      have HBF := Lib.hid hbf
      have HXF := Lib.hid hxf
      have HG1 := Lib.hid HW1
      clear hbf hxf HW1 hb1 hb2
      go_wp2_with (refine wpList_store_whole 30 (.tmp 2) (.tmp 26) rfl rfl (w.heap.size + 1) rfl #[.int .i64 pub, .int .u64 (ver : Nat), .slice a3 k cap3] rfl _ 30 HBF.out rfl info_adS (by simp [Value.oneCell']) ?_)
      have hq := setRow_heap _ _ _ #[.int .i64 pub, .int .u64 (ver : Nat), .slice a3 k cap3] _ _ HBF.out
      have HG2 := Lib.hid (grown_rowT (wr.setCell ⟨w.heap.size, 2, none⟩ (.slice a3 k cap3)) (w.heap.size + 1) #[.int .i64 pub, .int .u64 (ver : Nat), .slice a3 k cap3])
      have hxe := HXF.out.setRow (g := w.heap.size + 1) (Nat.le_succ _) #[.int .i64 pub, .int .u64 (ver : Nat), .slice a3 k cap3]
      generalize hWf : (wr.setCell ⟨w.heap.size, 2, none⟩ (.slice a3 k cap3)).setRow (w.heap.size + 1) #[.int .i64 pub, .int .u64 (ver : Nat), .slice a3 k cap3] = Wf at *
      have g0 := cell_of_row _ _ 0 _ _ _ hq
      have g1 := cell_of_row _ _ 1 _ _ _ hq
      have g2 := cell_of_row _ _ 2 _ _ _ hq
      have keep : ∀ {e : TypeId} {size n : Nat} {v : Value} {xs : List Value}, wr.ownsRow w0.heap.size e size v n xs → Wf.ownsRow w0.heap.size e size v n xs := fun h =>
        own_keep (own_keep h HG1.out fun q hq e => by have := own_base h q hq; simp only [Option.some.injEq] at e; omega) HG2.out fun q hq e => by have := own_base h q hq; simp only [Option.some.injEq] at e; omega
      have hvl : vs.length = k := by have := congrArg List.length hvs.out; rw [List.length_map, List.length_map] at this; rw [this]; exact HN.out.symm
      refine bodyPost_ret (v := .agg #[.int .i64 pub, .int .u64 (ver : Nat), .slice a3 k cap3]) (by simp [results, Tryz.results23, go_sem, g0, g1, g2]) rfl ⟨_, rfl, ?_, hxe⟩
      rw [← hvs.out]
      have h0le : w.heap.size ≤ w0.heap.size := by omega
      refine ⟨vs, rfl, by rw [hvl]; exact own_low (keep hown.out) h0le, fun x hxm => ?_⟩
      obtain ⟨j, hj, rfl⟩ := List.getElem_of_mem hxm
      exact own_low (keep (hnw.out j hj (by omega))) h0le
theorem copied_any (w : World) (pub : Int) (ver : Nat) (h : Value) (p : List C) (hp : PredR w h p) (hm : mayP p = true) :
    Calls Tryz.prog 23 #[.agg #[.int .i64 pub, .int .u64 (ver : Nat), h]] w fun e w' => ∃ h', e = .returned (.agg #[.int .i64 pub, .int .u64 (ver : Nat), h']) ∧ PredR w' h' p ∧ Ext w w' :=
  (copied_own w pub ver h p hp hm).mono fun _ _ ⟨h', e, h1, h2⟩ => ⟨h', e, h1.pred, h2⟩
end Go.Proofs.YtabegbelkfhbcaaGreat

namespace Go.Proofs.YtabegbelkfhbcaaGreat
open Go.RowKit Go.MapKept Go.ChangeMaps

/-- A range over map b whose state lies in block r; left: the entries that are still to come. -/
def RangeE (w : World) (r b : Nat) (d : TypeDesc) (E left : List (Value × Value)) : Prop :=
  ∃ es clock since seen c0, w.heap[b]? = some (.map es clock) ∧ Stamped es clock ∧ (∀ x ∈ es.toList, IsKey d x.key) ∧ es.toList.map (fun x => (x.key, x.val)) = E ∧
    w.heap[r]? = some (.mapIter (some b) since seen c0) ∧ (∀ x ∈ es.toList, x.born < since) ∧ since ≤ c0 ∧ since ≤ clock ∧ (leftOf es seen).toList.map (fun x => (x.key, x.val)) = left
theorem RangeE.map {w : World} {r b : Nat} {d : TypeDesc} {E left : List (Value × Value)} (h : RangeE w r b d E left) : MapE w b d E := by
  obtain ⟨es, clock, since, seen, c0, h1, h2, h3, h4, _⟩ := h
  exact ⟨es, clock, h1, h2, h3, h4⟩
theorem RangeE.lt {w : World} {r b : Nat} {d : TypeDesc} {E left : List (Value × Value)} (h : RangeE w r b d E left) : r < w.heap.size := by
  obtain ⟨es, clock, since, seen, c0, _, _, _, _, h5, _⟩ := h
  exact (Array.getElem?_eq_some_iff.1 h5).1
theorem RangeE.ne {w : World} {r b : Nat} {d : TypeDesc} {E left : List (Value × Value)} (h : RangeE w r b d E left) : r ≠ b := by
  obtain ⟨es, clock, since, seen, c0, h1, _, _, _, h5, _⟩ := h
  intro e
  rw [e, h1] at h5
  cases h5
theorem RangeE.sub {w : World} {r b : Nat} {d : TypeDesc} {E left : List (Value × Value)} (h : RangeE w r b d E left) : left.Sublist E := by
  obtain ⟨es, clock, since, seen, c0, h1, _, _, h4, h5, _, _, _, h9⟩ := h
  rw [← h4, ← h9]
  refine List.Sublist.map _ ?_
  unfold leftOf
  rw [Array.toList_filter]
  exact List.filter_sublist
theorem RangeE.ext {w w' : World} {r b : Nat} {d : TypeDesc} {E left : List (Value × Value)} (h : RangeE w r b d E left) (hx : Ext w w') : RangeE w' r b d E left := by
  obtain ⟨es, clock, since, seen, c0, h1, h2, h3, h4, h5, rest⟩ := h
  exact ⟨es, clock, since, seen, c0, by rw [hx.block b (Array.getElem?_eq_some_iff.1 h1).1]; exact h1, h2, h3, h4, by rw [hx.block r (Array.getElem?_eq_some_iff.1 h5).1]; exact h5, rest⟩
theorem RangeE.grown {w w' : World} {r b : Nat} {d : TypeDesc} {E left : List (Value × Value)} {row : Option Nat} (h : RangeE w r b d E left) (hg : w.grownBy w' row) (hb : row ≠ some b) (hr : row ≠ some r) : RangeE w' r b d E left := by
  obtain ⟨es, clock, since, seen, c0, h1, h2, h3, h4, h5, rest⟩ := h
  exact ⟨es, clock, since, seen, c0, by rw [hg.block b (Array.getElem?_eq_some_iff.1 h1).1 (Ne.symm hb)]; exact h1, h2, h3, h4, by rw [hg.block r (Array.getElem?_eq_some_iff.1 h5).1 (Ne.symm hr)]; exact h5, rest⟩
theorem RangeE.but {w w' : World} {r b c : Nat} {d : TypeDesc} {E left : List (Value × Value)} (h : RangeE w r b d E left) (hg : But c w w') (hb : b ≠ c) (hr : r ≠ c) : RangeE w' r b d E left := by
  obtain ⟨es, clock, since, seen, c0, h1, h2, h3, h4, h5, rest⟩ := h
  exact ⟨es, clock, since, seen, c0, by rw [hg.block b hb]; exact h1, h2, h3, h4, by rw [hg.block r hr]; exact h5, rest⟩
theorem MapE.grown {w w' : World} {b : Nat} {d : TypeDesc} {E : List (Value × Value)} {row : Option Nat} (h : MapE w b d E) (hg : w.grownBy w' row) (hb : row ≠ some b) : MapE w' b d E := by
  obtain ⟨es, clock, h1, h2⟩ := h
  exact ⟨es, clock, by rw [hg.block b (Array.getElem?_eq_some_iff.1 h1).1 (Ne.symm hb)]; exact h1, h2⟩
theorem But.grown {b : Nat} {w w' : World} (h : But b w w') : w.grownBy w' (some b) := ⟨h.os, h.tape, h.output, by rw [h.size]; exact Nat.le_refl _, fun k _ hk => h.block k (fun e => hk (by rw [e]))⟩
theorem but_drew {b : Nat} {w : World} : But b w w.drew := ⟨rfl, rfl, rfl, rfl, Nat.le_succ _, fun _ _ => rfl⟩

/-- One of a row whose stamps differ, struck. -/
theorem strike_perm {α : Type} (f : α → Nat) : ∀ {l : List α} {e : α}, (l.map f).Nodup → e ∈ l → l.Perm (e :: l.filter fun x => !(f x == f e))
  | x :: l, e, hn, he => by
    rw [List.map_cons, List.nodup_cons] at hn
    by_cases h : f x = f e
    · have hx : x = e := by
        rcases List.mem_cons.1 he with rfl | he
        · rfl
        · exact absurd (List.mem_map.2 ⟨e, he, h.symm⟩) hn.1
      subst hx
      have e1 : (x :: l).filter (fun y => !(f y == f x)) = l := by
        rw [List.filter_cons_of_neg (by simp)]
        exact List.filter_eq_self.2 fun y hy => by
          have : f y ≠ f x := fun e => hn.1 (List.mem_map.2 ⟨y, hy, e⟩)
          simpa using this
      rw [e1]
    · have he' : e ∈ l := by
        rcases List.mem_cons.1 he with rfl | he
        · exact absurd rfl h
        · exact he
      rw [List.filter_cons_of_pos (by simpa using h)]
      exact ((strike_perm f hn.2 he').cons x).trans (List.Perm.swap _ _ _)
theorem left_push (es : Array MapEntry) (seen : Array Nat) (e : MapEntry) : (leftOf es (seen.push e.born)).toList = ((leftOf es seen).toList).filter fun x => !(x.born == e.born) := by
  unfold leftOf
  rw [Array.toList_filter, Array.toList_filter, List.filter_filter]
  refine List.filter_congr fun x _ => ?_
  rw [contains_push, Bool.not_or, Bool.and_comm]

section
variable {P : Program}
theorem MapE.range {w : World} {b : Nat} {d : TypeDesc} {E : List (Value × Value)} (h : MapE w b d E) {t k e : TypeId} (ht : P.underlying t = some (.map k e)) :
    ∃ w', (Instr.range t (.map (some b))).run P w = .ok (.pointer (some ⟨w.heap.size, 0, none⟩)) w' ∧ RangeE w' w.heap.size b d E E ∧ Ext w w' := by
  have hlt := h.lt
  obtain ⟨es, clock, hb, hs, hk, rfl⟩ := h
  refine ⟨_, run_range_map w t k e b es clock ht hb, ⟨es, clock, clock, #[], clock, ((MapKept.heap_alloc w _).2 b hlt).trans hb, hs, hk, rfl, (MapKept.heap_alloc w _).1, hs.1, Nat.le_refl _, Nat.le_refl _, ?_⟩, (Ext.refl w).alloc _⟩
  have e1 : leftOf es #[] = es := by unfold leftOf; exact Array.filter_eq_self.2 (by simp)
  rw [e1]
theorem RangeE.next {w : World} {r b : Nat} {d : TypeDesc} {E left : List (Value × Value)} (h : RangeE w r b d E left) (ty : TypeId) :
    (left = [] ∧ (Instr.next (.pointer (some ⟨r, 0, none⟩)) false ty).run P w = .ok (.tuple #[.bool false]) w) ∨
    ∃ k v left' w', left.Perm ((k, v) :: left') ∧ (k, v) ∈ E ∧ (Instr.next (.pointer (some ⟨r, 0, none⟩)) false ty).run P w = .ok (.tuple #[.bool true, k, v]) w' ∧ RangeE w' r b d E left' ∧ But r w w' ∧ (Instr.entry (.pointer (some ⟨r, 0, none⟩))).run P w' = .ok (.tuple #[k, v]) w' := by
  have hne := h.ne
  obtain ⟨es, clock, since, seen, c0, hb, hs, hk, hE, hr, hold, hsc, hsl, hl⟩ := h
  rcases run_next_at (P := P) w ty r b since c0 seen es clock hr hb hold hsc with ⟨h0, hrun⟩ | ⟨e, he, w1, hw1, hrun⟩
  · refine .inl ⟨?_, hrun⟩
    rw [← hl]
    have : (leftOf es seen).toList = [] := List.eq_nil_of_length_eq_zero (by rw [Array.length_toList]; exact h0)
    rw [this]; rfl
  · have hm := mem_left he
    have hb1 : w1.heap[b]? = some (.map es clock) := by rcases hw1 with rfl | rfl <;> exact hb
    have hr1 : w1.heap[r]? = some (.mapIter (some b) since seen c0) := by rcases hw1 with rfl | rfl <;> exact hr
    have hb2 : (setBlock w1 r (.mapIter (some b) since (seen.push e.born) clock)).heap[b]? = some (.map es clock) := ((but_set (b := r)).block b (Ne.symm hne)).trans hb1
    have hr2 : (setBlock w1 r (.mapIter (some b) since (seen.push e.born) clock)).heap[r]? = some (.mapIter (some b) since (seen.push e.born) clock) := by
      unfold setBlock
      exact Array.getElem?_setIfInBounds_self_of_lt (Array.getElem?_eq_some_iff.1 hr1).1
    refine .inr ⟨e.key, e.val, (leftOf es (seen.push e.born)).toList.map (fun x => (x.key, x.val)), _, ?_, ?_, hrun, ⟨es, clock, since, seen.push e.born, clock, hb2, hs, hk, hE, hr2, hold, hsl, hsl, rfl⟩, ?_, run_entry_at (P := P) _ r b since seen es clock e hr2 hb2 hm.1 hs.2.1⟩
    · rw [← hl, left_push]
      refine List.Perm.map (fun x : MapEntry => (x.key, x.val)) (strike_perm MapEntry.born ?_ he)
      refine List.Nodup.sublist (List.Sublist.map _ ?_) hs.2.1
      unfold leftOf
      rw [Array.toList_filter]
      exact List.filter_sublist
    · rw [← hE]; exact List.mem_map.2 ⟨e, hm.1, rfl⟩
    · rcases hw1 with rfl | rfl
      · exact but_set
      · exact but_drew.trans but_set
/-- A store under a key that has come up already. -/
theorem RangeE.put {w : World} {r b : Nat} {d : TypeDesc} {E left : List (Value × Value)} (h : RangeE w r b d E left) {t k e : TypeId} (ht : P.underlying t = some (.map k e)) (hd : P.underlying k = some d) {key u v : Value} {j : Nat} (hj : E[j]? = some (key, u)) (hn : ∀ p ∈ left, p.1 ≠ key) :
    ∃ w', (Instr.mapUpdate t (.map (some b)) key v).run P w = .ok () w' ∧ But b w w' ∧ RangeE w' r b d (E.set j (key, v)) left := by
  have hne := h.ne
  obtain ⟨es, clock, since, seen, c0, hb, hs, hks, hE, hr, hold, hsc, hsl, hl⟩ := h
  have hnd : (E.map (·.1)).Nodup := by rw [← hE, List.map_map]; exact hs.2.2
  have hx : ∃ x, es[j]? = some x ∧ x.key = key ∧ x.val = u := by
    rw [← hE, List.getElem?_map] at hj
    cases hx : es.toList[j]? with
    | none => rw [hx] at hj; cases hj
    | some x =>
      rw [hx] at hj
      simp only [Option.map_some, Option.some.injEq, Prod.mk.injEq] at hj
      exact ⟨x, by simpa using hx, hj.1, hj.2⟩
  obtain ⟨x, hxj, hxk, hxu⟩ := hx
  have hk : IsKey d key := by rw [← hxk]; exact hks x (Array.mem_toList_iff.2 (Array.mem_of_getElem? hxj))
  rcases findNow_spec hk es.toList 0 hks with ⟨h1, h2⟩ | ⟨j', x', h1, h2, h3⟩
  · exact absurd hxk (h2 x (Array.mem_toList_iff.2 (Array.mem_of_getElem? hxj)))
  · have hj' : es[j']? = some x' := by simpa using h2
    have hjj : j' = j := by
      have l1 : j' < (es.toList.map (·.key)).length := by rw [List.length_map, Array.length_toList]; exact (Array.getElem?_eq_some_iff.1 hj').1
      have l2 : j < (es.toList.map (·.key)).length := by rw [List.length_map, Array.length_toList]; exact (Array.getElem?_eq_some_iff.1 hxj).1
      refine (List.getElem_inj (xs := es.toList.map (·.key)) (h₀ := l1) (h₁ := l2) hs.2.2).1 ?_
      have a1 : (es.toList.map (·.key))[j']? = some x'.key := by rw [List.getElem?_map, h2]; rfl
      have a2 : (es.toList.map (·.key))[j]? = some x.key := by rw [List.getElem?_map]; simp [hxj]
      rw [List.getElem?_eq_getElem l1] at a1
      rw [List.getElem?_eq_getElem l2] at a2
      rw [Option.some.inj a1, Option.some.inj a2, hxk, h3]
    subst hjj
    have hkey : ∀ e', es[j']? = some e' → ({ e' with key := key, val := v } : MapEntry).key = e'.key := fun e' he' => by rw [hj'] at he'; cases he'; exact h3.symm
    have hborn : (es.modify j' fun e => { e with key := key, val := v }).toList.map (·.born) = es.toList.map (·.born) := by
      apply List.ext_getElem?
      intro i
      simp only [List.getElem?_map, Array.getElem?_toList, Array.getElem?_modify]
      by_cases hij : j' = i
      · subst hij; rw [if_pos rfl, hj']; rfl
      · rw [if_neg hij]
    refine ⟨setBlock w b (.map (es.modify j' fun e => { e with key := key, val := v }) clock), ?_, but_set, _, clock, since, seen, c0, heap_setBlock_same hb _, stamped_modify hs _ _ (fun _ _ => rfl) (fun e' _ he' => hkey e' he'), isKey_modify hks _ _ hkey, ?_, (heap_setBlock_other hb _ hne).trans hr, ?_, hsc, hsl, ?_⟩
    · simp only [Instr.mapUpdate, Sem.run_bind, run_underlying ht, Go.MapKept.run_getObj_map hb, Go.MapKept.run_checkKey hd hk, Go.MapKept.run_findKey hd h1, Result.andThen]; simp [hj', h3, run_keyThatStays hk, Go.MapKept.run_setObj_map _ hb, setBlock]
    · rw [map_modify_set es j' x' hj' key v, hE]
    · intro y hy
      have : y.born ∈ (es.modify j' fun e => { e with key := key, val := v }).toList.map (·.born) := List.mem_map.2 ⟨y, hy, rfl⟩
      rw [hborn] at this
      obtain ⟨z, hz, e⟩ := List.mem_map.1 this
      rw [← e]; exact hold z hz
    · -- the entries that are left are others
      rw [← hl]
      have hseen : seen.contains x'.born = true := by
        cases hc : seen.contains x'.born with
        | true => rfl
        | false =>
          refine absurd h3 (hn (x'.key, x'.val) ?_)
          rw [← hl]
          refine List.mem_map.2 ⟨x', ?_, rfl⟩
          unfold leftOf
          rw [Array.toList_filter, List.mem_filter]
          exact ⟨Array.mem_toList_iff.2 (Array.mem_of_getElem? hj'), by rw [hc]; rfl⟩
      unfold leftOf
      rw [Array.toList_filter, Array.toList_filter]
      have hset : (es.modify j' fun e => { e with key := key, val := v }).toList = es.toList.set j' { x' with key := key, val := v } := by
        apply List.ext_getElem?
        intro i
        simp only [Array.getElem?_toList, Array.getElem?_modify, List.getElem?_set]
        by_cases hij : j' = i
        · subst hij; rw [if_pos rfl, if_pos rfl, hj', if_pos (by rw [Array.length_toList]; exact (Array.getElem?_eq_some_iff.1 hj').1)]; rfl
        · rw [if_neg hij, if_neg hij]
      rw [hset]
      have key2 : ∀ (l : List MapEntry) (i : Nat), l[i]? = some x' → (l.set i { x' with key := key, val := v }).filter (fun e => !seen.contains e.born) = l.filter (fun e => !seen.contains e.born) := by
        intro l
        induction l with
        | nil => intro i h; cases h
        | cons y l ih =>
          intro i hi
          cases i with
          | zero =>
            simp only [List.getElem?_cons_zero, Option.some.injEq] at hi
            subst hi
            rw [List.set_cons_zero, List.filter_cons_of_neg (by simp only [hseen]; decide), List.filter_cons_of_neg (by rw [hseen]; decide)]
          | succ i =>
            rw [List.set_cons_succ, List.filter_cons, List.filter_cons, ih i (by simpa using hi)]
      rw [key2 _ _ h2]

/-- An entry that is taken, to be stored into. -/
def EntryAt (w : World) (b : Nat) (d : TypeDesc) (E : List (Value × Value)) (j st : Nat) : Prop :=
  ∃ es clock, w.heap[b]? = some (.map es clock) ∧ Stamped es clock ∧ (∀ x ∈ es.toList, IsKey d x.key) ∧ es.toList.map (fun x => (x.key, x.val)) = E ∧ ∃ x, es[j]? = some x ∧ x.born = st
theorem EntryAt.map {w : World} {b : Nat} {d : TypeDesc} {E : List (Value × Value)} {j st : Nat} (h : EntryAt w b d E j st) : MapE w b d E := by
  obtain ⟨es, clock, h1, h2, h3, h4, _⟩ := h
  exact ⟨es, clock, h1, h2, h3, h4⟩
theorem EntryAt.ext {w w' : World} {b : Nat} {d : TypeDesc} {E : List (Value × Value)} {j st : Nat} (h : EntryAt w b d E j st) (hx : Ext w w') : EntryAt w' b d E j st := by
  obtain ⟨es, clock, h1, h2⟩ := h
  exact ⟨es, clock, by rw [hx.block b (Array.getElem?_eq_some_iff.1 h1).1]; exact h1, h2⟩
theorem EntryAt.grown {w w' : World} {b : Nat} {d : TypeDesc} {E : List (Value × Value)} {j st : Nat} {row : Option Nat} (h : EntryAt w b d E j st) (hg : w.grownBy w' row) (hb : row ≠ some b) : EntryAt w' b d E j st := by
  obtain ⟨es, clock, h1, h2⟩ := h
  exact ⟨es, clock, by rw [hg.block b (Array.getElem?_eq_some_iff.1 h1).1 (Ne.symm hb)]; exact h1, h2⟩
theorem MapE.entry {w : World} {b : Nat} {d : TypeDesc} {E : List (Value × Value)} (h : MapE w b d E) {t k e : TypeId} (ht : P.underlying t = some (.map k e)) (hd : P.underlying k = some d) {z : Value} (hz : ∀ w, (zeroValue e).run P w = .ok z w) {key : Value} (hk : IsKey d key) :
    ∃ w' st, But b w w' ∧
      (((∀ p ∈ E, p.1 ≠ key) ∧ (Instr.mapEntry t (.map (some b)) key).run P w = .ok (.tuple #[z, goInt (st : Nat)]) w' ∧ EntryAt w' b d (E ++ [(key, z)]) E.length st) ∨
       ∃ (j : Nat) (u : Value), E[j]? = some (key, u) ∧ (Instr.mapEntry t (.map (some b)) key).run P w = .ok (.tuple #[u, goInt (st : Nat)]) w' ∧ EntryAt w' b d E j st) := by
  obtain ⟨es, clock, hb, hs, hks, rfl⟩ := h
  rcases findNow_spec hk es.toList 0 hks with ⟨h1, h2⟩ | ⟨j, x, h1, h2, h3⟩
  · refine ⟨setBlock w b (.map (es.push { key, val := z, born := clock }) (clock + 1)), clock, but_set, .inl ⟨fun p hp => ?_, ?_, _, _, heap_setBlock_same hb _, stamped_push hs h2, ?_, by simp, _, by rw [List.length_map, Array.length_toList]; exact Array.getElem?_push_size, rfl⟩⟩
    · obtain ⟨x, hx, rfl⟩ := List.mem_map.1 hp
      exact h2 x hx
    · simp only [Instr.mapEntry, Sem.run_bind, run_underlying ht, Go.MapKept.run_getObj_map hb, Go.MapKept.run_checkKey hd hk, Go.MapKept.run_findKey hd h1, Result.andThen, hz]; simp [Go.MapKept.run_setObj_map _ hb, setBlock]
    · intro x hx
      simp only [Array.toList_push, List.mem_append, List.mem_singleton] at hx
      rcases hx with hx | rfl
      · exact hks x hx
      · exact hk
  · have hj : es[j]? = some x := by simpa using h2
    have hkey : ∀ e', es[j]? = some e' → ({ e' with key := key } : MapEntry).key = e'.key := fun e' he' => by rw [hj] at he'; cases he'; exact h3.symm
    have hset : (es.modify j fun e => { e with key := key }).toList.map (fun x => (x.key, x.val)) = es.toList.map (fun x => (x.key, x.val)) := by
      apply List.ext_getElem?
      intro i
      simp only [List.getElem?_map, Array.getElem?_toList, Array.getElem?_modify]
      by_cases hij : j = i
      · subst hij; rw [if_pos rfl, hj]; simp [h3]
      · rw [if_neg hij]
    refine ⟨setBlock w b (.map (es.modify j fun e => { e with key := key }) clock), x.born, but_set, .inr ⟨j, x.val, ?_, ?_, _, _, heap_setBlock_same hb _, stamped_modify hs _ _ (fun _ _ => rfl) (fun e' _ he' => hkey e' he'), isKey_modify hks _ _ hkey, hset, { x with key := key }, ?_, rfl⟩⟩
    · rw [List.getElem?_map, h2]; simp [h3]
    · simp only [Instr.mapEntry, Sem.run_bind, run_underlying ht, Go.MapKept.run_getObj_map hb, Go.MapKept.run_checkKey hd hk, Go.MapKept.run_findKey hd h1, Result.andThen]; simp [hj, h3, run_keyThatStays hk, Go.MapKept.run_setObj_map _ hb, setBlock]
    · rw [Array.getElem?_modify, if_pos rfl, hj]; rfl
theorem EntryAt.store {w : World} {b : Nat} {d : TypeDesc} {E : List (Value × Value)} {j st : Nat} (h : EntryAt w b d E j st) (t : TypeId) (v : Value) {key u : Value} (hj : E[j]? = some (key, u)) :
    ∃ w', (Instr.entryStore t (.map (some b)) (goInt (st : Nat)) v).run P w = .ok () w' ∧ But b w w' ∧ MapE w' b d (E.set j (key, v)) := by
  obtain ⟨es, clock, hb, hs, hks, rfl, x, hx, rfl⟩ := h
  have hfi : es.findIdx? (fun e => (e.born : Int) == (x.born : Int)) = some j := by
    rw [Array.findIdx?_eq_some_iff_getElem]
    obtain ⟨hjl, ej⟩ := Array.getElem?_eq_some_iff.1 hx
    refine ⟨hjl, by rw [ej]; simp, fun i hij => ?_⟩
    have l1 : i < (es.toList.map (·.born)).length := by rw [List.length_map, Array.length_toList]; omega
    have l2 : j < (es.toList.map (·.born)).length := by rw [List.length_map, Array.length_toList]; omega
    intro he
    have he2 : es[i].born = x.born := by
      have := of_decide_eq_true (by simpa using he : decide ((es[i].born : Int) = (x.born : Int)) = true)
      omega
    have : i = j := (List.getElem_inj (xs := es.toList.map (·.born)) (h₀ := l1) (h₁ := l2) hs.2.1).1 (by simp [he2, ej])
    omega
  have hkey : x.key = key := by
    rw [List.getElem?_map] at hj
    simp [hx] at hj
    exact hj.1
  have hset : (es.modify j fun e => { e with val := v }).toList.map (fun x => (x.key, x.val)) = (es.toList.map (fun x => (x.key, x.val))).set j (key, v) := by
    apply List.ext_getElem?
    intro i
    simp only [List.getElem?_map, Array.getElem?_toList, Array.getElem?_modify, List.getElem?_set, List.length_map]
    by_cases hji : j = i
    · subst hji
      rw [if_pos rfl, if_pos rfl, hx, if_pos (by rw [Array.length_toList]; exact (Array.getElem?_eq_some_iff.1 hx).1)]
      simp [hkey]
    · rw [if_neg hji, if_neg hji]
  refine ⟨setBlock w b (.map (es.modify j fun e => { e with val := v }) clock), ?_, but_set, _, _, heap_setBlock_same hb _, stamped_modify hs _ _ (fun _ _ => rfl) (fun _ _ _ => rfl), isKey_modify hks _ _ (fun _ _ => rfl), hset⟩
  simp only [Instr.entryStore, Sem.run_bind, Go.MapKept.run_getObj_map hb, Result.andThen, goInt, asInt, asIntOf]
  simp [hfi, Go.MapKept.run_setObj_map _ hb, setBlock]

/-! At the operation, for the walk -/
theorem wpList_rangeE {ops : Array Oper} {Q : Exit → Act → World → Prop} {a : Act} {w : World} {rest : List Oper} {o : Oper} (hg : o.guard = none) (m : Operand) (t : TypeId) (hop : o.op = Op.range t m)
    {k e : TypeId} {d : TypeDesc} (ht : P.underlying t = some (.map k e)) {b : Nat} {E : List (Value × Value)} (hm : a.eval m = .map (some b)) (h : MapE w b d E)
    (hK : ∀ w', RangeE w' w.heap.size b d E E → Ext w w' → wpList P ops Q rest (a.put o.dst (.pointer (some ⟨w.heap.size, 0, none⟩))) w') : wpList P ops Q (o :: rest) a w := by
  refine wpList_plain hg fun K' hK' => ?_
  obtain ⟨w', hrun, r1, r2⟩ := h.range ht
  unfold Oper.wp
  simp [execOp, hop, hm, hrun, Result.andThen]
  exact hK' _ _ (hK w' r1 r2)
theorem wpList_nextE {ops : Array Oper} {Q : Exit → Act → World → Prop} {a : Act} {w : World} {rest : List Oper} {o : Oper} (hg : o.guard = none) (it : Operand) (hop : o.op = Op.next it false)
    {r b : Nat} {d : TypeDesc} {E left : List (Value × Value)} (hit : a.eval it = .pointer (some ⟨r, 0, none⟩)) (h : RangeE w r b d E left)
    (hDone : left = [] → wpList P ops Q rest (a.put o.dst (.tuple #[.bool false])) w)
    (hMore : ∀ k v left' w', left.Perm ((k, v) :: left') → (k, v) ∈ E → RangeE w' r b d E left' → But r w w' → (Instr.entry (.pointer (some ⟨r, 0, none⟩))).run P w' = .ok (.tuple #[k, v]) w' → wpList P ops Q rest (a.put o.dst (.tuple #[.bool true, k, v])) w') :
    wpList P ops Q (o :: rest) a w := by
  refine wpList_plain hg fun K' hK' => ?_
  unfold Oper.wp
  rcases h.next (P := P) o.type with ⟨h0, hrun⟩ | ⟨k, v, left', w', h1, h2, hrun, h3, h4, h5⟩
  · simp [execOp, hop, hit, hrun, Result.andThen]
    exact hK' _ _ (hDone h0)
  · simp [execOp, hop, hit, hrun, Result.andThen]
    exact hK' _ _ (hMore k v left' w' h1 h2 h3 h4 h5)
theorem wpList_putR {ops : Array Oper} {Q : Exit → Act → World → Prop} {a : Act} {w : World} {rest : List Oper} {o : Oper} (hg : o.guard = none) (m x v : Operand) (t : TypeId) (hop : o.op = .mapUpdate t m x v)
    {k e : TypeId} {d : TypeDesc} (ht : P.underlying t = some (.map k e)) (hd : P.underlying k = some d) {r b j : Nat} {E left : List (Value × Value)} {u : Value} (hm : a.eval m = .map (some b)) (h : RangeE w r b d E left) (hj : E[j]? = some (a.eval x, u)) (hn : ∀ p ∈ left, p.1 ≠ a.eval x)
    (hK : ∀ w', But b w w' → RangeE w' r b d (E.set j (a.eval x, a.eval v)) left → wpList P ops Q rest (a.put o.dst undef) w') : wpList P ops Q (o :: rest) a w := by
  refine wpList_plain hg fun K' hK' => ?_
  obtain ⟨w', hrun, r1, r2⟩ := h.put ht hd hj hn (v := a.eval v)
  unfold Oper.wp
  simp [execOp, hop, hm, hrun, Result.andThen]
  exact hK' _ _ (hK w' r1 r2)
theorem wpList_entryE {ops : Array Oper} {Q : Exit → Act → World → Prop} {a : Act} {w : World} {rest : List Oper} {o : Oper} (hg : o.guard = none) (m x : Operand) (t : TypeId) (hop : o.op = .mapEntry t m x)
    {k e : TypeId} {d : TypeDesc} (ht : P.underlying t = some (.map k e)) (hd : P.underlying k = some d) {z : Value} (hz : ∀ w, (zeroValue e).run P w = .ok z w) {b : Nat} {E : List (Value × Value)} (hm : a.eval m = .map (some b)) (h : MapE w b d E) (hk : IsKey d (a.eval x))
    (hNew : ∀ w' st, But b w w' → (∀ p ∈ E, p.1 ≠ a.eval x) → EntryAt w' b d (E ++ [(a.eval x, z)]) E.length st → wpList P ops Q rest (a.put o.dst (.tuple #[z, goInt (st : Nat)])) w')
    (hOld : ∀ w' st j u, But b w w' → E[j]? = some (a.eval x, u) → EntryAt w' b d E j st → wpList P ops Q rest (a.put o.dst (.tuple #[u, goInt (st : Nat)])) w') : wpList P ops Q (o :: rest) a w := by
  refine wpList_plain hg fun K' hK' => ?_
  unfold Oper.wp
  obtain ⟨w', st, hb, ⟨hn, hrun, h1⟩ | ⟨j, u, hj, hrun, h1⟩⟩ := h.entry ht hd hz hk
  · simp [execOp, hop, hm, hrun, Result.andThen]
    exact hK' _ _ (hNew w' st hb hn h1)
  · simp [execOp, hop, hm, hrun, Result.andThen]
    exact hK' _ _ (hOld w' st j u hb hj h1)
theorem wpList_estore {ops : Array Oper} {Q : Exit → Act → World → Prop} {a : Act} {w : World} {rest : List Oper} {o : Oper} (hg : o.guard = none) (m s v : Operand) (t : TypeId) (hop : o.op = .entryStore t m s v)
    {d : TypeDesc} {b j st : Nat} {E : List (Value × Value)} {key u : Value} (hm : a.eval m = .map (some b)) (hs : a.eval s = goInt (st : Nat)) (h : EntryAt w b d E j st) (hj : E[j]? = some (key, u))
    (hK : ∀ w', But b w w' → MapE w' b d (E.set j (key, a.eval v)) → wpList P ops Q rest (a.put o.dst undef) w') : wpList P ops Q (o :: rest) a w := by
  refine wpList_plain hg fun K' hK' => ?_
  obtain ⟨w', hrun, r1, r2⟩ := h.store t (a.eval v) hj (P := P)
  unfold Oper.wp
  simp [execOp, hop, hm, hs, hrun, Result.andThen]
  exact hK' _ _ (hK w' r1 r2)
end
theorem RangeE.left_eq {w : World} {r b : Nat} {d : TypeDesc} {E left : List (Value × Value)} (h : RangeE w r b d E left) : w.rangeLeft b r = left.length := by
  obtain ⟨es, clock, since, seen, c0, h1, _, _, _, h5, _, _, _, h9⟩ := h
  simp only [World.rangeLeft, h1, h5]
  rw [← h9, List.length_map, Array.length_toList]

section
variable {P : Program}
theorem MapE.len {w : World} {b : Nat} {d : TypeDesc} {E : List (Value × Value)} (h : MapE w b d E) {t k e : TypeId} (ht : P.underlying t = some (.map k e)) (ty : TypeId) :
    (Builtin.len_ #[t] ty #[.map (some b)]).run P w = .ok (.int .i64 (E.length : Nat)) w := by
  obtain ⟨es, clock, hb, _, _, rfl⟩ := h
  have hl : (es.toList.map fun x => (x.key, x.val)).length = es.size := by rw [List.length_map, Array.length_toList]
  rw [hl]
  simp [Builtin.len_, run_underlying ht, Go.MapKept.run_getObj_map hb, goInt, Result.andThen]
theorem MapE.known {w : World} {b : Nat} {d : TypeDesc} {E : List (Value × Value)} (h : MapE w b d E) {t k e : TypeId} (ht : P.underlying t = some (.map k e)) (hd : P.underlying k = some d) {z : Value} (hz : (zeroValue e).run P w = .ok z w) {key v : Value} (hm : (key, v) ∈ E) :
    (Instr.lookup t (.map (some b)) key false).run P w = .ok v w ∧ (Instr.lookup t (.map (some b)) key true).run P w = .ok (.tuple #[v, .bool true]) w := by
  obtain ⟨i, hi⟩ := List.mem_iff_getElem?.1 hm
  rcases h.look (P := P) ht hd hz (h.keys.1 _ hm) with ⟨h1, _⟩ | ⟨j, u, hj, h1, h2⟩
  · exact absurd rfl (h1 _ hm)
  · have e1 : (E.map (·.1))[i]? = some key := by rw [List.getElem?_map, hi]; rfl
    have e2 : (E.map (·.1))[j]? = some key := by rw [List.getElem?_map, hj]; rfl
    have : i = j := (List.getElem?_inj (List.getElem?_eq_some_iff.1 e1).1 h.keys.2).1 (e1.trans e2.symm)
    subst this
    rw [hi] at hj
    simp only [Option.some.injEq, Prod.mk.injEq, true_and] at hj
    subst hj
    exact ⟨h1, h2⟩
theorem MapE.unknown {w : World} {b : Nat} {d : TypeDesc} {E : List (Value × Value)} (h : MapE w b d E) {t k e : TypeId} (ht : P.underlying t = some (.map k e)) (hd : P.underlying k = some d) {z : Value} (hz : (zeroValue e).run P w = .ok z w) {key : Value} (hk : IsKey d key) (hm : ∀ p ∈ E, p.1 ≠ key) :
    (Instr.lookup t (.map (some b)) key false).run P w = .ok z w ∧ (Instr.lookup t (.map (some b)) key true).run P w = .ok (.tuple #[z, .bool false]) w := by
  rcases h.look (P := P) ht hd hz hk with ⟨_, h1, h2⟩ | ⟨j, u, hj, _⟩
  · exact ⟨h1, h2⟩
  · exact absurd rfl (hm _ (List.mem_of_getElem? hj))
theorem wpList_lenE {ops : Array Oper} {Q : Exit → Act → World → Prop} {a : Act} {w : World} {rest : List Oper} {o : Oper} (m : Operand) (t : TypeId) (hop : o.op = Op.call { callee := Callee.builtin Builtin.len, args := #[m], argTypes := #[t] }) (hw : Region.wanted o (yielded ops a.tmps) = true)
    {k e : TypeId} {d : TypeDesc} (ht : P.underlying t = some (.map k e)) {b : Nat} {E : List (Value × Value)} (hm : a.eval m = .map (some b)) (h : MapE w b d E) {n : Nat} (hn : E.length = n)
    (hK : wpList P ops Q rest (a.put o.dst (.int .i64 n)) w) : wpList P ops Q (o :: rest) a w := by
  subst hn
  exact wpList_val hw (by simp [execOp, hop, resolve, invoke, builtin, hm, h.len ht o.type, Result.andThen]) hK
end
end Go.Proofs.YtabegbelkfhbcaaGreat

namespace Go.Proofs.YtabegbelkfhbcaaGreat
open Go.RowKit

section
variable {P : Program}

/-- From m on each operation waits for all ahead of it, by way of others. -/
def chainOk (ops : Array Oper) (m : Nat) : Bool :=
  (List.range ops.size).all fun i => i < m || (List.range i).all fun j => (List.range (i + 1)).any fun k => decide (j < k) && waits ops k j

theorem chain_reach {ops : Array Oper} {m : Nat} (hc : chainOk ops m = true) {listed : Array Bool}
    (down : ∀ j, listed.getD j false = true → ∀ i, waits ops j i = true → listed.getD i false = true)
    {i : Nat} (hi : i < ops.size) (him : m ≤ i) (hd : ∀ j, waits ops i j = true → listed.getD j false = true) : ∀ j, j < i → listed.getD j false = true := by
  have h1 := List.all_eq_true.1 hc i (List.mem_range.2 hi)
  simp only [Bool.or_eq_true, decide_eq_true_eq] at h1
  have h2 := List.all_eq_true.1 (h1.resolve_left (by omega))
  have key : ∀ d j, i - j = d → j < i → listed.getD j false = true := by
    intro d
    induction d using Nat.strongRecOn with
    | _ d ih =>
      intro j hd' hj
      obtain ⟨k, hk, hk2⟩ := List.any_eq_true.1 (h2 j (List.mem_range.2 hj))
      simp only [Bool.and_eq_true, decide_eq_true_eq] at hk2
      have hki := List.mem_range.1 hk
      by_cases he : k = i
      · subst he; exact hd j hk2.2
      · exact down k (ih (i - k) (by omega) k rfl (by omega)) j hk2.2
  intro j hj
  exact key _ j rfl hj

/-- Behind the facts: the chain. -/
theorem chain_any {ops : Array Oper} {m : Nat} (hc : chainOk ops m = true) (hord : ∀ i o, ops[i]? = some o → ∀ e ∈ o.after, Region.binds .any e = true → e.on < i) {Q : Exit → Act → World → Prop} :
    ∀ (fuel i : Nat) (listed : Array Bool) (a : Act) (w : World), m ≤ i → i + fuel = ops.size → listed.size = ops.size →
      (∀ j, j < i → listed.getD j false = true) → (∀ j, i ≤ j → listed.getD j false = false) →
      (∀ j, listed.getD j false = true → ∀ i, waits ops j i = true → listed.getD i false = true) →
      wpList P ops Q (ops.toList.drop i) a w → wpAny P .any ops Q fuel listed a w := by
  intro fuel
  induction fuel with
  | zero =>
    intro i listed a w hmi hf hs hl hn hdn h
    have e : ops.toList.drop i = [] := List.drop_eq_nil_of_le (by simp; omega)
    rw [e] at h
    refine ⟨?_, h⟩
    cases hr : Region.ready .any ops listed with
    | nil => rfl
    | cons k ks =>
      have hm : k ∈ Region.ready .any ops listed := by rw [hr]; exact List.mem_cons_self
      obtain ⟨h0, o, ho, _⟩ := mem_ready.1 hm
      have hk : k < ops.size := (Array.getElem?_eq_some_iff.1 ho).1
      have h1 := hl k (by omega)
      have hk' : k < listed.size := by omega
      simp [hk'] at h0 h1
      rw [h0] at h1; cases h1
  | succ fuel ih =>
    intro i listed a w hmi hf hs hl hn hdn h
    have hi : i < ops.size := by omega
    have ho : ops[i]? = some ops[i] := by simp [hi]
    have hil' : i < listed.size := by omega
    have hready : i ∈ Region.ready .any ops listed := by
      refine mem_ready.2 ⟨?_, ops[i], ho, fun e he hb => hl _ (hord i _ ho e he hb)⟩
      have := hn i (Nat.le_refl _)
      simp [hil'] at this ⊢; exact this
    refine ⟨fun hr => absurd hready (by rw [hr]; exact List.not_mem_nil), fun k hk => ?_⟩
    obtain ⟨h0, o, hok, _⟩ := mem_ready.1 hk
    have hks : k < ops.size := (Array.getElem?_eq_some_iff.1 hok).1
    have hkl : k < listed.size := by omega
    have h0' : listed.getD k false = false := by simp [hkl] at h0 ⊢; exact h0
    have hik : i ≤ k := by
      rcases Nat.lt_or_ge k i with h' | h'
      · have := hl k h'; rw [h0'] at this; cases this
      · exact h'
    have hall := chain_reach hc hdn hks (by omega) (waits_of_ready hk)
    have hki : k = i := by
      rcases Nat.lt_or_ge i k with h' | h'
      · have := hall i h'; rw [hn i (Nat.le_refl _)] at this; cases this
      · omega
    subst hki
    have hdrop : ops.toList.drop k = ops[k] :: ops.toList.drop (k + 1) := by
      rw [List.drop_eq_getElem_cons (by simpa using hi)]; simp
    rw [hdrop] at h
    have next : ∀ a w, wpList P ops Q (ops.toList.drop (k + 1)) a w → wpAny P .any ops Q fuel (listed.setIfInBounds k true) a w := by
      intro a w h
      refine ih (k + 1) _ a w (by omega) (by omega) (by simpa using hs) (fun j hj => ?_) (fun j hj => ?_) (fun j hj x hx => ?_) h
      · by_cases e : k = j
        · subst e; simp [hil']
        · exact getD_set_true (hl j (by omega))
      · rw [getD_set_ne false (by omega)]; exact hn j (by omega)
      · by_cases e : k = j
        · subst e; exact getD_set_true (waits_of_ready hk x hx)
        · rw [getD_set_ne false e] at hj; exact getD_set_true (hdn j hj x hx)
    unfold wpOp
    rw [ho]
    simp only []
    simp only [wpList] at h
    split
    · rename_i hw
      rw [if_pos hw] at h
      exact h.imp (Oper.wp_mono next) id
    · rename_i hw
      rw [if_neg hw] at h
      exact next _ _ h

theorem region_chain {ops : Array Oper} {m : Nat} {F : Nat → Value → World → Prop} {a0 : Act} {w0 : World} {D : List (List (Nat × Tmp))} {E : List (Nat × Tmp)} {Q : Exit → Act → World → Prop}
    (hok : opsOk ops a0.tmps.size 0 (ops.toList.take m) D = true) (hms : m ≤ ops.size)
    (hE : ((E.all fun p => decide (p.1 < m) && dstOf ops p.1 == some p.2) && (List.range m).all fun j => match dstOf ops j with | some _ => E.any fun p => p.1 == j | none => true) = true)
    (hc : chainOk ops m = true) (hord : ∀ i o, ops[i]? = some o → ∀ e ∈ o.after, Region.binds .any e = true → e.on < i)
    (hst : ∀ i v w w', Ext w w' → F i v w → F i v w')
    (hob : Obs P ops F a0 w0 0 (ops.toList.take m) D)
    (hend : ∀ w, Ext w0 w → depsThen F w E a0 (fun a => wpList P ops Q (ops.toList.drop m) a w)) :
    ∀ (fuel : Nat) (listed : Array Bool) (a : Act) (w : World), listed.count false = fuel → (∀ j, m ≤ j → listed.getD j false = false) → Inv ops F a0 w0 listed a w → wpAny P .any ops Q fuel listed a w := by
  have hget : ∀ {i o}, i < m → ops[i]? = some o → (ops.toList.take m)[i]? = some o := fun {i o} hi h => by
    rw [List.getElem?_take, if_pos hi]; simpa using h
  have hall : ∀ {i o}, i < m → ops[i]? = some o → opOk ops a0.tmps.size i o (D.getD i []) = true := fun {i o} hi h => by
    have := opsOk_get hok i o (hget hi h); simpa using this
  have hobs : ∀ {i o}, i < m → ops[i]? = some o → Ob P ops F a0 w0 i o (D.getD i []) := fun {i o} hi h => by
    have := Obs_get hob i o (hget hi h); simpa using this
  -- all ahead of the chain are listed: the chain
  have fin : ∀ (fuel : Nat) (listed : Array Bool) (a : Act) (w : World), m + fuel = ops.size → (∀ j, j < m → listed.getD j false = true) → (∀ j, m ≤ j → listed.getD j false = false) → Inv ops F a0 w0 listed a w → wpAny P .any ops Q fuel listed a w := by
    intro fuel listed a w hf hl hno hI
    simp only [Bool.and_eq_true] at hE
    obtain ⟨c, hk, hc1, hc2, hc3⟩ := depsThen_at a _ E a0 hI.ts.symm (fun p hp => by
      have hd := List.all_eq_true.1 hE.1 p hp
      simp only [Bool.and_eq_true, decide_eq_true_eq, beq_iff_eq] at hd
      have := hI.fact p.1 (by omega) (hl p.1 hd.1)
      simp only [hd.2] at this
      exact this) (hend w hI.ext)
    have : c = a := by
      obtain ⟨ct, cd⟩ := c
      obtain ⟨at', ad⟩ := a
      have e2 : cd = ad := hc2.trans hI.df.symm
      have e1 : ct = at' := by
        apply Array.ext_getElem?
        intro s
        refine tmps_ext (a := ⟨ct, cd⟩) (b := ⟨at', ad⟩) hc1 ?_
        rw [hc3]
        split
        · rfl
        · rename_i hn
          refine (hI.old s fun j hj => ?_).symm
          rcases Nat.lt_or_ge j m with hjm | hjm
          · exfalso
            have h2 := List.all_eq_true.1 hE.2 j (List.mem_range.2 hjm)
            simp only [hj, List.any_eq_true, beq_iff_eq] at h2
            obtain ⟨p, hp, hpj⟩ := h2
            have hd := List.all_eq_true.1 hE.1 p hp
            simp only [Bool.and_eq_true, decide_eq_true_eq, beq_iff_eq] at hd
            have hd2 := hd.2
            rw [hpj, hj] at hd2
            exact hn ⟨p, hp, (Option.some.inj hd2).symm⟩
          · exact hno j hjm
      rw [e1, e2]
    rw [← this]
    exact chain_any hc hord fuel m listed c w (Nat.le_refl _) hf hI.size hl hno hI.down hk
  have hready_lt : ∀ (listed : Array Bool) (a : Act) (w : World), (∀ j, m ≤ j → listed.getD j false = false) → Inv ops F a0 w0 listed a w → (¬ ∀ j, j < m → listed.getD j false = true) → ∀ i ∈ Region.ready .any ops listed, i < m := by
    intro listed a w hno hI hnot i hi
    obtain ⟨_, o, ho, _⟩ := mem_ready.1 hi
    have his : i < ops.size := (Array.getElem?_eq_some_iff.1 ho).1
    rcases Nat.lt_or_ge i m with h' | h'
    · exact h'
    · exfalso
      have hr := chain_reach hc hI.down his h' (waits_of_ready hi)
      exact hnot fun j hj => hr j (by omega)
  have hcount : ∀ (listed : Array Bool), listed.size = ops.size → (∀ j, j < m → listed.getD j false = true) → (∀ j, m ≤ j → listed.getD j false = false) → m + listed.count false = ops.size := by
    intro listed hs hl hno
    have e : listed = (List.replicate m true ++ List.replicate (ops.size - m) false).toArray := by
      apply Array.ext
      · simp; omega
      · intro j h1 h2
        have hj : j < listed.size := h1
        rcases Nat.lt_or_ge j m with hjm | hjm
        · have := hl j hjm
          simp [hj] at this
          rw [this]
          simp [hjm]
        · have := hno j hjm
          simp [hj] at this
          rw [this]
          have : ¬ j < m := by omega
          simp [List.getElem_append, this]
    rw [e]
    simp [List.count_append, List.count_replicate]
    omega
  intro fuel
  induction fuel with
  | zero =>
    intro listed a w hc0 hno hI
    by_cases hl : ∀ j, j < m → listed.getD j false = true
    · exact fin 0 listed a w (by have := hcount listed hI.size hl hno; omega) hl hno hI
    · exfalso
      apply hl
      intro j hj
      have hj' : j < listed.size := by rw [hI.size]; omega
      have := Array.count_eq_zero.1 hc0
      have h2 : listed[j] ≠ false := fun e => this (e ▸ Array.getElem_mem hj')
      simp [hj']; simpa using h2
  | succ fuel ih =>
    intro listed a w hcn hno hI
    by_cases hl : ∀ j, j < m → listed.getD j false = true
    · exact fin (fuel + 1) listed a w (by have := hcount listed hI.size hl hno; omega) hl hno hI
    refine ⟨fun hr => ?_, fun i hi => ?_⟩
    · exfalso
      apply hl
      intro j
      induction j using Nat.strongRecOn with
      | _ j ihj =>
        intro hjm
        have hj : j < ops.size := by omega
        cases hlj : listed.getD j false with
        | true => rfl
        | false =>
          exfalso
          have ho : ops[j]? = some ops[j] := by simp [hj]
          have hmem : j ∈ Region.ready .any ops listed := by
            refine mem_ready.2 ⟨?_, ops[j], ho, fun e he hb => ?_⟩
            · have : j < listed.size := by rw [hI.size]; exact hj
              simp [this] at hlj ⊢; exact hlj
            · have := hord j _ ho e he hb
              exact ihj e.on this (by omega)
          rw [hr] at hmem
          cases hmem
    have him := hready_lt listed a w hno hI hl i hi
    obtain ⟨h0, o, ho, hafter⟩ := mem_ready.1 hi
    have hil : i < ops.size := (Array.getElem?_eq_some_iff.1 ho).1
    have hil' : i < listed.size := hI.size ▸ hil
    have h0' : listed.getD i false = false := by simp [hil'] at h0 ⊢; exact h0
    have hopk := hall him ho
    simp only [opOk, Bool.and_eq_true] at hopk
    obtain ⟨⟨⟨⟨hk1, hk2⟩, hk3⟩, hk4⟩, hk5⟩ := hopk
    have hdep2 : ∀ p ∈ D.getD i [], waits ops i p.1 = true ∧ dstOf ops p.1 = some p.2 := fun p hp => by
      have := List.all_eq_true.1 hk3 p hp
      simpa using this
    have hdeps : ∀ p ∈ D.getD i [], listed.getD p.1 false = true := fun p hp => waits_of_ready hi p.1 (hdep2 p hp).1
    have hsel : ∀ cs b, o.op ≠ .select cs b := by intro cs b e; rw [e] at hk2; cases hk2
    have hjlt : ∀ j, listed.getD j false = true → j < ops.size := fun j hj => by
      rcases Nat.lt_or_ge j listed.size with h' | h'
      · exact hI.size ▸ h'
      · simp [Array.getElem?_eq_none h'] at hj
    obtain ⟨c, hk, hc1, hc2, hc3⟩ := depsThen_at a _ (D.getD i []) a0 hI.ts.symm (fun p hp => by
      have := hI.fact p.1 (hjlt p.1 (hdeps p hp)) (hdeps p hp)
      simp only [(hdep2 p hp).2] at this
      exact this) (hobs him ho w hI.ext)
    have same : ∀ s ∈ o.looksAt ops, c.tmps[s]? = a.tmps[s]? := by
      intro s hs
      refine tmps_ext hc1 ?_
      rw [hc3]
      split
      · rfl
      · rename_i hn
        refine (hI.old s fun j hj => ?_).symm
        have hjl : j < ops.size := by
          unfold dstOf at hj
          rcases Nat.lt_or_ge j ops.size with h' | h'
          · exact h'
          · rw [Array.getElem?_eq_none h'] at hj; cases hj
        have h1 := List.all_eq_true.1 (List.all_eq_true.1 hk5 s hs) j (List.mem_range.2 hjl)
        simp only [Bool.or_eq_true, bne_iff_ne, ne_eq, beq_iff_eq] at h1
        rcases h1 with ((h1 | h1) | h1) | h1
        · exact absurd hj h1
        · exfalso
          rw [List.any_eq_true] at h1
          obtain ⟨p, hp, hpj⟩ := h1
          have hd := (hdep2 p hp).2
          rw [eq_of_beq hpj, hj] at hd
          exact hn ⟨p, hp, (Option.some.inj hd).symm⟩
        · rw [h1]; exact h0'
        · cases hlj : listed.getD j false with
          | false => rfl
          | true => have := hI.down j hlj i h1; rw [h0'] at this; cases this
    have heval : execOp c.eval o = execOp a.eval o := execOp_congr o hsel fun x hx => by
      cases x with
      | tmp t =>
        have := same t (List.mem_append_left _ (List.mem_filterMap.2 ⟨.tmp t, by simpa using hx, rfl⟩))
        simp [Act.eval, this]
      | _ => rfl
    have hwant : Region.wanted o (yielded ops c.tmps) = Region.wanted o (yielded ops a.tmps) := by
      unfold Region.wanted
      cases hg : o.guard with
      | none => rfl
      | some gw =>
        obtain ⟨g, want⟩ := gw
        have hy : yielded ops c.tmps g = yielded ops a.tmps g := by
          unfold yielded
          cases ht : (ops[g]?).bind (·.dst) with
          | none => rfl
          | some t =>
            have := same t (by simp [Oper.looksAt, hg, ht])
            simp [this]
        simp only [hy]
    have next : ∀ v w', Ext w w' → F i (match o.dst with | some d => (c.put o.dst v).tmps.getD d undef | none => undef) w' →
        wpAny P .any ops Q fuel (listed.setIfInBounds i true) (a.put o.dst v) w' := by
      intro v w' hx hF
      have hdst : dstOf ops i = o.dst := by simp [dstOf, ho]
      refine ih _ _ _ ?_ ?_ ⟨by simpa using hI.size, by rw [put_size]; exact hI.ts, by rw [put_defers]; exact hI.df, ?_, ?_, ?_, hI.ext.trans hx⟩
      · have hset : listed.setIfInBounds i true = listed.set i true hil' := by simp [Array.setIfInBounds, hil']
        rw [hset, Array.count_set]
        have : listed[i] = false := by simpa [hil'] using h0'
        simp [this]; omega
      · intro j hj
        rw [getD_set_ne false (by omega)]; exact hno j hj
      · intro s hs
        have hne : o.dst ≠ some s := fun e => by
          have := hs i (hdst.trans e)
          simp [hil'] at this
        rw [put_getD_ne _ hne]
        refine hI.old s fun j hj => ?_
        by_cases hji : i = j
        · rw [← hji]; exact h0'
        · have := hs j hj
          rwa [getD_set_ne false hji] at this
      · intro j hj hlj
        by_cases hji : i = j
        · subst hji
          rw [hdst]
          cases hd : o.dst with
          | none => simp only [hd] at hF; exact hF
          | some d =>
            simp only [hd] at hF hk1
            simp only [Bool.and_eq_true, decide_eq_true_eq] at hk1
            rw [put_getD_eq _ (by rw [hc1, hI.ts]; exact hk1.1)] at hF
            show F i ((a.put (some d) v).tmps.getD d undef) w'
            rw [put_getD_eq _ (by rw [hI.ts]; exact hk1.1)]
            exact hF
        · rw [getD_set_ne false hji] at hlj
          have hfj := hst _ _ _ _ hx (hI.fact j hj hlj)
          cases hdj : dstOf ops j with
          | none => simp only [hdj] at hfj; exact hfj
          | some d =>
            simp only [hdj] at hfj
            have hne : o.dst ≠ some d := fun e => by
              rw [e] at hk1
              simp only [Bool.and_eq_true] at hk1
              have := List.all_eq_true.1 hk1.2 j (List.mem_range.2 hj)
              simp [hdj, Ne.symm hji] at this
            show F j ((a.put o.dst v).tmps.getD d undef) w'
            rw [put_getD_ne _ hne]
            exact hfj
      · intro j hlj k hw
        by_cases hji : i = j
        · subst hji; exact getD_set_true (waits_of_ready hi k hw)
        · rw [getD_set_ne false hji] at hlj
          exact getD_set_true (hI.down j hlj k hw)
    unfold wpOp
    rw [ho]
    simp only []
    rw [← hwant]
    simp only [wpList] at hk
    split
    · rename_i hw
      rw [if_pos hw] at hk
      rcases hk with hk | ⟨_, x, y, hxy⟩
      · refine .inl ?_
        unfold Oper.wp at hk ⊢
        rw [heval] at hk
        generalize (execOp a.eval o).run P w = r at *
        cases r with
        | ok n w' =>
          cases n <;> simp only [Oper.upon] at hk ⊢
          case value u => exact next u w' hk.2.1 hk.2.2.2
          case skip => exact next undef w' hk.2.1 hk.2.2.2
          case defer d =>
            have := hk.2.2.1
            rw [put_defers] at this
            exact absurd this (by simp)
          case enter f args =>
            refine Calls.mono hk fun e w'' he => ?_
            cases e with
            | returned u => exact next u w'' he.2.1 he.2.2.2
            | panicked c => exact absurd he.1 (by simp)
            | outgrown => obtain ⟨_, _, h⟩ := he; exact absurd h.1 (by simp)
          case row row args => exact Rows.mono hk fun u w'' he => next u w'' he.2.1 he.2.2.2
        | halt x w' =>
          cases x <;> simp only [Oper.upon] at hk ⊢
          case panic u => exact absurd hk.1 (by simp)
      · exact absurd hxy.1 (by simp)
    · rename_i hw
      rw [if_neg hw] at hk
      exact next undef w hk.2.1 hk.2.2.2

def ordOk (ops : Array Oper) : Bool := (List.range ops.size).all fun i => match ops[i]? with | some o => o.after.all fun e => !Region.binds .any e || e.on < i | none => true

/-- A REGION THAT DRAWS ITS ORDER AND ENDS IN A CHAIN: the first m operations by facts, the others as they stand. -/
theorem wp_region_chain {id : Nat} {l : List Oper} (m : Nat) (Fs : List Fact) (D : List (List (Nat × Tmp))) (E : List (Nat × Tmp)) {a0 : Act} {w0 : World} {Q : Exit → Act → World → Prop}
    (hm : P.follows .mixedOrders = true)
    (hok : (opsOk l.toArray a0.tmps.size 0 (l.take m) D && decide (m ≤ l.length) && ((E.all fun p => decide (p.1 < m) && dstOf l.toArray p.1 == some p.2) && (List.range m).all fun j => match dstOf l.toArray j with | some _ => E.any fun p => p.1 == j | none => true) && chainOk l.toArray m && ordOk l.toArray) = true)
    (hob : Obs P l.toArray (factAt Fs) a0 w0 0 (l.take m) D)
    (hend : ∀ w, Ext w0 w → depsThen (factAt Fs) w E a0 (fun a => wpList P l.toArray Q (l.drop m) a w)) :
    (Code.region id l.toArray true).wp P Q a0 w0 := by
  simp only [Bool.and_eq_true] at hok
  obtain ⟨⟨⟨⟨k1, k2⟩, k3⟩, k4⟩, k5⟩ := hok
  have hno : ∀ j, (Array.replicate l.toArray.size false).getD j false = false := fun j => by
    simp only [Array.getD_eq_getD_getElem?, Array.getElem?_replicate]; split <;> rfl
  refine wp_region_any hm (region_chain (m := m) (F := factAt Fs) (D := D) (E := E) (w0 := w0) k1 (by simpa using k2) (by simp only [Bool.and_eq_true]; exact k3) k4 ?_ (fun i v w w' hx h => (Fs.getD i Fact.any).st v w w' hx h) hob hend _ _ _ _ ?_ (fun j _ => hno j) ?_)
  · intro i o ho e he hb
    have hi : i < l.toArray.size := (Array.getElem?_eq_some_iff.1 ho).1
    have h1 := List.all_eq_true.1 k5 i (List.mem_range.2 hi)
    simp only [ho] at h1
    have h2 := (Array.all_eq_true_iff_forall_mem.1 h1) e he
    simpa [hb] using h2
  · simp
  · exact ⟨by simp, rfl, rfl, fun _ _ => rfl, fun j _ h => (by rw [hno] at h; cases h), fun j h => (by rw [hno] at h; cases h), (Ext.refl w0).drew⟩

end
end Go.Proofs.YtabegbelkfhbcaaGreat

namespace Go.Proofs.YtabegbelkfhbcaaGreat
open Go.RowKit Go.MapKept

/-- What Learn refuses as an argument. -/
def argB (link pub : Int) (ver : Nat) : Bool := decide (link < -1) || (decide (64 ≤ link) || (!homeB pub || (decide (ver < 1) || decide (1099511627776 < ver))))

set_option maxRecDepth 100000 in
set_option maxHeartbeats 8000000 in
theorem learn_arg (w : World) (b bm : Nat) (T : List KN) (ht : TabR w b bm T) (link pub : Int) (ver : Nat) (h : Value) (_hh : h.oneCell' = true) (ha : argB link pub ver = true) :
    Calls Tryz.prog 9 #[.pointer (some ⟨b, 0, none⟩), .int .i64 link, .agg #[.int .i64 pub, .int .u64 (ver : Nat), h]] w fun e w' => e = .returned (.tuple #[.bool false, .int .i64 1]) ∧ Ext w w' := by
  obtain ⟨hx0, hb1⟩ := boxes1 w (.cells #[.int .i64 pub, .int .u64 (ver : Nat), h] 30)
  have hnn := none_no _ b bm (block_later ht.box hx0)
  have c0 := cell_of_row _ _ 0 _ _ _ hb1
  have c1 := cell_of_row _ _ 1 _ _ _ hb1
  have HX0 := Lib.hid hx0
  have HNN := Lib.hid hnn
  clear ht hb1 hx0 hnn
  by_cases h1 : link < -1
  · have d1 : decide (link < -1) = true := decide_eq_true h1
    clear ha h1
    go_enter Tryz.func9, Tryz.ntmps9
    go_wp2_with (go_at_call 22; refine HNN.out.mono ?_; rintro e w1 ⟨rfl, rfl⟩)
    exact bodyPost_ret (v := .tuple #[.bool false, .int .i64 1]) (by simp [results, Tryz.results9, go_sem]) rfl ⟨rfl, HX0.out⟩
  have d1 : decide (link < -1) = false := decide_eq_false h1
  by_cases h2 : 64 ≤ link
  · have d2 : decide (64 ≤ link) = true := decide_eq_true h2
    clear ha h1 h2
    go_enter Tryz.func9, Tryz.ntmps9
    go_wp2_with (go_at_call 22; refine HNN.out.mono ?_; rintro e w1 ⟨rfl, rfl⟩)
    exact bodyPost_ret (v := .tuple #[.bool false, .int .i64 1]) (by simp [results, Tryz.results9, go_sem]) rfl ⟨rfl, HX0.out⟩
  have d2 : decide (64 ≤ link) = false := decide_eq_false h2
  cases h3 : homeB pub with
  | false =>
    clear ha h1 h2
    go_enter Tryz.func9, Tryz.ntmps9
    go_wp2_with (first
      | (go_at_call 22; refine HNN.out.mono ?_; rintro e w1 ⟨rfl, rfl⟩)
      | (go_at_call 24; refine (home_no _ pub h3).mono ?_; rintro e w1 ⟨rfl, rfl⟩))
    exact bodyPost_ret (v := .tuple #[.bool false, .int .i64 1]) (by simp [results, Tryz.results9, go_sem]) rfl ⟨rfl, HX0.out⟩
  | true =>
    have ha : (decide (ver < 1) || decide (1099511627776 < ver)) = true := by
      unfold argB at ha
      rw [d1, d2, h3] at ha
      simpa using ha
    clear h1 h2
    by_cases h4 : ver < 1
    · have d4 : decide ((ver : Int) < 1) = true := decide_eq_true (by omega)
      clear ha h4
      go_enter Tryz.func9, Tryz.ntmps9
      go_wp2_with (first
        | (go_at_call 22; refine HNN.out.mono ?_; rintro e w1 ⟨rfl, rfl⟩)
        | (go_at_call 24; refine (home_yes _ pub h3).mono ?_; rintro e w1 ⟨n, rfl, rfl⟩; have dn : decide ((n : Int) < 0) = false := decide_eq_false (by omega)))
      exact bodyPost_ret (v := .tuple #[.bool false, .int .i64 1]) (by simp [results, Tryz.results9, go_sem]) rfl ⟨rfl, HX0.out⟩
    · have h5 : 1099511627776 < ver := by
        rw [decide_eq_false h4, Bool.false_or] at ha
        exact of_decide_eq_true ha
      have d4 : decide ((ver : Int) < 1) = false := decide_eq_false (by omega)
      have d5 : decide ((1099511627776 : Int) < (ver : Int)) = true := decide_eq_true (by omega)
      clear ha h4 h5
      go_enter Tryz.func9, Tryz.ntmps9
      go_wp2_with (first
        | (go_at_call 22; refine HNN.out.mono ?_; rintro e w1 ⟨rfl, rfl⟩)
        | (go_at_call 24; refine (home_yes _ pub h3).mono ?_; rintro e w1 ⟨n, rfl, rfl⟩; have dn : decide ((n : Int) < 0) = false := decide_eq_false (by omega)))
      exact bodyPost_ret (v := .tuple #[.bool false, .int .i64 1]) (by simp [results, Tryz.results9, go_sem]) rfl ⟨rfl, HX0.out⟩

theorem arg_no {link pub : Int} {ver : Nat} (ha : argB link pub ver = false) : decide (link < -1) = false ∧ decide (64 ≤ link) = false ∧ homeB pub = true ∧ decide ((ver : Int) < 1) = false ∧ decide ((1099511627776 : Int) < (ver : Int)) = false := by
  unfold argB at ha
  simp only [Bool.or_eq_false_iff, Bool.not_eq_false'] at ha
  obtain ⟨h1, h2, h3, h4, h5⟩ := ha
  have h4 := of_decide_eq_false h4
  have h5 := of_decide_eq_false h5
  exact ⟨h1, h2, h3, decide_eq_false (by omega), decide_eq_false (by omega)⟩

set_option maxRecDepth 100000 in
set_option maxHeartbeats 8000000 in
theorem learn_mal (w : World) (b bm : Nat) (T : List KN) (ht : TabR w b bm T) (link pub : Int) (ver : Nat) (h : Value) (p : List C) (hp : PredR w h p) (ha : argB link pub ver = false) (hm : mayP p = false) :
    Calls Tryz.prog 9 #[.pointer (some ⟨b, 0, none⟩), .int .i64 link, .agg #[.int .i64 pub, .int .u64 (ver : Nat), h]] w fun e w' => e = .returned (.tuple #[.bool false, .int .i64 30]) ∧ Ext w w' := by
  obtain ⟨hx0, hb1⟩ := boxes1 w (.cells #[.int .i64 pub, .int .u64 (ver : Nat), h] 30)
  have hnn := none_no _ b bm (block_later ht.box hx0)
  have hmy := pmay_any _ h p (hp.ext hx0)
  rw [hm] at hmy
  obtain ⟨d1, d2, h3, d4, d5⟩ := arg_no ha
  obtain ⟨a, cap, rfl, _, _⟩ := hp.shape
  generalize p.length = pl at *
  have c0 := cell_of_row _ _ 0 _ _ _ hb1
  have c1 := cell_of_row _ _ 1 _ _ _ hb1
  have c2 := cell_of_row _ _ 2 _ _ _ hb1
  have HX0 := Lib.hid hx0
  have HNN := Lib.hid hnn
  have HMY := Lib.hid hmy
  clear ht hb1 hx0 hnn ha hm hp hmy
  go_enter Tryz.func9, Tryz.ntmps9
  go_wp2_with (first
    | (go_at_call 22; refine HNN.out.mono ?_; rintro e w1 ⟨rfl, rfl⟩)
    | (go_at_call 24; refine (home_yes _ pub h3).mono ?_; rintro e w1 ⟨n, rfl, rfl⟩; have dn : decide ((n : Int) < 0) = false := decide_eq_false (by omega))
    | (go_at_call 21; refine HMY.out.mono ?_; rintro e w2 ⟨rfl, hx⟩; have HX2 := Lib.hid hx; clear hx))
  exact bodyPost_ret (v := .tuple #[.bool false, .int .i64 30]) (by simp [results, Tryz.results9, go_sem]) rfl ⟨rfl, HX0.out.trans HX2.out⟩
end Go.Proofs.YtabegbelkfhbcaaGreat
