/- Plain: the cuts of what a predicate asks are short (no program).
A value's text is within the form's reach.
Those constraints that ask for one name (OverlapApart's closure). -/
import Derived.SizedLaws
import Derived.Test.YtkefppdacigbmaaP5
import Derived.Test.YtkefppdacigbmaaP22
import Derived.Test.YtkefppdacigbmaaP3
namespace Go.Proofs.Ytkefppdacigbmaa

def short (c : Cut) : Prop := c.a.length ≤ 33
theorem short_end : short endC := by show (0 : Nat) ≤ 33; omega
theorem short_first (k : Int) : short (firstC k) := by
  unfold firstC short; split
  · show (eightN 8 _).length ≤ 33; rw [eightN_len]; omega
  · show (0 : Nat) ≤ 33; omega
theorem short_num (n : Int) : short (numC n) := by show (eightN 8 _).length ≤ 33; rw [eightN_len]; omega
theorem short_around {v : V} (h : v.s.length ≤ 32) : short (aroundV v).1 ∧ short (aroundV v).2 := by
  unfold aroundV
  split
  · split
    · exact ⟨short_num _, short_end⟩
    · exact ⟨short_num _, short_num _⟩
  · split
    · refine ⟨?_, ?_⟩
      · show v.s.length ≤ 33; omega
      · show (v.s ++ [0]).length ≤ 33; rw [List.length_append]; simp; omega
    · split
      · exact ⟨by show (1 : Nat) ≤ 33; omega, short_end⟩
      · exact ⟨by show (0 : Nat) ≤ 33; omega, by show (1 : Nat) ≤ 33; omega⟩
theorem pastR_len : ∀ l : List UInt8, (pastR l).a.length ≤ l.length
  | [] => Nat.le_refl _
  | c :: r => by
    unfold pastR
    split
    · exact Nat.le_succ_of_le (pastR_len r)
    · show (r.reverse ++ [c + 1]).length ≤ _; simp
theorem short_past {s : List UInt8} (h : s.length ≤ 32) : short (pastF s) := by
  have := pastR_len s.reverse
  rw [List.length_reverse] at this
  unfold pastF short; omega
theorem mayV_len {v : V} (h : mayV v = true) : v.s.length ≤ 32 := by
  unfold mayV at h
  split at h
  · simp only [Bool.and_eq_true, List.isEmpty_iff] at h; rw [h.1]; simp
  · split at h
    · simp only [Bool.and_eq_true, decide_eq_true_eq] at h; exact h.2
    · split at h
      · simp only [Bool.and_eq_true, List.isEmpty_iff] at h; rw [h.2]; simp
      · cases h
structure Short (r : Rg) : Prop where
  s : okS short r.s
theorem Short.minus {r q : Rg} (h : Short r) (k : Short q) : Short (r.minus q) := ⟨okS_minus h.s k.s⟩
theorem Short.and {r q : Rg} (h : Short r) (k : Short q) : Short (r.and q) := h.minus (h.minus k)
theorem short_none : Short noneR := ⟨fun _ h => (by cases h)⟩
theorem short_all : Short allR := ⟨fun x hx => by rw [List.mem_singleton.1 hx]; exact ⟨short_first 2, short_end, rfl⟩⟩
theorem short_set {k : Int} {c : C} (h : c.v.s.length ≤ 32) : Short (setR k (ofL c)) := by
  unfold setR
  split
  · exact ⟨fun _ h => (by cases h)⟩
  · split
    · exact ⟨ofL_ok (short_around h) (short_first _) short_end fun _ => short_past h⟩
    · exact ⟨fun _ h => (by cases h)⟩
theorem short_fold (l : List V) (hl : ∀ v ∈ l, mayV v = true) : ∀ (r : Rg), Short r → Short (l.foldl (fun r v => r.minus (oneV v)) r) := by
  induction l with
  | nil => intro r h; exact h
  | cons v l ih => intro r h; exact ih (fun x hx => hl x (List.mem_cons_of_mem _ hx)) _ (h.minus (short_set (mayV_len (hl v List.mem_cons_self))))
theorem short_of (c : C) : Short (ofR c) := by
  unfold ofR
  split
  · exact short_none
  · rename_i hm
    simp only [Bool.not_eq_true', Bool.not_eq_false] at hm
    unfold mayC at hm
    split at hm
    · cases hm
    · split
      · exact short_all
      · rename_i h1
        rw [if_neg h1] at hm
        split
        · rename_i h9
          rw [if_neg (show ¬ (2 ≤ c.op ∧ c.op ≤ 7) by omega), if_neg (show ¬ c.op = 8 by omega), if_pos h9] at hm
          simp only [Bool.and_eq_true, List.all_eq_true] at hm
          exact short_all.minus (short_fold _ hm.2 _ short_all)
        · rename_i h9
          refine short_set ?_
          split at hm
          · simp only [Bool.and_eq_true] at hm; exact mayV_len hm.1
          · split at hm
            · simp only [Bool.and_eq_true] at hm; exact mayV_len hm.1.1
            · cases hm
theorem short_asked (p : List C) (name : List UInt8) : Short (askedF p name) := by
  unfold askedF
  split
  · exact short_none
  · have : ∀ (l : List C) (r : Rg), Short r → Short (l.foldl (fun r c => if c.name = name then r.and (ofR c) else r) r) := fun l => by
      induction l with
      | nil => intro r h; exact h
      | cons c l ih =>
        intro r h
        rw [List.foldl_cons]
        refine ih _ ?_
        split
        · exact h.and (short_of c)
        · exact h
    exact this p _ short_all
theorem some_short {r : Rg} (h : Good4 r) (k : Short r) : (someR r).1.s.length ≤ 33 ∧ -9223372036854775808 ≤ (someR r).1.n ∧ (someR r).1.n ≤ 9223372036854775807 := by
  unfold someR
  split
  · rename_i x l e
    have h8 := h.i x (by rw [e]; exact List.mem_cons_self)
    have h8' : x.lo.a.length = 8 := by
      rcases h8.1 with h1 | h1
      · rw [lt_live h8.2.2] at h1; cases h1
      · exact h1
    have := wholeF_lt 8 _ h8'
    refine ⟨by simp, ?_, ?_⟩ <;> simp only <;> omega
  · split
    · rename_i x l e
      have hx := (k.s x (by rw [e]; exact List.mem_cons_self)).1
      exact ⟨hx, by simp⟩
    · split
      · exact ⟨by simp, by simp⟩
      · exact ⟨by simp, by simp⟩

/-- What the law CoverValues asks of two regions. -/
theorem values_law {r s : Rg} (h : Good4 r) (k : Good4 s) :
    ((r.and s).within r = true ∧ (r.and s).within s = true ∧ (r.minus s).within r = true ∧ ((r.minus s).and s).empty = true) ∧
    (((r.and s).and s).minus (r.minus s)).within (r.and s) = true ∧ (r.and s).within (((r.and s).and s).minus (r.minus s)) = true ∧
    r.within allR = true ∧ (r.minus allR).empty = true := by
  have hm := h.and k
  have hl := h.minus k
  refine ⟨⟨?_, ?_, ?_, ?_⟩, ?_, ?_, ?_, ?_⟩
  · refine (within_iff hm h).2 fun v hv => ?_
    rw [has_and, Bool.and_eq_true] at hv; exact hv.1
  · refine (within_iff hm k).2 fun v hv => ?_
    rw [has_and, Bool.and_eq_true] at hv; exact hv.2
  · refine (within_iff hl h).2 fun v hv => ?_
    rw [has_minus, Bool.and_eq_true] at hv; exact hv.1
  · refine (empty_iff (hl.and k)).2 fun v => ?_
    rw [has_and, has_minus]; cases r.has v <;> cases s.has v <;> rfl
  · refine (within_iff ((hm.and k).minus hl) hm).2 fun v hv => ?_
    rw [has_minus, has_and, Bool.and_eq_true, Bool.and_eq_true] at hv; exact hv.1.1
  · refine (within_iff hm ((hm.and k).minus hl)).2 fun v hv => ?_
    rw [has_minus, has_and, has_minus, hv]
    rw [has_and, Bool.and_eq_true] at hv
    rw [hv.1, hv.2]; rfl
  · exact (within_iff h good_all).2 fun v _ => all_has v
  · refine (empty_iff (h.minus good_all)).2 fun v => ?_
    rw [has_minus, all_has]; cases r.has v <;> rfl
theorem values_some {r s : Rg} (h : Good4 r) (k : Good4 s) :
    (someR (r.minus s)).2 = !(r.minus s).empty ∧ ((r.minus s).empty = false → r.has (someR (r.minus s)).1 = true ∧ s.has (someR (r.minus s)).1 = false) ∧
    (someR (r.and s)).2 = !(r.and s).empty ∧ ((r.and s).empty = false → r.has (someR (r.and s)).1 = true ∧ s.has (someR (r.and s)).1 = true) := by
  have h1 := some_law (h.minus k)
  have h2 := some_law (h.and k)
  refine ⟨h1.1, fun e => ?_, h2.1, fun e => ?_⟩
  · have := h1.2 (by rw [h1.1, e]; rfl)
    rw [has_minus, Bool.and_eq_true, Bool.not_eq_true'] at this
    exact this
  · have := h2.2 (by rw [h2.1, e]; rfl)
    rw [has_and, Bool.and_eq_true] at this
    exact this
end Go.Proofs.Ytkefppdacigbmaa

namespace Go.Proofs.Ytkefppdacigbmaa
open Go.RowKit
section
variable {H : Type} {enc : TypeId × Value → H} {W : World} {base : Nat} {held : Bool}
set_option maxRecDepth 100000 in
theorem open_val_size {fuel : Nat} {a b c : Value} {s : ByteArray} {x : DataW H × List MemPlace} (h : DataW.trod enc Try.prog W base (fun _ => true) held fuel 28 [a, b, .string s, c] = some x) : s.size ∈ x.1.weights Try.prog 28 := by
  obtain ⟨xs, n, _, ex, hl, hx, hf⟩ := DataW.trod_struct Try.underlying28 h
  match xs, hx with
  | [y0, y1, y2, y3], _ =>
    have q9 : Try.prog.cellsOf 9 = 1 := by kernel_rfl
    have h2 := hf 2 _ rfl
    simp only [q9, List.getElem_toArray, List.getElem_cons_zero, List.getElem_cons_succ, List.getElem?_cons_zero, List.getElem?_cons_succ, List.drop_zero, List.drop_succ_cons, List.take_succ_cons, List.take_zero] at h2
    obtain ⟨s', e2, e3, w2⟩ := DataW.trod_string Try.underlying9 h2
    subst ex
    simp only [List.cons.injEq, Value.string.injEq, and_true] at e2
    subst e2
    have hy : y2.1 = .lit (.string s.data.toList) := congrArg Prod.fst e3
    show s.size ∈ DataW.weights Try.prog 28 (.agg [y0.1, y1.1, y2.1, y3.1])
    rw [hy]
    simp only [DataW.weights, Try.underlying28]
    refine List.mem_append_right _ (List.mem_append_right _ (List.mem_append_left _ ?_))
    simp only [DataW.weights, List.mem_singleton]
    show s.size = s.data.toList.length
    simp
theorem arg_value_size {ts : List TypeId} {ds : List (DataW H)} (hz : (DataW.weightsEach Try.prog ts ds).all (· ≤ reachBytes) = true) {j : Nat} {d : DataW H} {p : List MemPlace} {a b c : Value} {s : List UInt8}
    (ht : ts[j]? = some 28) (hd : ds[j]? = some d) (h : DataW.Trod enc Try.prog W base (fun _ => true) held 28 (.agg #[a, b, .string (strOf s), c]) d p)
    (ha : ∃ k, a = .int .i64 k) (hb : ∃ k, b = .int .i64 k) (hc : ∃ k, c = .bool k) : s.length ≤ 140737488355328 := by
  obtain ⟨k1, rfl⟩ := ha; obtain ⟨k2, rfl⟩ := hb; obtain ⟨k3, rfl⟩ := hc
  obtain ⟨fuel, hf⟩ := h
  have e : (Value.agg #[.int .i64 k1, .int .i64 k2, .string (strOf s), .bool k3]).cells.toList = [.int .i64 k1, .int .i64 k2, .string (strOf s), .bool k3] := by simp [Value.cells]
  have := open_val_size (by first | exact hf | (rw [e] at hf; exact hf))
  have h2 := List.all_eq_true.1 hz _ (DataW.weights_mem_each ht hd _ this)
  have e3 : (strOf s).size = s.length := by show s.toArray.size = _; simp
  rw [e3] at h2
  have h3 : s.length ≤ reachBytes := by simpa using h2
  exact Nat.le_trans h3 (by decide)
end
end Go.Proofs.Ytkefppdacigbmaa

namespace Go.Proofs.Ytkefppdacigbmaa
open Go.RowKit

theorem cs_row (w : World) (x : CS) (s : Option Addr) (n c : Nat) (hx : x.h = .slice s n c) : Row (w.alloc (.cells #[.string (strOf x.c.name), .int .i64 x.c.op, .int .i64 x.c.v.k, .int .i64 x.c.v.n, .string (strOf x.c.v.s), .bool x.c.v.b, .slice s n c] 31)) 7 (.slice (some ⟨w.heap.size, 0, none⟩) 1 1) 1 (csC x) := by
  have := Row.of_own (World.ownsRow_lit (base := w.heap.size) (e := 31) (size := 7) w (csC x).toArray 1 (Nat.le_refl _) (by decide) (by simp [csC_len]))
  unfold csC at this ⊢
  rw [hx] at this ⊢
  exact this

set_option maxRecDepth 100000 in
set_option maxHeartbeats 8000000 in
theorem only48_any (w : World) (vp : Value) (p : List C) (bn : Nat) (name : List UInt8) (hp : PredR w vp p) (hl : p.length ≤ 6) (hn : w.heap[bn]? = some (.cells #[.string (strOf name)] 9 (0, 0))) :
    Calls Try.prog 48 #[vp, .pointer (some ⟨bn, 0, none⟩)] w fun e w' => ∃ v, e = .returned v ∧ PredR w' v (p.filter fun c => decide (c.name = name)) ∧ Ext w w' := by
  obtain ⟨a, cap, rfl, _, _⟩ := hp.shape
  have HP := Lib.hid hp
  have HN := Lib.hid hn
  clear hp hn
  generalize hN : p.length = N at *
  have HNN := Lib.hid hN
  clear hN
  have H0 : Hid (∃ us : List CS, us.map CS.c = (p.take 0).filter (fun c => decide (c.name = name)) ∧ us.length ≤ 0 ∧ w.ownsRow w.heap.size 31 7 (.slice none 0 0) us.length (us.flatMap csC) ∧ ∀ x ∈ us, SetR w x.h x.c.set) := ⟨[], rfl, Nat.le_refl _, ⟨rfl, .inl ⟨rfl, rfl⟩⟩, fun x hx => by cases hx⟩
  go_enter Try.func48, Try.ntmps48
  go_wp2_with fail
  go_loopw [4, 5] (fun v i wr => ∃ k : Nat, k ≤ N ∧ i = .int .i64 k ∧ Hid (∃ us : List CS, us.map CS.c = (p.take k).filter (fun c => decide (c.name = name)) ∧ us.length ≤ k ∧ wr.ownsRow w.heap.size 31 7 v us.length (us.flatMap csC) ∧ ∀ x ∈ us, SetR w x.h x.c.set) ∧ Ext w wr) (fun _ i _ => N - (intOf i).toNat)
  case atStart => exact ⟨0, Nat.zero_le _, rfl, H0, Ext.refl w⟩
  case round =>
    clear H0
    obtain ⟨k, hk, rfl, hst, hx⟩ := hrel
    by_cases hlt : k < N
    · have hI : decide ((k : Int) < (N : Int)) = true := decide_eq_true (by omega)
      have hkl : k < p.length := by rw [HNN.out]; exact hlt
      obtain ⟨B, o, sa, sc, rfl, f0, f1, f2, f3, f4, f5, f6, hset⟩ := PredR.at HP.out hkl
      have f0 := hx.cell f0
      have f1 := hx.cell f1
      have f2 := hx.cell f2
      have f3 := hx.cell f3
      have f4 := hx.cell f4
      have f5 := hx.cell f5
      have f6 := hx.cell f6
      have mb := cell_of_row _ _ 0 _ _ _ (block_later HN.out hx)
      have hstep : (p.take (k + 1)).filter (fun c => decide (c.name = name)) = (p.take k).filter (fun c => decide (c.name = name)) ++ if p[k].name = name then [p[k]] else [] := by
        rw [List.take_succ_eq_append_getElem hkl, List.filter_append]
        congr 1
        by_cases h : p[k].name = name <;> simp [h]
      have HSTEP := Lib.hid hstep
      have HSET := Lib.hid hset
      clear hstep hset
      generalize p[k] = x at *
      by_cases hnm : x.name = name
      · have hd : (x.name == name) = true := beq_iff_eq.2 hnm
        have hst2 := HSTEP.out
        rw [if_pos hnm] at hst2
        have HST2 := Lib.hid hst2
        clear hnm hst2 HSTEP
        obtain ⟨us, e1, e2, e3, e4⟩ := hst.out
        have HE1 := Lib.hid e1
        have HE2 := Lib.hid e2
        have HE4 := Lib.hid e4
        clear e1 e2 e4 hst
        go_upto_region 5 with fail
        refine wp_region_facts [Fact.eq (.slice (some ⟨B, o, none⟩) N cap),
            Fact.eq (.int .i64 k),
            Fact.eq (.pointer (some ⟨B, o + k * 7, none⟩)),
            Fact.eq (.pointer (some ⟨B, o + k * 7, none⟩)),
            Fact.eq (.string (strOf x.name)),
            Fact.eq (.string (strOf name)),
            Fact.eq (.bool true)]
          [[], [], [(0, 12), (1, 13)], [(2, 14)], [(3, 15)], [], [(4, 16), (5, 17)]]
          [(0, 12), (1, 13), (2, 14), (3, 15), (4, 16), (5, 17), (6, 18)] (by kernel_rfl) (by kernel_rfl) ?_ ?_
        · refine ⟨?_, ?_, ?_, ?_, ?_, ?_, ?_, trivial⟩
          · intro w1 hx1; change wpList _ _ _ _ _ _; exact ob_move rfl rfl rfl rfl rfl
          · intro w1 hx1; change wpList _ _ _ _ _ _; exact ob_move rfl rfl rfl rfl rfl
          · intro w1 hx1; rintro _ rfl; rintro _ rfl; change wpList _ _ _ _ _ _; go_wp2_with fail; exact ⟨rfl, Ext.refl _, rfl, rfl⟩
          · intro w1 hx1; rintro _ rfl; change wpList _ _ _ _ _ _; go_wp2_with fail; exact ⟨rfl, Ext.refl _, rfl, rfl⟩
          · intro w1 hx1; rintro _ rfl; change wpList _ _ _ _ _ _; have m := hx1.cell f0; go_wp2_with fail; exact ⟨rfl, Ext.refl _, rfl, rfl⟩
          · intro w1 hx1; change wpList _ _ _ _ _ _; have m := hx1.cell mb; go_wp2_with fail; exact ⟨rfl, Ext.refl _, rfl, rfl⟩
          · intro w1 hx1; rintro _ rfl; rintro _ rfl; change wpList _ _ _ _ _ _; go_wp2_with fail; exact ⟨rfl, Ext.refl _, rfl, rfl⟩
        · intro w1 hx1; rintro _ rfl; rintro _ rfl; rintro _ rfl; rintro _ rfl; rintro _ rfl; rintro _ rfl; rintro _ rfl; refine depsThen_nil ?_; dsimp only; simp only [Act.put, List.setIfInBounds_toArray, List.set_cons_zero, List.set_cons_succ]
          have hxr := hx.trans hx1
          have g0 := hx1.cell f0
          have g1 := hx1.cell f1
          have g2 := hx1.cell f2
          have g3 := hx1.cell f3
          have g4 := hx1.cell f4
          have g5 := hx1.cell f5
          have g6 := hx1.cell f6
          generalize hXL : x.set.length = XL at *
          have hrow := cs_row w1 ⟨x, .slice sa XL sc⟩ sa XL sc rfl
          have hxa := (boxes1 w1 (.cells #[.string (strOf x.name), .int .i64 x.op, .int .i64 x.v.k, .int .i64 x.v.n, .string (strOf x.v.s), .bool x.v.b, .slice sa XL sc] 31)).1
          have ho := own_ext (own_ext e3 hx1) hxa
          have hx2 := hxr.trans hxa
          have HROW := Lib.hid hrow
          have HOWN := Lib.hid ho
          have HXL := Lib.hid hXL
          have hbase := hx2.size
          have hone : ∀ u ∈ csC ⟨x, .slice sa XL sc⟩, u.oneCell' = true := by intro u hu; simp only [csC, List.mem_cons, List.not_mem_nil, or_false] at hu; rcases hu with rfl | rfl | rfl | rfl | rfl | rfl | rfl <;> rfl
          have HONE := Lib.hid hone
          have hul := HE2.out
          clear f0 f1 f2 f3 f4 f5 f6 mb e3 hrow ho hxa hxr hx hx1 hXL hone
          go_wp2_with (at_builtin; refine wpList_append_row 23 31 (.tmp 19) (.tmp 24) rfl w.heap.size _ 7 88 Try.underlying23 info31t rfl (by decide) rfl _ us.length (us.flatMap csC) rfl HOWN.out 1 (csC ⟨x, .slice sa XL sc⟩) HROW.out HONE.out (by have := HNN.out; omega) (by unfold maxLen; omega) hbase ?_; intro v' w' hown2 hg; have HO2 := Lib.hid hown2; have HX2 := Lib.hid (hx2.grown_none hg (own_base HOWN.out)); clear hown2 hg)
          go_roundw
          case rel =>
            refine ⟨k + 1, hlt, by go_num, ⟨us ++ [⟨x, .slice sa XL sc⟩], ?_, ?_, ?_, ?_⟩, HX2.out⟩
            · rw [HST2.out, List.map_append, HE1.out]; rfl
            · rw [List.length_append]; simp; exact hul
            · rw [List.length_append, List.flatMap_append]
              have := HO2.out
              simpa using this
            · intro y hy
              rcases List.mem_append.1 hy with hy | hy
              · exact HE4.out y hy
              · rw [List.mem_singleton.1 hy]
                show SetR w (.slice sa XL sc) x.set
                exact HSET.out
          case measure => simp [intOf]; omega
      · have hd : (x.name == name) = false := by
          cases h : x.name == name with
          | false => rfl
          | true => exact absurd (beq_iff_eq.1 h) hnm
        have hst2 := HSTEP.out
        rw [if_neg hnm, List.append_nil] at hst2
        have HST2 := Lib.hid hst2
        clear hnm hst2 HSTEP f1 f2 f3 f4 f5 f6
        go_upto_region 5 with fail
        refine wp_region_facts [Fact.eq (.slice (some ⟨B, o, none⟩) N cap),
            Fact.eq (.int .i64 k),
            Fact.eq (.pointer (some ⟨B, o + k * 7, none⟩)),
            Fact.eq (.pointer (some ⟨B, o + k * 7, none⟩)),
            Fact.eq (.string (strOf x.name)),
            Fact.eq (.string (strOf name)),
            Fact.eq (.bool false)]
          [[], [], [(0, 12), (1, 13)], [(2, 14)], [(3, 15)], [], [(4, 16), (5, 17)]]
          [(0, 12), (1, 13), (2, 14), (3, 15), (4, 16), (5, 17), (6, 18)] (by kernel_rfl) (by kernel_rfl) ?_ ?_
        · refine ⟨?_, ?_, ?_, ?_, ?_, ?_, ?_, trivial⟩
          · intro w1 hx1; change wpList _ _ _ _ _ _; exact ob_move rfl rfl rfl rfl rfl
          · intro w1 hx1; change wpList _ _ _ _ _ _; exact ob_move rfl rfl rfl rfl rfl
          · intro w1 hx1; rintro _ rfl; rintro _ rfl; change wpList _ _ _ _ _ _; go_wp2_with fail; exact ⟨rfl, Ext.refl _, rfl, rfl⟩
          · intro w1 hx1; rintro _ rfl; change wpList _ _ _ _ _ _; go_wp2_with fail; exact ⟨rfl, Ext.refl _, rfl, rfl⟩
          · intro w1 hx1; rintro _ rfl; change wpList _ _ _ _ _ _; have m := hx1.cell f0; go_wp2_with fail; exact ⟨rfl, Ext.refl _, rfl, rfl⟩
          · intro w1 hx1; change wpList _ _ _ _ _ _; have m := hx1.cell mb; go_wp2_with fail; exact ⟨rfl, Ext.refl _, rfl, rfl⟩
          · intro w1 hx1; rintro _ rfl; rintro _ rfl; change wpList _ _ _ _ _ _; go_wp2_with fail; exact ⟨rfl, Ext.refl _, rfl, rfl⟩
        · intro w1 hx1; rintro _ rfl; rintro _ rfl; rintro _ rfl; rintro _ rfl; rintro _ rfl; rintro _ rfl; rintro _ rfl; refine depsThen_nil ?_; dsimp only; simp only [Act.put, List.setIfInBounds_toArray, List.set_cons_zero, List.set_cons_succ]
          have hxr := Lib.hid (hx.trans hx1)
          have hs2 := hst.out
          obtain ⟨us, e1, e2, e3, e4⟩ := hs2
          have hs3 : Hid (∃ us : List CS, us.map CS.c = (p.take (k + 1)).filter (fun c => decide (c.name = name)) ∧ us.length ≤ k + 1 ∧ w1.ownsRow w.heap.size 31 7 _ us.length (us.flatMap csC) ∧ ∀ x ∈ us, SetR w x.h x.c.set) := ⟨us, by rw [HST2.out]; exact e1, Nat.le_succ_of_le e2, own_ext e3 hx1, e4⟩
          clear f0 mb hx hx1 hst e1 e2 e3 e4
          go_wp2_with fail
          go_roundw
          case rel => exact ⟨k + 1, hlt, by go_num, hs3, hxr.out⟩
          case measure => simp [intOf]; omega
    · obtain rfl : k = N := by omega
      have hI : decide ((k : Int) < (k : Int)) = false := decide_eq_false (by omega)
      have htk : p.take k = p := List.take_of_length_le (by rw [HNN.out]; exact Nat.le_refl _)
      have hs2 := hst.out
      rw [htk] at hs2
      obtain ⟨us, e1, e2, e3, e4⟩ := hs2
      have hp2 := PredR.mk us (Row.of_own e3) (fun y hy => (e4 y hy).ext hx)
      rw [e1] at hp2
      have HP2 := Lib.hid hp2
      have HXX := Lib.hid hx
      clear e1 e2 e3 e4 hp2 htk hst hx
      go_wp2_with fail
      go_ret
      exact ⟨_, rfl, HP2.out, HXX.out⟩
end Go.Proofs.Ytkefppdacigbmaa
