/- A predicate's sets are within the form's reach. (Of any seat that holds predicates.)
PLAIN: what a splicer tells rises.
Splice: a page of which the first items and gaps are left.
A law's argument of acts of a splicer (pneumaticlaw26), opened; its sizes are within the form's reach. -/
import Derived.SizedLaws
import Derived.BigRegion
import Derived.Test.YtaklnpjpndkccaaGreatPk2
import Derived.Test.YtaklnpjpndkccaaGreatPk9
import Derived.Test.YtaklnpjpndkccaaGreatPk11
import Derived.Test.YtaklnpjpndkccaaGreatPk3
namespace Go.Proofs.YtaklnpjpndkccaaGreat
open Go.RowKit Go.ChangeShapes Go.WideShapes Go.Deep
section
variable {H : Type} {enc : TypeId × Value → H} {W : World} {base : Nat} {held : Bool}
theorem weightsAll_mem {P : Program} {e : TypeId} : ∀ {l : List (DataW H)} {d : DataW H} {n : Nat}, d ∈ l → n ∈ d.weights P e → n ∈ DataW.weightsAll P e l
  | d0 :: l, d, n, hd, hn => by
    simp only [DataW.weightsAll, List.mem_append]
    rcases List.mem_cons.1 hd with rfl | hd
    · exact .inl hn
    · exact .inr (weightsAll_mem hd hn)
theorem bytesOfV : Tryz.prog.bytesOf 80 = 40 := by kernel_rfl
set_option maxRecDepth 100000 in
theorem open_setS {fuel : Nat} {h : Value} {x : DataW H × List MemPlace} (ht : DataW.trod enc Tryz.prog W base (fun _ => true) held fuel 92 [h] = some x) : ∃ l : List V, SetR W h l ∧ (l = [] ∨ ∃ n ∈ x.1.weights Tryz.prog 92, l.length * 40 ≤ n) := by
  rcases open_slice Tryz.underlying92 ht with ⟨e, _⟩ | ⟨a, len, cap, m, n, D, Pl, e, _, hl, hm, hmm, ex, hi⟩
  · simp only [List.cons.injEq, and_true] at e
    subst e
    exact ⟨[], SetR.nil W, .inl rfl⟩
  · simp only [List.cons.injEq, and_true] at e
    subst e
    simp only [if_true] at hmm
    subst hmm
    have hC : Tryz.prog.cellsOf 80 = 4 := by kernel_rfl
    rw [hC] at hi
    obtain ⟨l, hln, hp⟩ := list_of (p := fun i (v : V) => W.cells? base (a.add (i * 4)) 4 = some (vC v)) m fun i hi' => by
      obtain ⟨cs, h1, h2⟩ := hi i hi'
      obtain ⟨v, rfl, hv⟩ := open_vals h2
      exact ⟨v, h1⟩
    have hr := row_of_cells vC 4 vC_len (by decide) hl hm l hln fun i hi => hp i hi
    have e : (l.take len).length = len := by rw [List.length_take]; omega
    refine ⟨l.take len, ?_, .inr ⟨_, by rw [ex]; simp only [DataW.weights, Tryz.underlying92]; exact List.mem_cons_self .., ?_⟩⟩
    · unfold SetR
      rw [e]; exact hr
    · rw [bytesOfV, e]
      simp only [List.length_map, List.length_range]
      omega
set_option maxRecDepth 100000 in
theorem open_consS {fuel : Nat} {cs : List Value} {x : DataW H × List MemPlace} (h : DataW.trod enc Tryz.prog W base (fun _ => true) held fuel 94 cs = some x) : ∃ c : CS, cs = csC c ∧ SetR W c.h c.c.set ∧ (c.c.set = [] ∨ ∃ n ∈ x.1.weights Tryz.prog 94, c.c.set.length * 40 ≤ n) ∧ (∃ n ∈ x.1.weights Tryz.prog 94, c.c.name.length ≤ n) := by
  obtain ⟨xs, n, _, ex, hl, hx, hf⟩ := DataW.trod_struct Tryz.underlying94 h
  have hC : Tryz.prog.cellsOf 94 = 7 := by kernel_rfl
  rw [hC] at hl
  match cs, hl with
  | [c0, c1, c2, c3, c4, c5, c6], _ =>
    match xs, hx with
    | [y0, y1, y2, y3], _ =>
      have q3 : Tryz.prog.cellsOf 3 = 1 := by kernel_rfl
      have q9 : Tryz.prog.cellsOf 9 = 1 := by kernel_rfl
      have q28 : Tryz.prog.cellsOf 80 = 4 := by kernel_rfl
      have q29 : Tryz.prog.cellsOf 92 = 1 := by kernel_rfl
      have h0 := hf 0 _ rfl
      have h1 := hf 1 _ rfl
      have h2 := hf 2 _ rfl
      have h3 := hf 3 _ rfl
      simp only [q3, q9, q28, q29, List.getElem_toArray, List.getElem_cons_zero, List.getElem_cons_succ, List.getElem?_cons_zero, List.getElem?_cons_succ, List.drop_zero, List.drop_succ_cons, List.take_succ_cons, List.take_zero] at h0 h1 h2 h3
      obtain ⟨s, e0, z0, w0⟩ := DataW.trod_string Tryz.underlying9 h0
      obtain ⟨k, e1, _, w1⟩ := DataW.trod_int Tryz.underlying3 h1
      obtain ⟨v, e2, w2⟩ := open_vals h2
      obtain ⟨l, e3, w3⟩ := open_setS h3
      simp only [vC, List.cons.injEq, and_true] at e0 e1 e2
      obtain ⟨rfl, rfl, rfl, rfl⟩ := e2
      subst e0; subst e1
      subst ex
      refine ⟨⟨⟨s.data.toList, k, v, l⟩, c6⟩, ?_, e3, w3.imp id ?_, s.data.toList.length, ?_, Nat.le_refl _⟩
      · unfold csC; rw [strOf_of]
      · rintro ⟨n, hn, hle⟩
        refine ⟨n, ?_, hle⟩
        show n ∈ DataW.weights Tryz.prog 94 (.agg [y0.1, y1.1, y2.1, y3.1])
        simp only [DataW.weights, Tryz.underlying94]
        exact DataW.weights_mem_each (j := 3) (t := 92) rfl rfl _ hn
      · show _ ∈ DataW.weights Tryz.prog 94 (.agg [y0.1, y1.1, y2.1, y3.1])
        simp only [DataW.weights, Tryz.underlying94]
        refine DataW.weights_mem_each (j := 0) (t := 9) rfl rfl _ ?_
        rw [z0]
        exact List.mem_singleton.2 rfl
set_option maxRecDepth 100000 in
theorem open_predS {fuel : Nat} {h : Value} {x : DataW H × List MemPlace} (ht : DataW.trod enc Tryz.prog W base (fun _ => true) held fuel 23 [h] = some x) : ∃ p : List C, PredR W h p ∧ (∀ c ∈ p, c.set = [] ∨ ∃ n ∈ x.1.weights Tryz.prog 23, c.set.length * 40 ≤ n) ∧ (∀ c ∈ p, ∃ n ∈ x.1.weights Tryz.prog 23, c.name.length ≤ n) := by
  rcases open_slice Tryz.underlying23 ht with ⟨e, _⟩ | ⟨a, len, cap, m, n, D, Pl, e, _, hl, hm, hmm, ex, hi⟩
  · simp only [List.cons.injEq, and_true] at e
    subst e
    exact ⟨[], PredR.nil W, (fun _ h => by cases h), (fun _ h => by cases h)⟩
  · simp only [List.cons.injEq, and_true] at e
    subst e
    simp only [if_true] at hmm
    subst hmm
    have hC : Tryz.prog.cellsOf 94 = 7 := by kernel_rfl
    rw [hC] at hi
    obtain ⟨l, hln, hp⟩ := list_of (p := fun i (c : CS) => W.cells? base (a.add (i * 7)) 7 = some (csC c) ∧ SetR W c.h c.c.set ∧ (c.c.set = [] ∨ ∃ n ∈ (D i).weights Tryz.prog 94, c.c.set.length * 40 ≤ n) ∧ (∃ n ∈ (D i).weights Tryz.prog 94, c.c.name.length ≤ n)) m fun i hi' => by
      obtain ⟨cs, h1, h2⟩ := hi i hi'
      obtain ⟨v, rfl, hv⟩ := open_consS h2
      exact ⟨v, h1, hv⟩
    have hr := row_of_cells csC 7 csC_len (by decide) hl hm l hln fun i hi => (hp i hi).1
    have e : (l.take len).length = len := by rw [List.length_take]; omega
    have hall : ∀ y ∈ l.take len, SetR W y.h y.c.set ∧ (y.c.set = [] ∨ ∃ n ∈ x.1.weights Tryz.prog 23, y.c.set.length * 40 ≤ n) ∧ (∃ n ∈ x.1.weights Tryz.prog 23, y.c.name.length ≤ n) := fun y hy => by
      obtain ⟨i, hi, rfl⟩ := List.getElem_of_mem hy
      have hil : i < len := by omega
      rw [List.getElem_take]
      obtain ⟨_, h1, h2, h3⟩ := hp i (by omega)
      have hup : ∀ n, n ∈ (D i).weights Tryz.prog 94 → n ∈ x.1.weights Tryz.prog 23 := fun n hn => by
        rw [ex]
        simp only [DataW.weights, Tryz.underlying23]
        exact List.mem_cons_of_mem _ (List.mem_append_left _ (weightsAll_mem (List.mem_map.2 ⟨i, List.mem_range.2 hil, rfl⟩) hn))
      exact ⟨h1, h2.imp id fun ⟨n, hn, hle⟩ => ⟨n, hup n hn, hle⟩, h3.imp fun n hn => ⟨hup n hn.1, hn.2⟩⟩
    refine ⟨(l.take len).map CS.c, PredR.mk _ (by rw [e]; exact hr) (fun x hx => (hall x hx).1), (fun c hc => ?_), (fun c hc => ?_)⟩
    · obtain ⟨x, hx, rfl⟩ := List.mem_map.1 hc
      exact (hall x hx).2.1
    · obtain ⟨x, hx, rfl⟩ := List.mem_map.1 hc
      exact (hall x hx).2.2
set_option maxRecDepth 100000 in
theorem arg_predS {ts : List TypeId} {ds : List (DataW H)} (hz : (DataW.weightsEach Tryz.prog ts ds).all (· ≤ reachBytes) = true) {j : Nat} {b0 : Nat} {v : Value} {d : DataW H} {p : List MemPlace} (ht : ts[j]? = some 23) (hd : ds[j]? = some d)
    (hv : Value.okWide Tryz.prog W .any b0 23 v) (h : DataW.Trod enc Tryz.prog W base (fun _ => true) held 23 v d p) : ∃ l : List C, PredR W v l ∧ ∀ c ∈ l, c.set.length * 40 ≤ 140737488355328 := by
  obtain ⟨a, len, cap, rfl⟩ := okWide_slice Tryz.underlying23 hv
  obtain ⟨fuel, hf⟩ := h
  obtain ⟨us, h1, h2, _⟩ := open_predS hf
  refine ⟨us, h1, fun y hy => ?_⟩
  rcases h2 y hy with h0 | ⟨n, hn, hle⟩
  · rw [h0]; exact Nat.zero_le _
  · have h3 := List.all_eq_true.1 hz _ (DataW.weights_mem_each ht hd n hn)
    have h4 : n ≤ reachBytes := by simpa using h3
    exact Nat.le_trans hle (Nat.le_trans h4 (by decide))
end
end Go.Proofs.YtaklnpjpndkccaaGreat

namespace Go.Proofs.YtaklnpjpndkccaaGreat
open Go.RowKit

/-- Deliveries that rise, from a number on. -/
def RiseL (p : List C) : Nat → List PD → Nat → Prop
  | next, [], nx => next ≤ nx
  | next, d :: r, nx => next ≤ d.beg ∧ d.beg ≤ d.num ∧ (d.n = 0 ∨ matchP p d.av = true) ∧ RiseL p (d.num + 1) r nx
theorem RiseL.le {p : List C} : ∀ {m : List PD} {next nx nx' : Nat}, RiseL p next m nx → nx ≤ nx' → RiseL p next m nx'
  | [], _, _, _, h, k => Nat.le_trans h k
  | _ :: _, _, _, _, h, k => ⟨h.1, h.2.1, h.2.2.1, RiseL.le h.2.2.2 k⟩
theorem RiseL.from {p : List C} : ∀ {m : List PD} {next next' nx : Nat}, RiseL p next m nx → next' ≤ next → RiseL p next' m nx
  | [], _, _, _, h, k => Nat.le_trans k h
  | _ :: _, _, _, _, h, k => ⟨Nat.le_trans k h.1, h.2⟩
theorem RiseL.end {p : List C} : ∀ {m : List PD} {next nx : Nat}, RiseL p next m nx → next ≤ nx
  | [], _, _, h => h
  | _ :: _, _, _, h => by have := RiseL.end h.2.2.2; have := h.1; have := h.2.1; omega
theorem wants_rise {p : List C} {next : Nat} {d : PD} (h : wantsB p next d = true) : next ≤ d.beg ∧ d.beg ≤ d.num ∧ (d.n = 0 ∨ matchP p d.av = true) := by
  unfold wantsB mayD at h
  simp only [Bool.and_eq_true, Bool.or_eq_true, decide_eq_true_eq] at h
  exact ⟨h.2.1, h.1.2.1, h.2.2⟩
theorem pageL_rise (p : List C) (room : Int) : ∀ (L : List PD) (next : Nat) (out : List PD), ∃ m, (pageL p room L next out).1 = out ++ m ∧ RiseL p next m (pageL p room L next out).2.1 ∧ (m = [] ∨ ((out ++ m).length : Int) ≤ room)
  | [], next, out => ⟨[], by rw [pageL, List.append_nil], by rw [pageL]; exact Nat.le_refl _, .inl rfl⟩
  | d :: r, next, out => by
    rw [pageL]
    by_cases hw : wantsB p next d = true
    · rw [if_pos hw]
      have hr := wants_rise hw
      by_cases hm : room ≤ (out.length : Int)
      · rw [if_pos hm]
        exact ⟨[], by rw [List.append_nil], hr.1, .inl rfl⟩
      · rw [if_neg hm]
        obtain ⟨m, h1, h2, h3⟩ := pageL_rise p room r (d.num + 1) (out ++ [d])
        refine ⟨d :: m, by rw [h1, List.append_assoc]; rfl, ⟨hr.1, hr.2.1, hr.2.2, h2⟩, .inr ?_⟩
        rcases h3 with rfl | h3
        · simp only [List.length_append, List.length_cons, List.length_nil]; omega
        · simpa using h3
    · rw [if_neg hw]
      exact pageL_rise p room r next out
theorem pageP_rise (p : List C) (room : Int) (en : Nat) (last : Bool) (L : List PD) (next : Nat) : RiseL p next (pageP p room en last L next).1 (pageP p room en last L next).2.1 ∧ ((pageP p room en last L next).1.length : Int) ≤ max room 0 := by
  obtain ⟨m, h1, h2, h3⟩ := pageL_rise p room L next []
  unfold pageP
  generalize pageL p room L next [] = R at *
  obtain ⟨out, nx, b⟩ := R
  simp only [List.nil_append] at h1 h2 h3
  subst h1
  have hl : (out.length : Int) ≤ max room 0 := by
    rcases h3 with rfl | h3
    · simp only [List.length_nil]; omega
    · omega
  cases b
  · exact ⟨h2.le (Nat.le_max_left _ _), hl⟩
  · exact ⟨h2, hl⟩
theorem comesP_rise (p : List C) (room : Int) (x : PI) (next : Nat) (st : Int) : RiseL p next (comesP p room x next st).1 (comesP p room x next st).2.1 ∧ ((comesP p room x next st).1.length : Int) ≤ max room 0 := by
  unfold comesP
  split
  · rename_i h
    have hr := wants_rise h.2
    split
    · exact ⟨Nat.le_refl _, by simp only [List.length_nil]; omega⟩
    · refine ⟨⟨hr.1, hr.2.1, hr.2.2, ?_⟩, by simp only [List.length_cons, List.length_nil]; omega⟩
      have : (PD.ofI x).num = max x.n 0 := rfl
      show (PD.ofI x).num + 1 ≤ x.n + 1
      omega
  · exact ⟨Nat.le_refl _, by simp only [List.length_nil]; omega⟩
end Go.Proofs.YtaklnpjpndkccaaGreat

namespace Go.Proofs.YtaklnpjpndkccaaGreat
open Go.RowKit Go.Sort

theorem sizePage : (Tryz.prog.info? 34).map (·.size) = some 5 := by kernel_rfl
theorem addr_add0 (p : Addr) : p.add 0 = p := by unfold Addr.add; split <;> simp_all
theorem cut_head {α : Type} (f : α → List Value) (sz : Nat) (hf : ∀ x, (f x).length = sz) {w : World} {l : List α} {ad : Option Addr} {c m : Nat} (h : Row w sz (.slice ad l.length c) l.length (l.flatMap f)) (hm : m ≤ l.length) : Row w sz (.slice ad m c) m ((l.take m).flatMap f) := by
  have hc : l.length ≤ c := by
    obtain ⟨a', c', e, hh, _⟩ := Row.shape h
    simp only [Value.slice.injEq] at e
    omega
  have := Row.sub h 0 m (Nat.zero_le _) hm (c - 0) (by omega) (Nat.le_refl _)
  rw [Nat.zero_mul, List.drop_zero, flat_take f sz hf] at this
  have e : (if c = 0 then ad else ad.map (·.add 0)) = ad := by
    split
    · rfl
    · cases ad with
      | none => rfl
      | some p => simp [addr_add0]
  rw [e] at this
  simpa using this
set_option maxRecDepth 100000 in
set_option maxHeartbeats 4000000 in
theorem short_any (wB w : World) (hxB : Ext wB w) (fr en : Nat) (hi hg : Value) (last : Bool) (items : List IM) (gaps : List (Nat × Nat)) (h1 : ImR wB hi items) (h2 : GpR wB hg gaps) :
    Calls Tryz.prog 9 #[.agg #[.int .u64 fr, .int .u64 en, hi, hg, .bool last]] w
      fun e w' => ∃ hi' hg', e = .returned (.agg #[.int .u64 fr, .int .u64 en, hi', hg', .bool last]) ∧ Hid (ImR wB hi' (items.take 40) ∧ GpR wB hg' (gaps.take 40) ∧ Ext w w') := by
  obtain ⟨a1, c1, rfl, _, _⟩ := Row.shape h1.row
  obtain ⟨a2, c2, rfl, _, _⟩ := Row.shape h2
  obtain ⟨hx, hb, hb2⟩ := boxes2 w (.cells #[.int .u64 fr, .int .u64 en, .slice a1 items.length c1, .slice a2 gaps.length c2, .bool last] 34) (.cells #[.int .u64 0, .int .u64 0, .slice none 0 0, .slice none 0 0, .bool false] 34)
  have HB := Lib.hid hb
  have HB2 := Lib.hid hb2
  have HX := Lib.hid hx
  have hc1 : items.length ≤ c1 := by assumption
  have hc2 : gaps.length ≤ c2 := by assumption
  have HW1 := Lib.hid h1
  have H1 := Lib.hid ((h1.ext hxB).ext hx)
  have H2 := Lib.hid (Row.ext (Row.ext h2 hxB) hx)
  obtain ⟨m1, hm1⟩ : ∃ m, m = min items.length 40 := ⟨_, rfl⟩
  obtain ⟨m2, hm2⟩ : ∃ m, m = min gaps.length 40 := ⟨_, rfl⟩
  have q1 : min ((items.length : Nat) : Int) 40 = (m1 : Int) := by omega
  have q2 : min ((gaps.length : Nat) : Int) 40 = (m2 : Int) := by omega
  have HM := Lib.hid (And.intro hm1 hm2)
  have l1 : m1 ≤ items.length := by omega
  have l2 : m2 ≤ gaps.length := by omega
  have CUT1 := Lib.hid (cut_head imC 4 imC_len h1.row l1)
  have CUT2 := Lib.hid (cut_head gpC 2 gpC_len h2 l2)
  clear h1 h2 hx hb hb2 hm1 hm2 hxB
  go_enter Tryz.func9, Tryz.ntmps9
  go_upto_region 1 with fail
  generalize (w.alloc (.cells #[.int .u64 fr, .int .u64 en, .slice a1 items.length c1, .slice a2 gaps.length c2, .bool last] 34)).alloc (.cells #[.int .u64 0, .int .u64 0, .slice none 0 0, .slice none 0 0, .bool false] 34) = wb at *
  go_cut [] from 3 to 18 (fun wx => Hid (∃ e1 f1 e2 f2, wx.heap[w.heap.size]? = some (.cells #[.int .u64 fr, .int .u64 en, .slice e1 m1 f1, .slice e2 m2 f2, .bool last] 34 (0, 0)) ∧ Row wB 4 (.slice e1 m1 f1) m1 ((items.take m1).flatMap imC) ∧ Row wB 2 (.slice e2 m2 f2) m2 ((gaps.take m2).flatMap gpC) ∧ wx.heap[w.heap.size + 1]? = some (.cells #[.int .u64 0, .int .u64 0, .slice none 0 0, .slice none 0 0, .bool false] 34 (0, 0)) ∧ Ext w wx))
  case first =>
    have k0 := HB.out
    have x2 := cell_of_row _ _ 2 _ _ _ k0
    have z2 := frozen_of_row _ _ 2 _ _ k0
    have x3 := cell_of_row _ _ 3 _ _ _ k0
    have z3 := frozen_of_row _ _ 3 _ _ k0
    have p1 : m1 ≤ c1 := by omega
    have p2 : m2 ≤ c2 := by omega
    have k1 := setCell_blockJ 2 (.slice a1 m1 c1) k0
    simp only [List.setIfInBounds_toArray, List.set_cons_zero, List.set_cons_succ] at k1
    have k2 := setCell_blockJ 3 (.slice a2 m2 c2) k1
    simp only [List.setIfInBounds_toArray, List.set_cons_zero, List.set_cons_succ] at k2
    have hxe := (HX.out.setCell (p := ⟨w.heap.size, 2, none⟩) (Nat.le_refl _) (.slice a1 m1 c1)).setCell (p := ⟨w.heap.size, 3, none⟩) (Nat.le_refl _) (.slice a2 m2 c2)
    have kb := (setCell_block_far _ ⟨w.heap.size, 3, none⟩ (.slice a2 m2 c2) (w.heap.size + 1) (Nat.succ_ne_self _)).trans ((setCell_block_far wb ⟨w.heap.size, 2, none⟩ (.slice a1 m1 c1) (w.heap.size + 1) (Nat.succ_ne_self _)).trans HB2.out)
    have HR := Lib.hid (And.intro k2 (And.intro CUT1.out (And.intro CUT2.out (And.intro kb hxe.drew))))
    clear HB HB2 HX H1 H2 HM CUT1 CUT2 HW1 k0 k1 k2 kb hxe
    go_region
    go_wp2_with fail
    go_meet
    exact ⟨_, _, _, _, HR.out⟩
  case rest =>
    obtain ⟨e1, f1, e2, f2, k0, r1, r2, k1, hxx⟩ := hcut.out
    have g0 := cell_of_row _ _ 0 _ _ _ k0
    have g1 := cell_of_row _ _ 1 _ _ _ k0
    have g2 := cell_of_row _ _ 2 _ _ _ k0
    have g3 := cell_of_row _ _ 3 _ _ _ k0
    have g4 := cell_of_row _ _ 4 _ _ _ k0
    have K1 := Lib.hid k1
    have HR := Lib.hid (And.intro r1 (And.intro r2 hxx))
    clear k0 k1 r1 r2 hxx hcut CUT1 CUT2 HB HB2 H1 H2 HX
    go_wp2_with (refine wpList_store_whole 34 (.tmp 2) (.tmp 19) rfl rfl (w.heap.size + 1) rfl #[.int .u64 fr, .int .u64 en, .slice e1 m1 f1, .slice e2 m2 f2, .bool last] rfl _ 34 K1.out rfl sizePage (by simp [Value.oneCell']) ?_)
    have hr := setRow_heap wc (w.heap.size + 1) _ #[.int .u64 fr, .int .u64 en, .slice e1 m1 f1, .slice e2 m2 f2, .bool last] 34 (0, 0) K1.out
    have y0 := cell_of_row _ _ 0 _ _ _ hr
    have y1 := cell_of_row _ _ 1 _ _ _ hr
    have y2 := cell_of_row _ _ 2 _ _ _ hr
    have y3 := cell_of_row _ _ 3 _ _ _ hr
    have y4 := cell_of_row _ _ 4 _ _ _ hr
    refine bodyPost_ret (v := .agg #[.int .u64 fr, .int .u64 en, .slice e1 m1 f1, .slice e2 m2 f2, .bool last]) (by simp [results, Tryz.results9, go_sem, y0, y1, y2, y3, y4]) rfl ⟨_, _, rfl, ?_⟩
    obtain ⟨r1, r2, hxx⟩ := HR.out
    obtain ⟨hm1, hm2⟩ := HM.out
    have hxe : Ext w (wc.setRow (w.heap.size + 1) #[.int .u64 fr, .int .u64 en, .slice e1 m1 f1, .slice e2 m2 f2, .bool last]) := hxx.setRow (Nat.le_succ _) _
    have HI := HW1.out
    refine ⟨⟨?_, fun x hx => HI.hs x (List.mem_of_mem_take hx)⟩, ?_, hxe⟩
    · have e : (items.take 40).length = m1 := by rw [List.length_take, hm1]; omega
      have e2 : items.take 40 = items.take m1 := by
        rw [hm1]
        rcases Nat.le_total items.length 40 with h | h
        · rw [Nat.min_eq_left h, List.take_of_length_le h, List.take_of_length_le (Nat.le_refl _)]
        · rw [Nat.min_eq_right h]
      rw [e, e2]
      exact r1
    · have e : (gaps.take 40).length = m2 := by rw [List.length_take, hm2]; omega
      have e2 : gaps.take 40 = gaps.take m2 := by
        rw [hm2]
        rcases Nat.le_total gaps.length 40 with h | h
        · rw [Nat.min_eq_left h, List.take_of_length_le h, List.take_of_length_le (Nat.le_refl _)]
        · rw [Nat.min_eq_right h]
      show Row _ 2 _ _ _
      rw [e, e2]
      exact r2
end Go.Proofs.YtaklnpjpndkccaaGreat

namespace Go.Proofs.YtaklnpjpndkccaaGreat
open Go.RowKit Go.ChangeShapes Go.WideShapes Go.Deep

/-- An act where it lies. -/
structure AS where
  what : Int
  known : Bool
  cnt : Nat
  fr : Nat
  en : Nat
  hi : Value
  hg : Value
  items : List IM
  gaps : List (Nat × Nat)
  last : Bool
  room : Int
def asC (x : AS) : List Value := [.int .i64 x.what, .bool x.known, .int .u64 x.cnt, .int .u64 x.fr, .int .u64 x.en, x.hi, x.hg, .bool x.last, .int .i64 x.room]
theorem asC_len (x : AS) : (asC x).length = 9 := rfl
structure AssR (w : World) (v : Value) (us : List AS) : Prop where
  row : Row w 9 v us.length (us.flatMap asC)
  is : ∀ x ∈ us, ImR w x.hi x.items
  gs : ∀ x ∈ us, GpR w x.hg x.gaps
structure okAS (x : AS) : Prop where
  av : ∀ y ∈ x.items, y.av.length * 56 ≤ 140737488355328
  room : (Lit.int .i64 x.room).wf = true
section
variable {H : Type} {enc : TypeId × Value → H} {W : World} {base : Nat} {held : Bool}
theorem bytesOfAt : Tryz.prog.bytesOf 82 = 56 := by kernel_rfl
theorem u64_natJ {a : Int} (h : (Lit.int .u64 a).wf = true) : ∃ n : Nat, a = (n : Int) := by
  have := bounds_u64 h
  exact ⟨a.toNat, by omega⟩
/-- Within reach, by some weight of the data. -/
def Wt (n : Nat) (l : List Nat) : Prop := n = 0 ∨ ∃ k ∈ l, n ≤ k
theorem Wt.mono {n : Nat} {l l' : List Nat} (h : Wt n l) (hs : ∀ k ∈ l, k ∈ l') : Wt n l' := h.imp id fun ⟨k, hk, hle⟩ => ⟨k, hs k hk, hle⟩
set_option maxRecDepth 100000 in
theorem open_attrsW {fuel : Nat} {h : Value} {x : DataW H × List MemPlace} (ht : DataW.trod enc Tryz.prog W base (fun _ => true) held fuel 45 [h] = some x) : ∃ (a : Option Addr) (c : Nat) (l : List (List UInt8 × V)), h = .slice a l.length c ∧ AttrR W h l ∧ Wt (l.length * 56) (x.1.weights Tryz.prog 45) := by
  obtain ⟨l0, hl0, _⟩ := open_attrs ht
  obtain ⟨a0, c0, hsh, _, _⟩ := Row.shape hl0
  refine ⟨a0, c0, l0, hsh, hl0, ?_⟩
  rcases open_slice Tryz.underlying45 ht with ⟨e, _⟩ | ⟨a, len, cap, m, n, D, Pl, e, _, hl, hm, hmm, ex, hi⟩
  · simp only [List.cons.injEq, and_true] at e
    rw [hsh] at e
    simp only [Value.slice.injEq] at e
    exact .inl (by rw [e.2.1, Nat.zero_mul])
  · simp only [List.cons.injEq, and_true] at e
    rw [hsh] at e
    simp only [Value.slice.injEq] at e
    simp only [if_true] at hmm
    subst hmm
    refine .inr ⟨_, by rw [ex]; simp only [DataW.weights, Tryz.underlying45]; exact List.mem_cons_self .., ?_⟩
    rw [bytesOfAt, e.2.1]
    simp only [List.length_map, List.length_range]
    omega
set_option maxRecDepth 100000 in
theorem open_eventW {fuel : Nat} {cs : List Value} {x : DataW H × List MemPlace} (h : DataW.trod enc Tryz.prog W base (fun _ => true) held fuel 47 cs = some x) : ∃ (key : List UInt8) (a : Option Addr) (c : Nat) (l : List (List UInt8 × V)), cs = [.string (strOf key), .slice a l.length c] ∧ AttrR W (.slice a l.length c) l ∧ Wt (l.length * 56) (x.1.weights Tryz.prog 47) := by
  obtain ⟨xs, n, _, ex, hl, hx, hf⟩ := DataW.trod_struct Tryz.underlying47 h
  have hC : Tryz.prog.cellsOf 47 = 2 := by kernel_rfl
  rw [hC] at hl
  match cs, hl with
  | [c0, c1], _ =>
    match xs, hx with
    | [y0, y1], _ =>
      have q9 : Tryz.prog.cellsOf 9 = 1 := by kernel_rfl
      have q24 : Tryz.prog.cellsOf 45 = 1 := by kernel_rfl
      have h0 := hf 0 _ rfl
      have h1 := hf 1 _ rfl
      simp only [q9, q24, List.getElem_toArray, List.getElem_cons_zero, List.getElem_cons_succ, List.getElem?_cons_zero, List.getElem?_cons_succ, List.drop_zero, List.drop_succ_cons, List.take_succ_cons, List.take_zero] at h0 h1
      obtain ⟨s, e0, _, w0⟩ := DataW.trod_string Tryz.underlying9 h0
      obtain ⟨a, c, l, e1, w1, w2⟩ := open_attrsW h1
      simp only [List.cons.injEq, and_true] at e0
      subst e0
      subst ex
      refine ⟨s.data.toList, a, c, l, by rw [strOf_of, e1], by rw [← e1]; exact w1, w2.mono fun k hk => ?_⟩
      show k ∈ DataW.weights Tryz.prog 47 (.agg [y0.1, y1.1])
      simp only [DataW.weights, Tryz.underlying47]
      exact DataW.weights_mem_each (j := 1) (t := 45) rfl rfl _ hk
set_option maxRecDepth 100000 in
theorem open_itemW {fuel : Nat} {cs : List Value} {x : DataW H × List MemPlace} (h : DataW.trod enc Tryz.prog W base (fun _ => true) held fuel 49 cs = some x) : ∃ y : IM, cs = imC y ∧ AttrR W y.h y.av ∧ Wt (y.av.length * 56) (x.1.weights Tryz.prog 49) := by
  obtain ⟨xs, n, _, ex, hl, hx, hf⟩ := DataW.trod_struct Tryz.underlying49 h
  have hC : Tryz.prog.cellsOf 49 = 4 := by kernel_rfl
  rw [hC] at hl
  match cs, hl with
  | [c0, c1, c2, c3], _ =>
    match xs, hx with
    | [y0, y1, y2], _ =>
      have q24 : Tryz.prog.cellsOf 24 = 1 := by kernel_rfl
      have q47 : Tryz.prog.cellsOf 47 = 2 := by kernel_rfl
      have h0 := hf 0 _ rfl
      have h1 := hf 1 _ rfl
      have h2 := hf 2 _ rfl
      simp only [q24, q47, List.getElem_toArray, List.getElem_cons_zero, List.getElem_cons_succ, List.getElem?_cons_zero, List.getElem?_cons_succ, List.drop_zero, List.drop_succ_cons, List.take_succ_cons, List.take_zero] at h0 h1 h2
      obtain ⟨k0, e0, _, w0⟩ := DataW.trod_int Tryz.underlying24 h0
      obtain ⟨k1, e1, _, w1⟩ := DataW.trod_int Tryz.underlying24 h1
      obtain ⟨key, a, c, l, e2, hv, hw⟩ := open_eventW h2
      simp only [List.cons.injEq, and_true] at e0 e1 e2
      obtain ⟨rfl, rfl⟩ := e2
      subst e0; subst e1
      subst ex
      obtain ⟨n0, rfl⟩ := u64_natJ w0
      obtain ⟨n1, rfl⟩ := u64_natJ w1
      refine ⟨⟨n0, n1, key, a, c, l⟩, rfl, hv, hw.mono fun k hk => ?_⟩
      show k ∈ DataW.weights Tryz.prog 49 (.agg [y0.1, y1.1, y2.1])
      simp only [DataW.weights, Tryz.underlying49]
      exact DataW.weights_mem_each (j := 2) (t := 47) rfl rfl _ hk
set_option maxRecDepth 100000 in
theorem open_gapW {fuel : Nat} {cs : List Value} {x : DataW H × List MemPlace} (h : DataW.trod enc Tryz.prog W base (fun _ => true) held fuel 51 cs = some x) : ∃ y : Nat × Nat, cs = gpC y := by
  obtain ⟨xs, n, _, ex, hl, hx, hf⟩ := DataW.trod_struct Tryz.underlying51 h
  have hC : Tryz.prog.cellsOf 51 = 2 := by kernel_rfl
  rw [hC] at hl
  match cs, hl with
  | [c0, c1], _ =>
    match xs, hx with
    | [y0, y1], _ =>
      have q24 : Tryz.prog.cellsOf 24 = 1 := by kernel_rfl
      have h0 := hf 0 _ rfl
      have h1 := hf 1 _ rfl
      simp only [q24, List.getElem_toArray, List.getElem_cons_zero, List.getElem_cons_succ, List.getElem?_cons_zero, List.getElem?_cons_succ, List.drop_zero, List.drop_succ_cons, List.take_succ_cons, List.take_zero] at h0 h1
      obtain ⟨k0, e0, _, w0⟩ := DataW.trod_int Tryz.underlying24 h0
      obtain ⟨k1, e1, _, w1⟩ := DataW.trod_int Tryz.underlying24 h1
      simp only [List.cons.injEq, and_true] at e0 e1
      subst e0; subst e1
      obtain ⟨n0, rfl⟩ := u64_natJ w0
      obtain ⟨n1, rfl⟩ := u64_natJ w1
      exact ⟨(n0, n1), rfl⟩
set_option maxRecDepth 100000 in
theorem open_gapsW {fuel : Nat} {h : Value} {x : DataW H × List MemPlace} (ht : DataW.trod enc Tryz.prog W base (fun _ => true) held fuel 32 [h] = some x) : ∃ l : List (Nat × Nat), GpR W h l := by
  rcases open_slice Tryz.underlying32 ht with ⟨e, _⟩ | ⟨a, len, cap, m, n, D, Pl, e, _, hl, hm, hmm, _, hi⟩
  · simp only [List.cons.injEq, and_true] at e
    subst e
    exact ⟨[], Row.nil W 2⟩
  · simp only [List.cons.injEq, and_true] at e
    subst e
    simp only [if_true] at hmm
    subst hmm
    have hC : Tryz.prog.cellsOf 51 = 2 := by kernel_rfl
    rw [hC] at hi
    obtain ⟨l, hln, hp⟩ := list_of (p := fun i (v : Nat × Nat) => W.cells? base (a.add (i * 2)) 2 = some (gpC v)) m fun i hi' => by
      obtain ⟨cs, h1, h2⟩ := hi i hi'
      obtain ⟨v, rfl⟩ := open_gapW h2
      exact ⟨v, h1⟩
    have hr := row_of_cells gpC 2 gpC_len (by decide) hl hm l hln fun i hi => hp i hi
    refine ⟨l.take len, ?_⟩
    have e : (l.take len).length = len := by rw [List.length_take]; omega
    show Row _ _ _ _ _
    rw [e]; exact hr
set_option maxRecDepth 100000 in
theorem open_itemsW {fuel : Nat} {h : Value} {x : DataW H × List MemPlace} (ht : DataW.trod enc Tryz.prog W base (fun _ => true) held fuel 31 [h] = some x) : ∃ l : List IM, ImR W h l ∧ ∀ y ∈ l, Wt (y.av.length * 56) (x.1.weights Tryz.prog 31) := by
  rcases open_slice Tryz.underlying31 ht with ⟨e, _⟩ | ⟨a, len, cap, m, n, D, Pl, e, _, hl, hm, hmm, ex, hi⟩
  · simp only [List.cons.injEq, and_true] at e
    subst e
    exact ⟨[], ⟨Row.nil W 4, fun _ h => by cases h⟩, fun _ h => by cases h⟩
  · simp only [List.cons.injEq, and_true] at e
    subst e
    simp only [if_true] at hmm
    subst hmm
    have hC : Tryz.prog.cellsOf 49 = 4 := by kernel_rfl
    rw [hC] at hi
    obtain ⟨l, hln, hp⟩ := list_of (p := fun i (v : IM) => W.cells? base (a.add (i * 4)) 4 = some (imC v) ∧ AttrR W v.h v.av ∧ Wt (v.av.length * 56) ((D i).weights Tryz.prog 49)) m fun i hi' => by
      obtain ⟨cs, h1, h2⟩ := hi i hi'
      obtain ⟨v, rfl, hv⟩ := open_itemW h2
      exact ⟨v, h1, hv⟩
    have hr := row_of_cells imC 4 imC_len (by decide) hl hm l hln fun i hi => (hp i hi).1
    have e : (l.take len).length = len := by rw [List.length_take]; omega
    have hall : ∀ y ∈ l.take len, AttrR W y.h y.av ∧ Wt (y.av.length * 56) (x.1.weights Tryz.prog 31) := fun y hy => by
      obtain ⟨i, hi, rfl⟩ := List.getElem_of_mem hy
      have hil : i < len := by omega
      rw [List.getElem_take]
      obtain ⟨_, h1, h2⟩ := hp i (by omega)
      refine ⟨h1, h2.mono fun k hk => ?_⟩
      rw [ex]
      simp only [DataW.weights, Tryz.underlying31]
      exact List.mem_cons_of_mem _ (List.mem_append_left _ (weightsAll_mem (List.mem_map.2 ⟨i, List.mem_range.2 hil, rfl⟩) hk))
    exact ⟨l.take len, ⟨by rw [e]; exact hr, fun y hy => (hall y hy).1⟩, fun y hy => (hall y hy).2⟩
set_option maxRecDepth 100000 in
theorem open_pageW {fuel : Nat} {cs : List Value} {x : DataW H × List MemPlace} (h : DataW.trod enc Tryz.prog W base (fun _ => true) held fuel 34 cs = some x) : ∃ (fr en : Nat) (hi hg : Value) (last : Bool) (items : List IM) (gaps : List (Nat × Nat)), cs = [.int .u64 fr, .int .u64 en, hi, hg, .bool last] ∧ ImR W hi items ∧ GpR W hg gaps ∧ ∀ y ∈ items, Wt (y.av.length * 56) (x.1.weights Tryz.prog 34) := by
  obtain ⟨xs, n, _, ex, hl, hx, hf⟩ := DataW.trod_struct Tryz.underlying34 h
  have hC : Tryz.prog.cellsOf 34 = 5 := by kernel_rfl
  rw [hC] at hl
  match cs, hl with
  | [c0, c1, c2, c3, c4], _ =>
    match xs, hx with
    | [y0, y1, y2, y3, y4], _ =>
      have q24 : Tryz.prog.cellsOf 24 = 1 := by kernel_rfl
      have q31 : Tryz.prog.cellsOf 31 = 1 := by kernel_rfl
      have q32 : Tryz.prog.cellsOf 32 = 1 := by kernel_rfl
      have q4 : Tryz.prog.cellsOf 4 = 1 := by kernel_rfl
      have h0 := hf 0 _ rfl
      have h1 := hf 1 _ rfl
      have h2 := hf 2 _ rfl
      have h3 := hf 3 _ rfl
      have h4 := hf 4 _ rfl
      simp only [q24, q31, q32, q4, List.getElem_toArray, List.getElem_cons_zero, List.getElem_cons_succ, List.getElem?_cons_zero, List.getElem?_cons_succ, List.drop_zero, List.drop_succ_cons, List.take_succ_cons, List.take_zero] at h0 h1 h2 h3 h4
      obtain ⟨k0, e0, _, w0⟩ := DataW.trod_int Tryz.underlying24 h0
      obtain ⟨k1, e1, _, w1⟩ := DataW.trod_int Tryz.underlying24 h1
      obtain ⟨items, hi, hw⟩ := open_itemsW h2
      obtain ⟨gaps, hg⟩ := open_gapsW h3
      obtain ⟨b, e4, _⟩ := DataW.trod_bool Tryz.underlying4 h4
      simp only [List.cons.injEq, and_true] at e0 e1 e4
      subst e0; subst e1; subst e4
      subst ex
      obtain ⟨n0, rfl⟩ := u64_natJ w0
      obtain ⟨n1, rfl⟩ := u64_natJ w1
      refine ⟨n0, n1, c2, c3, b, items, gaps, rfl, hi, hg, fun y hy => (hw y hy).mono fun k hk => ?_⟩
      show k ∈ DataW.weights Tryz.prog 34 (.agg [y0.1, y1.1, y2.1, y3.1, y4.1])
      simp only [DataW.weights, Tryz.underlying34]
      exact DataW.weights_mem_each (j := 2) (t := 31) rfl rfl _ hk
set_option maxRecDepth 100000 in
theorem open_actW {fuel : Nat} {cs : List Value} {x : DataW H × List MemPlace} (h : DataW.trod enc Tryz.prog W base (fun _ => true) held fuel 36 cs = some x) : ∃ v : AS, cs = asC v ∧ ImR W v.hi v.items ∧ GpR W v.hg v.gaps ∧ (Lit.int .i64 v.room).wf = true ∧ ∀ y ∈ v.items, Wt (y.av.length * 56) (x.1.weights Tryz.prog 36) := by
  obtain ⟨xs, n, _, ex, hl, hx, hf⟩ := DataW.trod_struct Tryz.underlying36 h
  have hC : Tryz.prog.cellsOf 36 = 9 := by kernel_rfl
  rw [hC] at hl
  match cs, hl with
  | [c0, c1, c2, c3, c4, c5, c6, c7, c8], _ =>
    match xs, hx with
    | [y0, y1, y2, y3, y4], _ =>
      have q3 : Tryz.prog.cellsOf 3 = 1 := by kernel_rfl
      have q24 : Tryz.prog.cellsOf 24 = 1 := by kernel_rfl
      have q34 : Tryz.prog.cellsOf 34 = 5 := by kernel_rfl
      have q4 : Tryz.prog.cellsOf 4 = 1 := by kernel_rfl
      have h0 := hf 0 _ rfl
      have h1 := hf 1 _ rfl
      have h2 := hf 2 _ rfl
      have h3 := hf 3 _ rfl
      have h4 := hf 4 _ rfl
      simp only [q3, q24, q34, q4, List.getElem_toArray, List.getElem_cons_zero, List.getElem_cons_succ, List.getElem?_cons_zero, List.getElem?_cons_succ, List.drop_zero, List.drop_succ_cons, List.take_succ_cons, List.take_zero] at h0 h1 h2 h3 h4
      obtain ⟨k0, e0, _, w0⟩ := DataW.trod_int Tryz.underlying3 h0
      obtain ⟨b, e1, _⟩ := DataW.trod_bool Tryz.underlying4 h1
      obtain ⟨k2, e2, _, w2⟩ := DataW.trod_int Tryz.underlying24 h2
      obtain ⟨fr, en, hi, hg, last, items, gaps, e3, hI, hG, hw⟩ := open_pageW h3
      obtain ⟨k4, e4, _, w4⟩ := DataW.trod_int Tryz.underlying3 h4
      simp only [List.cons.injEq, and_true] at e0 e1 e2 e3 e4
      obtain ⟨rfl, rfl, rfl, rfl, rfl⟩ := e3
      subst e0; subst e1; subst e2; subst e4
      subst ex
      obtain ⟨n2, rfl⟩ := u64_natJ w2
      refine ⟨⟨k0, b, n2, fr, en, c5, c6, items, gaps, last, k4⟩, rfl, hI, hG, w4, fun y hy => (hw y hy).mono fun k hk => ?_⟩
      show k ∈ DataW.weights Tryz.prog 36 (.agg [y0.1, y1.1, y2.1, y3.1, y4.1])
      simp only [DataW.weights, Tryz.underlying36]
      exact DataW.weights_mem_each (j := 3) (t := 34) rfl rfl _ hk
set_option maxRecDepth 100000 in
theorem open_actsW {fuel : Nat} {h : Value} {x : DataW H × List MemPlace} (ht : DataW.trod enc Tryz.prog W base (fun _ => true) held fuel 25 [h] = some x) : ∃ us : List AS, AssR W h us ∧ ∀ v ∈ us, (Lit.int .i64 v.room).wf = true ∧ ∀ y ∈ v.items, Wt (y.av.length * 56) (x.1.weights Tryz.prog 25) := by
  rcases open_slice Tryz.underlying25 ht with ⟨e, _⟩ | ⟨a, len, cap, m, n, D, Pl, e, _, hl, hm, hmm, ex, hi⟩
  · simp only [List.cons.injEq, and_true] at e
    subst e
    exact ⟨[], ⟨Row.nil W 9, (fun _ h => (by cases h)), (fun _ h => (by cases h))⟩, (fun _ h => (by cases h))⟩
  · simp only [List.cons.injEq, and_true] at e
    subst e
    simp only [if_true] at hmm
    subst hmm
    have hC : Tryz.prog.cellsOf 36 = 9 := by kernel_rfl
    rw [hC] at hi
    obtain ⟨l, hln, hp⟩ := list_of (p := fun i (v : AS) => W.cells? base (a.add (i * 9)) 9 = some (asC v) ∧ ImR W v.hi v.items ∧ GpR W v.hg v.gaps ∧ (Lit.int .i64 v.room).wf = true ∧ ∀ y ∈ v.items, Wt (y.av.length * 56) ((D i).weights Tryz.prog 36)) m fun i hi' => by
      obtain ⟨cs, h1, h2⟩ := hi i hi'
      obtain ⟨v, rfl, hv⟩ := open_actW h2
      exact ⟨v, h1, hv⟩
    have hr := row_of_cells asC 9 asC_len (by decide) hl hm l hln fun i hi => (hp i hi).1
    have e : (l.take len).length = len := by rw [List.length_take]; omega
    have hall : ∀ v ∈ l.take len, ImR W v.hi v.items ∧ GpR W v.hg v.gaps ∧ (Lit.int .i64 v.room).wf = true ∧ ∀ y ∈ v.items, Wt (y.av.length * 56) (x.1.weights Tryz.prog 25) := fun v hv => by
      obtain ⟨i, hi, rfl⟩ := List.getElem_of_mem hv
      have hil : i < len := by omega
      rw [List.getElem_take]
      obtain ⟨_, h1, h2, h3, h4⟩ := hp i (by omega)
      refine ⟨h1, h2, h3, fun y hy => (h4 y hy).mono fun k hk => ?_⟩
      rw [ex]
      simp only [DataW.weights, Tryz.underlying25]
      exact List.mem_cons_of_mem _ (List.mem_append_left _ (weightsAll_mem (List.mem_map.2 ⟨i, List.mem_range.2 hil, rfl⟩) hk))
    exact ⟨l.take len, ⟨by rw [e]; exact hr, fun y hy => (hall y hy).1, fun y hy => (hall y hy).2.1⟩, fun y hy => (hall y hy).2.2⟩
set_option maxRecDepth 100000 in
theorem arg_as {ts : List TypeId} {ds : List (DataW H)} (hz : (DataW.weightsEach Tryz.prog ts ds).all (· ≤ reachBytes) = true) {j : Nat} {b0 : Nat} {v : Value} {d : DataW H} {p : List MemPlace} (ht : ts[j]? = some 25) (hd : ds[j]? = some d)
    (hv : Value.okWide Tryz.prog W .any b0 25 v) (h : DataW.Trod enc Tryz.prog W base (fun _ => true) held 25 v d p) : ∃ us : List AS, AssR W v us ∧ ∀ y ∈ us, okAS y := by
  obtain ⟨a, len, cap, rfl⟩ := okWide_slice Tryz.underlying25 hv
  obtain ⟨fuel, hf⟩ := h
  obtain ⟨us, h1, h2⟩ := open_actsW hf
  have hle : ∀ n, n ∈ d.weights Tryz.prog 25 → n ≤ 140737488355328 := fun n hn => by
    have h3 := List.all_eq_true.1 hz _ (DataW.weights_mem_each ht hd n hn)
    have h4 : n ≤ reachBytes := by simpa using h3
    exact Nat.le_trans h4 (by decide)
  refine ⟨us, h1, fun y hy => ⟨fun z hz => ?_, (h2 y hy).1⟩⟩
  rcases (h2 y hy).2 z hz with h0 | ⟨n, hn, h5⟩
  · rw [h0]; exact Nat.zero_le _
  · exact Nat.le_trans h5 (hle n hn)
end
end Go.Proofs.YtaklnpjpndkccaaGreat
