/- The document's out (44), Send (29) by what packets say. -/
import Derived.Test.YtlgopjfnknjgjaaN23
import Derived.Test.YtlgopjfnknjgjaaN20
namespace Go.Proofs.Ytlgopjfnknjgjaa
open Go.RowKit Go.MapKept

namespace Rr
def FactB.ex {ι : Type} (f : ι → FactB) : FactB := ⟨fun v w => ∃ i, (f i).p v w, fun row => ∃ i, (f i).bad row, fun row hb v w w' hg ⟨i, h⟩ => ⟨i, (f i).st row (fun hb' => hb ⟨i, hb'⟩) v w w' hg h⟩⟩
def FactB.both (f g : FactB) : FactB := ⟨fun v w => f.p v w ∧ g.p v w, fun row => f.bad row ∨ g.bad row, fun row hb v w w' hg h => ⟨f.st row (fun h' => hb (.inl h')) v w w' hg h.1, g.st row (fun h' => hb (.inr h')) v w w' hg h.2⟩⟩
theorem ex_calm {ι : Type} {f : ι → FactB} {r : Option Nat} (h : ∀ i, ¬ (f i).bad r) : ¬ (FactB.ex f).bad r := fun ⟨i, hi⟩ => h i hi
theorem both_calm {f g : FactB} {r : Option Nat} (h1 : ¬ f.bad r) (h2 : ¬ g.bad r) : ¬ (FactB.both f g).bad r := fun h => h.elim h1 h2
end Rr
theorem info75t : (Try.prog.info? 75).map (fun i => (i.zero, i.size, i.bytes)) = some (some (.agg #[.int .u64 0, .int .i64 0, .int .i64 0, .slice none 0 0]), 4, 48) := by kernel_rfl
theorem set_far (w : World) (a : Addr) (v : Value) (k : Nat) (h : k ≠ a.block) : (w.setCell a v).heap[k]? = w.heap[k]? := by
  show (w.heap.modify a.block _)[k]? = w.heap[k]?
  rw [Array.getElem?_modify, if_neg (fun e => h e.symm)]
theorem grown_set (w : World) (b j : Nat) (v : Value) : w.grownBy (w.setCell ⟨b, j, none⟩ v) (some b) := by
  refine ⟨?_, ?_, ?_, ?_, fun k _ hk => set_far w _ v k (fun e => hk (by rw [e]))⟩ <;> simp [World.setCell]
theorem set_blk (w : World) (b i : Nat) (v : Value) (c : Array Value) (t : TypeId) (fr : Nat × Nat) (h : w.heap[b]? = some (.cells c t fr)) : (w.setCell ⟨b, i, none⟩ v).heap[b]? = some (.cells (c.setIfInBounds i v) t fr) := by
  unfold World.setCell
  simp [Array.getElem?_modify, h]
theorem pk_row (w : World) (a : Nat) (b c : Int) (h : Value) : Row (w.alloc (.cells #[.int .u64 a, .int .i64 b, .int .i64 c, h] 75)) 4 (.slice (some ⟨w.heap.size, 0, none⟩) 1 1) 1 [.int .u64 a, .int .i64 b, .int .i64 c, h] :=
  Row.of_own (World.ownsRow_lit (base := w.heap.size) (e := 75) (size := 4) w #[.int .u64 a, .int .i64 b, .int .i64 c, h] 1 (Nat.le_refl _) (by decide) rfl)
theorem pk_one (a : Nat) (b c : Int) (ah : Option Addr) (n ch : Nat) : ∀ u ∈ [Value.int .u64 a, .int .i64 b, .int .i64 c, .slice ah n ch], u.oneCell' = true := by
  intro u hu
  simp only [List.mem_cons, List.not_mem_nil, or_false] at hu
  rcases hu with rfl | rfl | rfl | rfl <;> rfl
theorem RefF.grown {rb : Nat} {lv : Value} {w w' : World} (h : w.grownBy w' (some rb)) : RefF rb lv w w' := ⟨h.os, h.tape, h.output, h.size, fun k hk hn => h.block k hk fun e => hn (by rw [e]; exact List.mem_cons_self ..)⟩
theorem RefF.trans {rb : Nat} {lv : Value} {a b c : World} (h : RefF rb lv a b) (k : RefF rb lv b c) : RefF rb lv a c :=
  ⟨k.os.trans h.os, k.tape.trans h.tape, k.output.trans h.output, Nat.le_trans h.size k.size, fun i hi hn => (k.block i (Nat.lt_of_lt_of_le hi h.size) hn).trans (h.block i hi hn)⟩
set_option maxRecDepth 1000000 in
set_option maxHeartbeats 8000000 in
theorem rout_any (w : World) (base rb k last : Nat) (lv : Value) (L : List PK) (h : RefR w base rb k last lv L) (p q : Nat) (vb : Value) (lb : List UInt8) (hbk : ∀ w', RefF rb lv w w' → Bytes w' vb lb) (hlb : lb.length ≤ 4096) (hf : L.length < 4096) (hlast : last < 1000000000) :
    Calls Try.prog 44 #[.pointer (some ⟨rb, 0, none⟩), .int .i64 p, .int .i64 q, vb] w fun e w' => e = .returned (.tuple #[.int .u64 (last + 1 : Nat), .int .i64 0]) ∧ (∃ lv' hv, RefR w' base rb k (last + 1) lv' (L ++ [⟨last + 1, p, q, lb, hv⟩]) ∧ NewB w.heap.size hv) ∧ RefF rb lv w w' := by
  obtain ⟨c0, c1, c2⟩ := h.cell
  obtain ⟨aL, cL, rfl, _, _⟩ := own_shape h.row
  obtain ⟨ab, cb, rfl, _, _⟩ := (hbk w (RefF.of (Ext.refl w))).shape
  have d1 : decide ((4096 : Int) ≤ (L.length : Int)) = false := decide_eq_false (by omega)
  have d2 : decide (4096 ≤ L.length) = false := decide_eq_false (by omega)
  obtain ⟨l1, hl1⟩ : ∃ l1, l1 = last + 1 := ⟨_, rfl⟩
  have q1 : (last : Int) + 1 = (l1 : Int) := by omega
  have q2 : l1 < 2000000000 := by omega
  rw [← hl1]
  have hne : (Value.slice aL L.length cL).ownBlock ≠ some rb := own_ne h.row h.net (by decide)
  have hg1 := grown_set w rb 1 (.int .u64 l1)
  have hn1 := set_blk w rb 1 (.int .u64 l1) _ _ _ h.net
  have hr1 := own_keep h.row hg1 fun g hgg e => hne (hgg.trans e.symm)
  have HBK := Lib.hid hbk
  have HN1 := Lib.hid hn1
  have HR1 := Lib.hid hr1
  have HG1 := Lib.hid hg1
  have HH := Lib.hid h
  have HNE := Lib.hid hne
  have f1 := frozen_row HH.out.net 1
  clear h hbk hg1 hn1 hr1 hne hl1
  go_enter Try.func44, Try.ntmps44
  go_upto_region 5 with fail
  generalize hwa : w.setCell ⟨rb, 1, none⟩ (.int .u64 l1) = wa at *
  clear hwa c0 c1 c2 f1 d1 d2
  have m1 := cell_of_row _ _ 1 _ _ _ HN1.out
  have m2 := cell_of_row _ _ 2 _ _ _ HN1.out
  have hb1 : (0 + lb.length) * 1 ≤ 140737488355328 := by omega
  have hb2 : 0 + lb.length ≤ maxLen := by unfold maxLen; omega
  have hb3 : (L.length + 1) * 48 ≤ 140737488355328 := by omega
  have hb4 : L.length + 1 ≤ maxLen := by unfold maxLen; omega
  have HLV : Hid (∀ g, (Value.slice aL L.length cL).ownBlock = some g → g < wa.heap.size) := fun g hg => (HR1.out.lt g hg).2
  have HLA := HLV
  have HNB : Hid (some rb ∉ [none, none, none, none, none, none, none, none, none, none, none, none, none, none, none, none, (Value.slice aL L.length cL).ownBlock, none, none]) := fun h => by
    simp only [List.mem_cons, List.not_mem_nil, or_false, reduceCtorEq, false_or] at h
    exact HNE.out h.symm
  have HBS : Hid (base ≤ wa.heap.size) := by
    have h1 := HH.out.lo
    have h2 := HH.out.rblt
    have h3 := HG1.out.size
    show base ≤ wa.heap.size
    omega
  have HRF : Hid (∀ w1, Rr.Buts [none, none, none, none, none, none, none, none, none, none, none, none, none, none, none, none, (Value.slice aL L.length cL).ownBlock, none, none] wa w1 → RefF rb (.slice aL L.length cL) w w1) := fun w1 hx1 => (RefF.grown HG1.out).trans ⟨hx1.os, hx1.tape, hx1.output, hx1.size, fun k hk hn => hx1.block k hk fun hm => by
    simp only [List.mem_cons, List.not_mem_nil, or_false, reduceCtorEq, false_or] at hm
    exact hn (by rw [hm]; exact List.mem_cons_of_mem _ (List.mem_cons_self ..))⟩
  refine Rr.wp_region_rows_chain 19 [none, none, none, none, none, none, none, none, none, none, none, none, none, none, none, none, (Value.slice aL L.length cL).ownBlock, none, none] [Rr.FactB.eq (.pointer (some ⟨rb, 0, none⟩)),
      Rr.FactB.eq (.pointer (some ⟨rb, 0, none⟩)),
      Rr.FactB.eq (.pointer (some ⟨rb, 0, none⟩)),
      Rr.FactB.eq (.pointer (some ⟨rb, 2, none⟩)),
      Rr.FactB.eq (.slice aL L.length cL),
      Rr.FactB.eq (.pointer (some ⟨rb, 0, none⟩)),
      Rr.FactB.eq (.pointer (some ⟨rb, 0, none⟩)),
      Rr.FactB.eq (.pointer (some ⟨rb, 1, none⟩)),
      Rr.FactB.eq (.int .u64 l1),
      Rr.FactB.eq (.int .i64 p),
      Rr.FactB.eq (.int .i64 q),
      Rr.FactB.eq (.slice none 0 0),
      Rr.FactB.eq (.slice ab lb.length cb),
      Rr.FactB.own wa.heap.size 5 1 lb.length (bC lb) (Value.slice aL L.length cL).ownBlock,
      Rr.FactB.ex fun h => Rr.FactB.both (Rr.FactB.eq (.agg #[.int .u64 l1, .int .i64 p, .int .i64 q, h])) ((Rr.FactB.own wa.heap.size 5 1 lb.length (bC lb) (Value.slice aL L.length cL).ownBlock).at h),
      Rr.FactB.ex fun h => Rr.FactB.both (Rr.FactB.later wa.heap.size 4 1 [.int .u64 l1, .int .i64 p, .int .i64 q, h]) ((Rr.FactB.own wa.heap.size 5 1 lb.length (bC lb) (Value.slice aL L.length cL).ownBlock).at h),
      Rr.FactB.ex fun h => Rr.FactB.both (Rr.FactB.own base 75 4 (L.length + 1) (L.flatMap pC ++ [.int .u64 l1, .int .i64 p, .int .i64 q, h]) none) ((Rr.FactB.own wa.heap.size 5 1 lb.length (bC lb) none).at h),
      Rr.FactB.eq (.pointer (some ⟨rb, 0, none⟩)),
      Rr.FactB.eq (.pointer (some ⟨rb, 2, none⟩))]
    [Rr.FactB.any, Rr.FactB.any, Rr.FactB.any, Rr.FactB.any, Rr.FactB.any, Rr.FactB.any, Rr.FactB.any, Rr.FactB.any, Rr.FactB.any, Rr.FactB.any, Rr.FactB.any, Rr.FactB.any, Rr.FactB.any, Rr.FactB.any, Rr.FactB.any, Rr.FactB.any, (Rr.FactB.own base 75 4 L.length (L.flatMap pC) none).at (.slice aL L.length cL), Rr.FactB.any, Rr.FactB.any, Rr.FactB.any]
    [[], [], [(1, 25)], [(2, 26)], [(3, 27)], [], [(5, 29)], [(6, 30)], [(7, 31)], [], [], [], [], [(11, 35), (12, 36)], [(8, 32), (9, 33), (10, 34), (13, 37)], [(14, 38)], [(4, 28), (15, 39)], [(0, 24)], [(17, 41)]]
    [(0, 24), (1, 25), (2, 26), (3, 27), (4, 28), (5, 29), (6, 30), (7, 31), (8, 32), (9, 33), (10, 34), (11, 35), (12, 36), (13, 37), (14, 38), (15, 39), (16, 40), (17, 41), (18, 42)] (by kernel_rfl) (by kernel_rfl) ?_ ?_ ?_ ?_ ?_
  · refine ⟨?_, ?_, ?_, ?_, ?_, ?_, ?_, ?_, ?_, ?_, ?_, ?_, ?_, ?_, ?_, ?_, ?_, ?_, ?_, trivial⟩
    · exact fun _ _ h => h
    · exact fun _ _ h => h
    · exact fun _ _ h => h
    · exact fun _ _ h => h
    · exact fun _ _ h => h
    · exact fun _ _ h => h
    · exact fun _ _ h => h
    · exact fun _ _ h => h
    · exact fun _ _ h => h
    · exact fun _ _ h => h
    · exact fun _ _ h => h
    · exact fun _ _ h => h
    · exact fun _ _ h => h
    · change ∀ row ∈ ([none, none, none, none, none, none, none, none, none, none, none, none, none, none, none, none, (Value.slice aL L.length cL).ownBlock, none, none] : List (Option Nat)), ¬ (Rr.FactB.own wa.heap.size 5 1 lb.length (bC lb) (Value.slice aL L.length cL).ownBlock).bad row; exact (List.forall_mem_cons.2 ⟨Rr.own_none', (List.forall_mem_cons.2 ⟨Rr.own_none', (List.forall_mem_cons.2 ⟨Rr.own_none', (List.forall_mem_cons.2 ⟨Rr.own_none', (List.forall_mem_cons.2 ⟨Rr.own_none', (List.forall_mem_cons.2 ⟨Rr.own_none', (List.forall_mem_cons.2 ⟨Rr.own_none', (List.forall_mem_cons.2 ⟨Rr.own_none', (List.forall_mem_cons.2 ⟨Rr.own_none', (List.forall_mem_cons.2 ⟨Rr.own_none', (List.forall_mem_cons.2 ⟨Rr.own_none', (List.forall_mem_cons.2 ⟨Rr.own_none', (List.forall_mem_cons.2 ⟨Rr.own_none', (List.forall_mem_cons.2 ⟨Rr.own_none', (List.forall_mem_cons.2 ⟨Rr.own_none', (List.forall_mem_cons.2 ⟨Rr.own_none', (List.forall_mem_cons.2 ⟨Rr.own_other, (List.forall_mem_cons.2 ⟨Rr.own_none', (List.forall_mem_cons.2 ⟨Rr.own_none', (fun _ h => absurd h List.not_mem_nil)⟩)⟩)⟩)⟩)⟩)⟩)⟩)⟩)⟩)⟩)⟩)⟩)⟩)⟩)⟩)⟩)⟩)⟩)⟩)
    · change ∀ row ∈ ([none, none, none, none, none, none, none, none, none, none, none, none, none, none, none, none, (Value.slice aL L.length cL).ownBlock, none, none] : List (Option Nat)), ¬ (Rr.FactB.ex fun h => Rr.FactB.both (Rr.FactB.eq (.agg #[.int .u64 l1, .int .i64 p, .int .i64 q, h])) ((Rr.FactB.own wa.heap.size 5 1 lb.length (bC lb) (Value.slice aL L.length cL).ownBlock).at h)).bad row; exact (List.forall_mem_cons.2 ⟨(Rr.ex_calm fun _ => Rr.both_calm (fun h => h) (Rr.at_calm Rr.own_none')), (List.forall_mem_cons.2 ⟨(Rr.ex_calm fun _ => Rr.both_calm (fun h => h) (Rr.at_calm Rr.own_none')), (List.forall_mem_cons.2 ⟨(Rr.ex_calm fun _ => Rr.both_calm (fun h => h) (Rr.at_calm Rr.own_none')), (List.forall_mem_cons.2 ⟨(Rr.ex_calm fun _ => Rr.both_calm (fun h => h) (Rr.at_calm Rr.own_none')), (List.forall_mem_cons.2 ⟨(Rr.ex_calm fun _ => Rr.both_calm (fun h => h) (Rr.at_calm Rr.own_none')), (List.forall_mem_cons.2 ⟨(Rr.ex_calm fun _ => Rr.both_calm (fun h => h) (Rr.at_calm Rr.own_none')), (List.forall_mem_cons.2 ⟨(Rr.ex_calm fun _ => Rr.both_calm (fun h => h) (Rr.at_calm Rr.own_none')), (List.forall_mem_cons.2 ⟨(Rr.ex_calm fun _ => Rr.both_calm (fun h => h) (Rr.at_calm Rr.own_none')), (List.forall_mem_cons.2 ⟨(Rr.ex_calm fun _ => Rr.both_calm (fun h => h) (Rr.at_calm Rr.own_none')), (List.forall_mem_cons.2 ⟨(Rr.ex_calm fun _ => Rr.both_calm (fun h => h) (Rr.at_calm Rr.own_none')), (List.forall_mem_cons.2 ⟨(Rr.ex_calm fun _ => Rr.both_calm (fun h => h) (Rr.at_calm Rr.own_none')), (List.forall_mem_cons.2 ⟨(Rr.ex_calm fun _ => Rr.both_calm (fun h => h) (Rr.at_calm Rr.own_none')), (List.forall_mem_cons.2 ⟨(Rr.ex_calm fun _ => Rr.both_calm (fun h => h) (Rr.at_calm Rr.own_none')), (List.forall_mem_cons.2 ⟨(Rr.ex_calm fun _ => Rr.both_calm (fun h => h) (Rr.at_calm Rr.own_none')), (List.forall_mem_cons.2 ⟨(Rr.ex_calm fun _ => Rr.both_calm (fun h => h) (Rr.at_calm Rr.own_none')), (List.forall_mem_cons.2 ⟨(Rr.ex_calm fun _ => Rr.both_calm (fun h => h) (Rr.at_calm Rr.own_none')), (List.forall_mem_cons.2 ⟨(Rr.ex_calm fun _ => Rr.both_calm (fun h => h) (Rr.at_calm Rr.own_other)), (List.forall_mem_cons.2 ⟨(Rr.ex_calm fun _ => Rr.both_calm (fun h => h) (Rr.at_calm Rr.own_none')), (List.forall_mem_cons.2 ⟨(Rr.ex_calm fun _ => Rr.both_calm (fun h => h) (Rr.at_calm Rr.own_none')), (fun _ h => absurd h List.not_mem_nil)⟩)⟩)⟩)⟩)⟩)⟩)⟩)⟩)⟩)⟩)⟩)⟩)⟩)⟩)⟩)⟩)⟩)⟩)⟩)
    · change ∀ row ∈ ([none, none, none, none, none, none, none, none, none, none, none, none, none, none, none, none, (Value.slice aL L.length cL).ownBlock, none, none] : List (Option Nat)), ¬ (Rr.FactB.ex fun h => Rr.FactB.both (Rr.FactB.later wa.heap.size 4 1 [.int .u64 l1, .int .i64 p, .int .i64 q, h]) ((Rr.FactB.own wa.heap.size 5 1 lb.length (bC lb) (Value.slice aL L.length cL).ownBlock).at h)).bad row; exact (List.forall_mem_cons.2 ⟨(Rr.ex_calm fun _ => Rr.both_calm Rr.later_none (Rr.at_calm Rr.own_none')), (List.forall_mem_cons.2 ⟨(Rr.ex_calm fun _ => Rr.both_calm Rr.later_none (Rr.at_calm Rr.own_none')), (List.forall_mem_cons.2 ⟨(Rr.ex_calm fun _ => Rr.both_calm Rr.later_none (Rr.at_calm Rr.own_none')), (List.forall_mem_cons.2 ⟨(Rr.ex_calm fun _ => Rr.both_calm Rr.later_none (Rr.at_calm Rr.own_none')), (List.forall_mem_cons.2 ⟨(Rr.ex_calm fun _ => Rr.both_calm Rr.later_none (Rr.at_calm Rr.own_none')), (List.forall_mem_cons.2 ⟨(Rr.ex_calm fun _ => Rr.both_calm Rr.later_none (Rr.at_calm Rr.own_none')), (List.forall_mem_cons.2 ⟨(Rr.ex_calm fun _ => Rr.both_calm Rr.later_none (Rr.at_calm Rr.own_none')), (List.forall_mem_cons.2 ⟨(Rr.ex_calm fun _ => Rr.both_calm Rr.later_none (Rr.at_calm Rr.own_none')), (List.forall_mem_cons.2 ⟨(Rr.ex_calm fun _ => Rr.both_calm Rr.later_none (Rr.at_calm Rr.own_none')), (List.forall_mem_cons.2 ⟨(Rr.ex_calm fun _ => Rr.both_calm Rr.later_none (Rr.at_calm Rr.own_none')), (List.forall_mem_cons.2 ⟨(Rr.ex_calm fun _ => Rr.both_calm Rr.later_none (Rr.at_calm Rr.own_none')), (List.forall_mem_cons.2 ⟨(Rr.ex_calm fun _ => Rr.both_calm Rr.later_none (Rr.at_calm Rr.own_none')), (List.forall_mem_cons.2 ⟨(Rr.ex_calm fun _ => Rr.both_calm Rr.later_none (Rr.at_calm Rr.own_none')), (List.forall_mem_cons.2 ⟨(Rr.ex_calm fun _ => Rr.both_calm Rr.later_none (Rr.at_calm Rr.own_none')), (List.forall_mem_cons.2 ⟨(Rr.ex_calm fun _ => Rr.both_calm Rr.later_none (Rr.at_calm Rr.own_none')), (List.forall_mem_cons.2 ⟨(Rr.ex_calm fun _ => Rr.both_calm Rr.later_none (Rr.at_calm Rr.own_none')), (List.forall_mem_cons.2 ⟨(Rr.ex_calm fun _ => Rr.both_calm (Rr.later_row (by first | exact HLA.out | exact HLB.out)) (Rr.at_calm Rr.own_other)), (List.forall_mem_cons.2 ⟨(Rr.ex_calm fun _ => Rr.both_calm Rr.later_none (Rr.at_calm Rr.own_none')), (List.forall_mem_cons.2 ⟨(Rr.ex_calm fun _ => Rr.both_calm Rr.later_none (Rr.at_calm Rr.own_none')), (fun _ h => absurd h List.not_mem_nil)⟩)⟩)⟩)⟩)⟩)⟩)⟩)⟩)⟩)⟩)⟩)⟩)⟩)⟩)⟩)⟩)⟩)⟩)⟩)
    · change ∀ row ∈ ([none, none, none, none, none, none, none, none, none, none, none, none, none, none, none, none, none, none, none] : List (Option Nat)), ¬ (Rr.FactB.ex fun h => Rr.FactB.both (Rr.FactB.own base 75 4 (L.length + 1) (L.flatMap pC ++ [.int .u64 l1, .int .i64 p, .int .i64 q, h]) none) ((Rr.FactB.own wa.heap.size 5 1 lb.length (bC lb) none).at h)).bad row; exact (List.forall_mem_cons.2 ⟨(Rr.ex_calm fun _ => Rr.both_calm Rr.own_none' (Rr.at_calm Rr.own_none')), (List.forall_mem_cons.2 ⟨(Rr.ex_calm fun _ => Rr.both_calm Rr.own_none' (Rr.at_calm Rr.own_none')), (List.forall_mem_cons.2 ⟨(Rr.ex_calm fun _ => Rr.both_calm Rr.own_none' (Rr.at_calm Rr.own_none')), (List.forall_mem_cons.2 ⟨(Rr.ex_calm fun _ => Rr.both_calm Rr.own_none' (Rr.at_calm Rr.own_none')), (List.forall_mem_cons.2 ⟨(Rr.ex_calm fun _ => Rr.both_calm Rr.own_none' (Rr.at_calm Rr.own_none')), (List.forall_mem_cons.2 ⟨(Rr.ex_calm fun _ => Rr.both_calm Rr.own_none' (Rr.at_calm Rr.own_none')), (List.forall_mem_cons.2 ⟨(Rr.ex_calm fun _ => Rr.both_calm Rr.own_none' (Rr.at_calm Rr.own_none')), (List.forall_mem_cons.2 ⟨(Rr.ex_calm fun _ => Rr.both_calm Rr.own_none' (Rr.at_calm Rr.own_none')), (List.forall_mem_cons.2 ⟨(Rr.ex_calm fun _ => Rr.both_calm Rr.own_none' (Rr.at_calm Rr.own_none')), (List.forall_mem_cons.2 ⟨(Rr.ex_calm fun _ => Rr.both_calm Rr.own_none' (Rr.at_calm Rr.own_none')), (List.forall_mem_cons.2 ⟨(Rr.ex_calm fun _ => Rr.both_calm Rr.own_none' (Rr.at_calm Rr.own_none')), (List.forall_mem_cons.2 ⟨(Rr.ex_calm fun _ => Rr.both_calm Rr.own_none' (Rr.at_calm Rr.own_none')), (List.forall_mem_cons.2 ⟨(Rr.ex_calm fun _ => Rr.both_calm Rr.own_none' (Rr.at_calm Rr.own_none')), (List.forall_mem_cons.2 ⟨(Rr.ex_calm fun _ => Rr.both_calm Rr.own_none' (Rr.at_calm Rr.own_none')), (List.forall_mem_cons.2 ⟨(Rr.ex_calm fun _ => Rr.both_calm Rr.own_none' (Rr.at_calm Rr.own_none')), (List.forall_mem_cons.2 ⟨(Rr.ex_calm fun _ => Rr.both_calm Rr.own_none' (Rr.at_calm Rr.own_none')), (List.forall_mem_cons.2 ⟨(Rr.ex_calm fun _ => Rr.both_calm Rr.own_none' (Rr.at_calm Rr.own_none')), (List.forall_mem_cons.2 ⟨(Rr.ex_calm fun _ => Rr.both_calm Rr.own_none' (Rr.at_calm Rr.own_none')), (List.forall_mem_cons.2 ⟨(Rr.ex_calm fun _ => Rr.both_calm Rr.own_none' (Rr.at_calm Rr.own_none')), (fun _ h => absurd h List.not_mem_nil)⟩)⟩)⟩)⟩)⟩)⟩)⟩)⟩)⟩)⟩)⟩)⟩)⟩)⟩)⟩)⟩)⟩)⟩)⟩)
    · exact fun _ _ h => h
    · exact fun _ _ h => h
  · refine ⟨?_, ?_, ?_, ?_, ?_, ?_, ?_, ?_, ?_, ?_, ?_, ?_, ?_, ?_, ?_, ?_, ?_, ?_, ?_, ?_, trivial⟩
    · exact fun _ _ h => h
    · exact fun _ _ h => h
    · exact fun _ _ h => h
    · exact fun _ _ h => h
    · exact fun _ _ h => h
    · exact fun _ _ h => h
    · exact fun _ _ h => h
    · exact fun _ _ h => h
    · exact fun _ _ h => h
    · exact fun _ _ h => h
    · exact fun _ _ h => h
    · exact fun _ _ h => h
    · exact fun _ _ h => h
    · exact fun _ _ h => h
    · exact fun _ _ h => h
    · exact fun _ _ h => h
    · change ∀ row ∈ ([none, none, none, none, none, none, none, none, none, none, none, none, none, none, none, none, none, none, none] : List (Option Nat)), ¬ ((Rr.FactB.own base 75 4 L.length (L.flatMap pC) none).at (.slice aL L.length cL)).bad row; exact (List.forall_mem_cons.2 ⟨(Rr.at_calm Rr.own_none'), (List.forall_mem_cons.2 ⟨(Rr.at_calm Rr.own_none'), (List.forall_mem_cons.2 ⟨(Rr.at_calm Rr.own_none'), (List.forall_mem_cons.2 ⟨(Rr.at_calm Rr.own_none'), (List.forall_mem_cons.2 ⟨(Rr.at_calm Rr.own_none'), (List.forall_mem_cons.2 ⟨(Rr.at_calm Rr.own_none'), (List.forall_mem_cons.2 ⟨(Rr.at_calm Rr.own_none'), (List.forall_mem_cons.2 ⟨(Rr.at_calm Rr.own_none'), (List.forall_mem_cons.2 ⟨(Rr.at_calm Rr.own_none'), (List.forall_mem_cons.2 ⟨(Rr.at_calm Rr.own_none'), (List.forall_mem_cons.2 ⟨(Rr.at_calm Rr.own_none'), (List.forall_mem_cons.2 ⟨(Rr.at_calm Rr.own_none'), (List.forall_mem_cons.2 ⟨(Rr.at_calm Rr.own_none'), (List.forall_mem_cons.2 ⟨(Rr.at_calm Rr.own_none'), (List.forall_mem_cons.2 ⟨(Rr.at_calm Rr.own_none'), (List.forall_mem_cons.2 ⟨(Rr.at_calm Rr.own_none'), (List.forall_mem_cons.2 ⟨(Rr.at_calm Rr.own_none'), (List.forall_mem_cons.2 ⟨(Rr.at_calm Rr.own_none'), (List.forall_mem_cons.2 ⟨(Rr.at_calm Rr.own_none'), (fun _ h => absurd h List.not_mem_nil)⟩)⟩)⟩)⟩)⟩)⟩)⟩)⟩)⟩)⟩)⟩)⟩)⟩)⟩)⟩)⟩)⟩)⟩)⟩)
    · exact fun _ _ h => h
    · exact fun _ _ h => h
    · exact fun _ _ h => h
  · intro f hf; simp only [List.mem_cons, List.not_mem_nil, or_false] at hf; rcases hf with rfl | rfl | rfl | rfl | rfl | rfl | rfl | rfl | rfl | rfl | rfl | rfl | rfl | rfl | rfl | rfl | rfl | rfl | rfl | rfl
    · exact True.intro
    · exact True.intro
    · exact True.intro
    · exact True.intro
    · exact True.intro
    · exact True.intro
    · exact True.intro
    · exact True.intro
    · exact True.intro
    · exact True.intro
    · exact True.intro
    · exact True.intro
    · exact True.intro
    · exact True.intro
    · exact True.intro
    · exact True.intro
    · exact ⟨own_ext HR1.out ((Ext.refl _).drew), fun _ _ h => nomatch h⟩
    · exact True.intro
    · exact True.intro
    · exact True.intro
  · refine ⟨?_, ?_, ?_, ?_, ?_, ?_, ?_, ?_, ?_, ?_, ?_, ?_, ?_, ?_, ?_, ?_, ?_, ?_, ?_, trivial⟩
    · intro w1 hx1 hg1; change wpList _ _ _ _ _ _; refine Rr.lift (fun _ _ h => Rr.grew_of h) ?_; exact ob_move rfl rfl rfl rfl rfl
    · intro w1 hx1 hg1; change wpList _ _ _ _ _ _; refine Rr.lift (fun _ _ h => Rr.grew_of h) ?_; exact ob_move rfl rfl rfl rfl rfl
    · intro w1 hx1 hg1; rintro _ rfl; change wpList _ _ _ _ _ _; refine Rr.lift (fun _ _ h => Rr.grew_of h) ?_; go_wp2_with fail; exact ⟨rfl, Ext.refl _, rfl, rfl⟩
    · intro w1 hx1 hg1; rintro _ rfl; change wpList _ _ _ _ _ _; refine Rr.lift (fun _ _ h => Rr.grew_of h) ?_; go_wp2_with fail; exact ⟨rfl, Ext.refl _, rfl, rfl⟩
    · intro w1 hx1 hg1; rintro _ rfl; change wpList _ _ _ _ _ _; refine Rr.lift (fun _ _ h => Rr.grew_of h) ?_; have m0 := hx1.cell m2 HNB.out; go_wp2_with fail; exact ⟨rfl, Ext.refl _, rfl, rfl⟩
    · intro w1 hx1 hg1; change wpList _ _ _ _ _ _; refine Rr.lift (fun _ _ h => Rr.grew_of h) ?_; exact ob_move rfl rfl rfl rfl rfl
    · intro w1 hx1 hg1; rintro _ rfl; change wpList _ _ _ _ _ _; refine Rr.lift (fun _ _ h => Rr.grew_of h) ?_; go_wp2_with fail; exact ⟨rfl, Ext.refl _, rfl, rfl⟩
    · intro w1 hx1 hg1; rintro _ rfl; change wpList _ _ _ _ _ _; refine Rr.lift (fun _ _ h => Rr.grew_of h) ?_; go_wp2_with fail; exact ⟨rfl, Ext.refl _, rfl, rfl⟩
    · intro w1 hx1 hg1; rintro _ rfl; change wpList _ _ _ _ _ _; refine Rr.lift (fun _ _ h => Rr.grew_of h) ?_; have m0 := hx1.cell m1 HNB.out; go_wp2_with fail; exact ⟨rfl, Ext.refl _, rfl, rfl⟩
    · intro w1 hx1 hg1; change wpList _ _ _ _ _ _; refine Rr.lift (fun _ _ h => Rr.grew_of h) ?_; exact ob_move rfl rfl rfl rfl rfl
    · intro w1 hx1 hg1; change wpList _ _ _ _ _ _; refine Rr.lift (fun _ _ h => Rr.grew_of h) ?_; exact ob_move rfl rfl rfl rfl rfl
    · intro w1 hx1 hg1; change wpList _ _ _ _ _ _; refine Rr.lift (fun _ _ h => Rr.grew_of h) ?_; exact ob_move rfl rfl rfl rfl rfl
    · intro w1 hx1 hg1; change wpList _ _ _ _ _ _; refine Rr.lift (fun _ _ h => Rr.grew_of h) ?_; exact ob_move rfl rfl rfl rfl rfl
    · intro w1 hx1 hg1; rintro _ rfl; rintro _ rfl; change wpList _ _ _ _ _ _; refine Rr.lift (fun _ _ h => Rr.grew_of h) ?_; refine Rr.wpList_append_rowA 52 5 (.tmp 35) (.tmp 36) rfl wa.heap.size _ 1 1 Try.underlying52 info5t rfl (by decide) rfl (.slice none 0 0) 0 [] rfl (own_none _ _ _ _) lb.length (bC lb) (HBK.out _ (HRF.out _ hx1)) (bC_one lb) hb1 hb2 hx1.size ?_; intro v' w2 ho2 hg2 hat; exact wpList_nil ⟨rfl, (Ext.refl _).grown_none (v := .slice none 0 0) hg2 (fun _ h => nomatch h), rfl, own_zeroB ho2, fun g hg e => by have h1 := own_base ho2 g hg; have h2 := HLV.out g e; omega⟩
    · intro w1 hx1 hg1; rintro _ rfl; rintro _ rfl; rintro _ rfl; intro v37 h37; change wpList _ _ _ _ _ _; refine Rr.lift (fun _ _ h => Rr.grew_of h) ?_; obtain ⟨a9, c9, rfl, _, _⟩ := own_shape h37.1; go_wp2_with fail; exact ⟨rfl, Ext.refl _, rfl, _, rfl, h37⟩
    · intro w1 hx1 hg1; intro v38 h38; change wpList _ _ _ _ _ _; refine Rr.lift (fun _ _ h => Rr.grew_of h) ?_; obtain ⟨hh, he, ho⟩ := h38; have he : v38 = _ := he; subst he; obtain ⟨a9, c9, rfl, _, _⟩ := own_shape ho.1; go_wp2_with fail; exact ⟨rfl, (Ext.refl _).alloc _, rfl, _, ⟨pk_row w1 l1 p q _, _, _, _, rfl, hx1.size, by rw [World.size_alloc]; exact Nat.lt_succ_self _⟩, own_ext ho.1 ((Ext.refl _).alloc _), ho.2⟩
    · intro w1 hx1 hg1; rintro _ rfl; intro v39 h39; change wpList _ _ _ _ _ _; obtain ⟨hh, hl, ho⟩ := h39; obtain ⟨a9, c9, rfl, _, _⟩ := own_shape ho.1; refine Rr.wpList_append_rowA 80 75 (.tmp 28) (.tmp 39) rfl base _ 4 48 Try.underlying80 info75t rfl (by decide) rfl _ L.length (L.flatMap pC) rfl hg1.1 1 [.int .u64 l1, .int .i64 p, .int .i64 q, .slice a9 lb.length c9] hl.1 (pk_one _ _ _ _ _ _) hb3 hb4 (Nat.le_trans HBS.out hx1.size) ?_; intro v' w2 ho2 hg2 hat; exact wpList_nil ⟨rfl, hg2, rfl, _, ⟨ho2, fun _ _ h => nomatch h⟩, own_keep ho.1 hg2 (fun g hg => ho.2 g hg), fun _ _ h => nomatch h⟩
    · intro w1 hx1 hg1; rintro _ rfl; change wpList _ _ _ _ _ _; refine Rr.lift (fun _ _ h => Rr.grew_of h) ?_; go_wp2_with fail; exact ⟨rfl, Ext.refl _, rfl, rfl⟩
    · intro w1 hx1 hg1; rintro _ rfl; change wpList _ _ _ _ _ _; refine Rr.lift (fun _ _ h => Rr.grew_of h) ?_; go_wp2_with fail; exact ⟨rfl, Ext.refl _, rfl, rfl⟩
  · intro w1 hx1; intro hgs; rintro _ rfl; rintro _ rfl; rintro _ rfl; rintro _ rfl; rintro _ rfl; rintro _ rfl; rintro _ rfl; rintro _ rfl; rintro _ rfl; rintro _ rfl; rintro _ rfl; rintro _ rfl; rintro _ rfl; intro v37 h37; intro v38 h38; intro v39 h39; intro v40 h40; rintro _ rfl; rintro _ rfl; refine depsThen_nil ?_; dsimp only; simp only [Act.put, List.setIfInBounds_toArray, List.set_cons_zero, List.set_cons_succ, List.drop_succ_cons, List.drop_zero]
    replace h37 : (Rr.FactB.own wa.heap.size 5 1 lb.length (bC lb) (Value.slice aL L.length cL).ownBlock).p v37 w1 := h37
    replace h38 : (Rr.FactB.ex fun h => Rr.FactB.both (Rr.FactB.eq (.agg #[.int .u64 l1, .int .i64 p, .int .i64 q, h])) ((Rr.FactB.own wa.heap.size 5 1 lb.length (bC lb) (Value.slice aL L.length cL).ownBlock).at h)).p v38 w1 := h38
    replace h39 : (Rr.FactB.ex fun h => Rr.FactB.both (Rr.FactB.later wa.heap.size 4 1 [.int .u64 l1, .int .i64 p, .int .i64 q, h]) ((Rr.FactB.own wa.heap.size 5 1 lb.length (bC lb) (Value.slice aL L.length cL).ownBlock).at h)).p v39 w1 := h39
    replace h40 : (Rr.FactB.ex fun h => Rr.FactB.both (Rr.FactB.own base 75 4 (L.length + 1) (L.flatMap pC ++ [.int .u64 l1, .int .i64 p, .int .i64 q, h]) none) ((Rr.FactB.own wa.heap.size 5 1 lb.length (bC lb) none).at h)).p v40 w1 := h40
    clear hgs
    obtain ⟨hv, ⟨ho40, _⟩, ⟨ho5, _⟩⟩ := h40
    obtain ⟨a3, c3, rfl, _, _⟩ := own_shape ho40
    have hn3 : w1.heap[rb]? = _ := (hx1.block rb (Array.getElem?_eq_some_iff.1 HN1.out).1 HNB.out).trans HN1.out
    have f2 := frozen_row hn3 2
    have hn4 := set_blk w1 rb 2 (.slice a3 (L.length + 1) c3) _ _ _ hn3
    have m4 := cell_of_row _ _ 1 _ _ _ hn4
    have hg4 := grown_set w1 rb 2 (.slice a3 (L.length + 1) c3)
    have hr4 := own_keep ho40 hg4 fun g hg e => own_ne ho40 hn3 (by decide) (hg.trans e.symm)
    have hv4 := own_keep ho5 hg4 fun g hg e => own_ne ho5 hn3 (by decide) (hg.trans e.symm)
    have hF : RefF rb (.slice aL L.length cL) w1 (w1.setCell ⟨rb, 2, none⟩ (.slice a3 (L.length + 1) c3)) := RefF.grown hg4
    have HF := Lib.hid ((HRF.out _ hx1).trans hF)
    have HN4 := Lib.hid hn4
    have HR4 := Lib.hid hr4
    have HV4 := Lib.hid hv4
    have HHV : Hid (NewB w.heap.size hv) := fun g hg => Nat.le_trans HG1.out.size (own_base ho5 g hg)
    have c0 := cell_of_row _ _ 2 _ _ _ hn3
    clear hn3 hn4 hg4 hr4 hv4 hF ho40 ho5 hx1 m1 m2 HLV HLA HNB HBK HRF
    go_wp2_with fail
    go_ret2
    refine ⟨rfl, ⟨.slice a3 (L.length + 1) c3, hv, ⟨HN4.out, ?_, fun y hy => ?_, HH.out.lo⟩, HHV.out⟩, HF.out⟩
    · rw [List.length_append, List.flatMap_append]
      exact HR4.out
    · rcases List.mem_append.1 hy with hy | hy
      · exact HH.out.rowF HF.out (HH.out.own y hy) (by decide) (by decide)
      · rw [List.mem_singleton] at hy
        subst hy
        exact own_low HV4.out HBS.out
end Go.Proofs.Ytlgopjfnknjgjaa
