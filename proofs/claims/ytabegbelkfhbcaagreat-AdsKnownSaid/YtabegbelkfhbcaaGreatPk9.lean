/- Regions: Minus.
Regions: All.
Regions: the spans of a constraint that has a value: of. (Walks alike, printed by a program.)
Regions: Within.
Regions: And.
A box of the call's own that is to hold a region: memory turns there alone. -/
import Derived.Test.YtabegbelkfhbcaaGreatPk8
import Derived.Test.YtabegbelkfhbcaaGreatPk4
import Derived.Test.YtabegbelkfhbcaaGreatPk5
import Derived.Test.YtabegbelkfhbcaaGreatPk7
namespace Go.Proofs.YtabegbelkfhbcaaGreat
open Go.RowKit

theorem minus_bound {l m : List Sp} (hl : Rise l) (hm : Full m) (h1 : l.length ≤ 400000) (h2 : m.length ≤ 400000) : ∀ k, k ≤ m.length → (minusL l (m.take k)).length ≤ 1000000 := fun k hk => by
  have := (minusL_rise (m := m.take k) (fun x hx => hm x (List.mem_of_mem_take hx)) hl).2
  rw [List.length_take] at this
  omega
theorem setCell_block (w : World) (b i : Nat) (v : Value) (c : Array Value) (t : TypeId) (fr : Nat × Nat) (h : w.heap[b]? = some (.cells c t fr)) : (w.setCell ⟨b, i, none⟩ v).heap[b]? = some (.cells (c.setIfInBounds i v) t fr) := by
  unfold World.setCell
  simp [Array.getElem?_modify, h]
theorem setCell_block_other (w : World) (a : Addr) (v : Value) (k : Nat) (h : k ≠ a.block) : (w.setCell a v).heap[k]? = w.heap[k]? := by
  show (w.heap.modify a.block _)[k]? = w.heap[k]?
  rw [Array.getElem?_modify, if_neg (fun e => h e.symm)]
/-- A block without texts holds no spans. -/
theorem spr_apart {W : World} {h : Value} {l : List Sp} (k : SpR W h l) {b : Nat} {c : Array Value} {t : TypeId} {fr : Nat × Nat} (hb : W.heap[b]? = some (.cells c t fr)) (hc : ∀ s, Value.string s ∉ c.toList) : l = [] ∨ ∃ B o n cap, h = .slice (some ⟨B, o, none⟩) n cap ∧ B ≠ b := by
  obtain ⟨a, cap, rfl, _, _⟩ := Row.shape k
  by_cases h0 : l = []
  · exact .inl h0
  · obtain ⟨B, o, rfl, f0, _⟩ := SpR.at k (k := 0) (List.length_pos_iff.2 h0)
    refine .inr ⟨B, o, _, _, rfl, fun e => ?_⟩
    subst e
    simp only [World.cell?, hb, Option.isSome_none, Bool.false_eq_true, if_false] at f0
    obtain ⟨hlt, e2⟩ := Array.getElem?_eq_some_iff.1 f0
    exact hc _ (by rw [← e2]; simp)
theorem spr_other {W W' : World} {h : Value} {l : List Sp} (k : SpR W h l) {b : Nat} {c : Array Value} {t : TypeId} {fr : Nat × Nat} (hb : W.heap[b]? = some (.cells c t fr)) (hc : ∀ s, Value.string s ∉ c.toList) (ho : ∀ i, i ≠ b → W'.heap[i]? = W.heap[i]?) : SpR W' h l := by
  rcases spr_apart k hb hc with rfl | ⟨B, o, n, cap, rfl, hne⟩
  · obtain ⟨h1, a, cap, e, h3, h4, h5, h6, _⟩ := k
    exact ⟨h1, a, cap, e, h3, h4, h5, h6, fun j u hj => by simp at hj⟩
  · obtain ⟨h1, a, cap, e, h3, h4, h5, h6, h7⟩ := k
    simp only [Value.slice.injEq] at e
    obtain ⟨rfl, rfl, rfl⟩ := e
    refine ⟨h1, _, _, rfl, h3, h4, h5, h6, fun j u hj => ?_⟩
    obtain ⟨p, e2, hcl⟩ := h7 j u hj
    cases e2
    refine ⟨_, rfl, ?_⟩
    rw [World.cell?_of_block (a := ⟨B, o + j, none⟩) (ho B hne)]
    exact hcl
theorem spr_setCell {W : World} {h : Value} {l : List Sp} (k : SpR W h l) {b : Nat} (i : Nat) (v : Value) {c : Array Value} {t : TypeId} {fr : Nat × Nat} (hb : W.heap[b]? = some (.cells c t fr)) (hc : ∀ s, Value.string s ∉ c.toList) : SpR (W.setCell ⟨b, i, none⟩ v) h l :=
  spr_other k hb hc fun j hj => setCell_block_other W ⟨b, i, none⟩ v j hj
theorem spr_setRow {W : World} {h : Value} {l : List Sp} (k : SpR W h l) {b : Nat} {cs : Array Value} {c : Array Value} {t : TypeId} {fr : Nat × Nat} (hb : W.heap[b]? = some (.cells c t fr)) (hc : ∀ s, Value.string s ∉ c.toList) : SpR (W.setRow b cs) h l :=
  spr_other k hb hc fun j hj => setRow_other W b j cs hj
theorem info83s : (Tryz.prog.info? 83).map (·.size) = some 4 := by kernel_rfl

set_option maxRecDepth 100000 in
set_option maxHeartbeats 16000000 in
theorem minusR_any (w : World) (v1 v2 : Value) (r q : Rg) (h1 : RgR w v1 r) (h2 : RgR w v2 q) (hr : Rises r) (hq : Fulls q) (hf1 : Few 400000 r) (hf2 : Few 400000 q) :
    Calls Tryz.prog 80 #[v1, v2] w fun e w' => ∃ v, e = .returned v ∧ RgR w' v (r.minus q) ∧ Ext w w' := by
  have m1 := fun W a c b d k1 k2 => minus_any W (.slice a r.i.length c) (.slice b q.i.length d) r.i q.i k1 k2 (minus_bound hr.i hq.i hf1.i hf2.i)
  have m2 := fun W a c b d k1 k2 => minus_any W (.slice a r.s.length c) (.slice b q.s.length d) r.s q.s k1 k2 (minus_bound hr.s hq.s hf1.s hf2.s)
  have m3 := fun W a c b d k1 k2 => minus_any W (.slice a r.b.length c) (.slice b q.b.length d) r.b q.b k1 k2 (minus_bound hr.b hq.b hf1.b hf2.b)
  obtain ⟨a1, c1, a2, c2, a3, c3, rfl, k1, k2, k3⟩ := h1.ex
  obtain ⟨b1, d1, b2, d2, b3, d3, rfl, j1, j2, j3⟩ := h2.ex
  obtain ⟨OD, hOD⟩ : ∃ OD, OD = (r.odd && !q.odd) := ⟨_, rfl⟩
  have HOD := Lib.hid hOD
  have M1 := Lib.hid m1
  have M2 := Lib.hid m2
  have M3 := Lib.hid m3
  have hx3 : Ext w (((w.alloc (.cells #[.slice a1 r.i.length c1, .slice a2 r.s.length c2, .slice a3 r.b.length c3, .bool r.odd] 83)).alloc (.cells #[.slice b1 q.i.length d1, .slice b2 q.s.length d2, .slice b3 q.b.length d3, .bool q.odd] 83)).alloc (.cells #[.slice none 0 0, .slice none 0 0, .slice none 0 0, .bool false] 83)) := (((Ext.refl w).alloc _).alloc _).alloc _
  have hx0 : Ext w ((((w.alloc (.cells #[.slice a1 r.i.length c1, .slice a2 r.s.length c2, .slice a3 r.b.length c3, .bool r.odd] 83)).alloc (.cells #[.slice b1 q.i.length d1, .slice b2 q.s.length d2, .slice b3 q.b.length d3, .bool q.odd] 83)).alloc (.cells #[.slice none 0 0, .slice none 0 0, .slice none 0 0, .bool false] 83)).alloc (.cells #[.slice none 0 0, .slice none 0 0, .slice none 0 0, .bool OD] 83)) := hx3.alloc _
  have hR3 : (((w.alloc (.cells #[.slice a1 r.i.length c1, .slice a2 r.s.length c2, .slice a3 r.b.length c3, .bool r.odd] 83)).alloc (.cells #[.slice b1 q.i.length d1, .slice b2 q.s.length d2, .slice b3 q.b.length d3, .bool q.odd] 83)).alloc (.cells #[.slice none 0 0, .slice none 0 0, .slice none 0 0, .bool false] 83)).heap[w.heap.size]? = some (.cells #[.slice a1 r.i.length c1, .slice a2 r.s.length c2, .slice a3 r.b.length c3, .bool r.odd] 83 (0, 0)) := by
    have h := heap_alloc_new w (.cells #[.slice a1 r.i.length c1, .slice a2 r.s.length c2, .slice a3 r.b.length c3, .bool r.odd] 83)
    rw [(((Ext.refl _).alloc (.cells #[.slice b1 q.i.length d1, .slice b2 q.s.length d2, .slice b3 q.b.length d3, .bool q.odd] 83)).alloc (.cells #[.slice none 0 0, .slice none 0 0, .slice none 0 0, .bool false] 83)).block _ (by rw [World.size_alloc]; omega)]
    exact h
  have hQ3 : (((w.alloc (.cells #[.slice a1 r.i.length c1, .slice a2 r.s.length c2, .slice a3 r.b.length c3, .bool r.odd] 83)).alloc (.cells #[.slice b1 q.i.length d1, .slice b2 q.s.length d2, .slice b3 q.b.length d3, .bool q.odd] 83)).alloc (.cells #[.slice none 0 0, .slice none 0 0, .slice none 0 0, .bool false] 83)).heap[w.heap.size + 1]? = some (.cells #[.slice b1 q.i.length d1, .slice b2 q.s.length d2, .slice b3 q.b.length d3, .bool q.odd] 83 (0, 0)) := by
    have h := heap_alloc_new (w.alloc (.cells #[.slice a1 r.i.length c1, .slice a2 r.s.length c2, .slice a3 r.b.length c3, .bool r.odd] 83)) (.cells #[.slice b1 q.i.length d1, .slice b2 q.s.length d2, .slice b3 q.b.length d3, .bool q.odd] 83)
    rw [World.size_alloc] at h
    rw [((Ext.refl _).alloc (.cells #[.slice none 0 0, .slice none 0 0, .slice none 0 0, .bool false] 83)).block _ (by rw [World.size_alloc, World.size_alloc]; omega)]
    exact h
  have hs3 : (((w.alloc (.cells #[.slice a1 r.i.length c1, .slice a2 r.s.length c2, .slice a3 r.b.length c3, .bool r.odd] 83)).alloc (.cells #[.slice b1 q.i.length d1, .slice b2 q.s.length d2, .slice b3 q.b.length d3, .bool q.odd] 83)).alloc (.cells #[.slice none 0 0, .slice none 0 0, .slice none 0 0, .bool false] 83)).heap.size = w.heap.size + 1 + 1 + 1 := by rw [World.size_alloc, World.size_alloc, World.size_alloc]
  have hT3 : (((w.alloc (.cells #[.slice a1 r.i.length c1, .slice a2 r.s.length c2, .slice a3 r.b.length c3, .bool r.odd] 83)).alloc (.cells #[.slice b1 q.i.length d1, .slice b2 q.s.length d2, .slice b3 q.b.length d3, .bool q.odd] 83)).alloc (.cells #[.slice none 0 0, .slice none 0 0, .slice none 0 0, .bool false] 83)).heap[w.heap.size + 1 + 1]? = some (.cells #[.slice none 0 0, .slice none 0 0, .slice none 0 0, .bool false] 83 (0, 0)) := by
    have h := heap_alloc_new ((w.alloc (.cells #[.slice a1 r.i.length c1, .slice a2 r.s.length c2, .slice a3 r.b.length c3, .bool r.odd] 83)).alloc (.cells #[.slice b1 q.i.length d1, .slice b2 q.s.length d2, .slice b3 q.b.length d3, .bool q.odd] 83)) (.cells #[.slice none 0 0, .slice none 0 0, .slice none 0 0, .bool false] 83)
    rw [World.size_alloc, World.size_alloc] at h; exact h
  have r3 := cell_of_row _ _ 3 _ _ _ hR3
  have q3 := cell_of_row _ _ 3 _ _ _ hQ3
  have HR3 := Lib.hid hR3
  have HQ3 := Lib.hid hQ3
  have HT3 := Lib.hid hT3
  clear m1 m2 m3 h1 h2 hr hq hf1 hf2 hOD hR3 hQ3 hT3
  go_enter Tryz.func80, Tryz.ntmps80
  go_upto_region 1 with fail
  go_cut [5, 14] from 7 to 13 (fun v5 _ wx => v5 = .pointer (some ⟨w.heap.size + 1 + 1 + 1, 0, none⟩) ∧ wx = ((((w.alloc (.cells #[.slice a1 r.i.length c1, .slice a2 r.s.length c2, .slice a3 r.b.length c3, .bool r.odd] 83)).alloc (.cells #[.slice b1 q.i.length d1, .slice b2 q.s.length d2, .slice b3 q.b.length d3, .bool q.odd] 83)).alloc (.cells #[.slice none 0 0, .slice none 0 0, .slice none 0 0, .bool false] 83)).alloc (.cells #[.slice none 0 0, .slice none 0 0, .slice none 0 0, .bool OD] 83)))
  case first =>
    have HO2 : Hid (OD = (r.odd && !q.odd)) := HOD.out
    clear HOD M1 M2 M3 HR3 HQ3 HT3 hx0 hx3 k1 k2 k3 j1 j2 j3
    generalize r.odd = ro at *
    generalize q.odd = qo at *
    cases ro
    · obtain rfl : OD = false := HO2.out
      go_wp2_with fail
      go_meet
      exact ⟨rfl, rfl⟩
    · cases qo
      · obtain rfl : OD = true := HO2.out
        go_wp2_with fail
        go_meet
        exact ⟨rfl, rfl⟩
      · obtain rfl : OD = false := HO2.out
        go_wp2_with fail
        go_meet
        exact ⟨rfl, rfl⟩
  case rest =>
    obtain ⟨rfl, rfl⟩ := hcut
    have hxz : Ext (((w.alloc (.cells #[.slice a1 r.i.length c1, .slice a2 r.s.length c2, .slice a3 r.b.length c3, .bool r.odd] 83)).alloc (.cells #[.slice b1 q.i.length d1, .slice b2 q.s.length d2, .slice b3 q.b.length d3, .bool q.odd] 83)).alloc (.cells #[.slice none 0 0, .slice none 0 0, .slice none 0 0, .bool false] 83)) ((((w.alloc (.cells #[.slice a1 r.i.length c1, .slice a2 r.s.length c2, .slice a3 r.b.length c3, .bool r.odd] 83)).alloc (.cells #[.slice b1 q.i.length d1, .slice b2 q.s.length d2, .slice b3 q.b.length d3, .bool q.odd] 83)).alloc (.cells #[.slice none 0 0, .slice none 0 0, .slice none 0 0, .bool false] 83)).alloc (.cells #[.slice none 0 0, .slice none 0 0, .slice none 0 0, .bool OD] 83)) := (Ext.refl _).alloc _
    have hR := Lib.hid ((hxz.block _ (Array.getElem?_eq_some_iff.1 HR3.out).1).trans HR3.out)
    have hQ := Lib.hid ((hxz.block _ (Array.getElem?_eq_some_iff.1 HQ3.out).1).trans HQ3.out)
    have hT := Lib.hid ((hxz.block _ (Array.getElem?_eq_some_iff.1 HT3.out).1).trans HT3.out)
    have hZ : Hid (((((w.alloc (.cells #[.slice a1 r.i.length c1, .slice a2 r.s.length c2, .slice a3 r.b.length c3, .bool r.odd] 83)).alloc (.cells #[.slice b1 q.i.length d1, .slice b2 q.s.length d2, .slice b3 q.b.length d3, .bool q.odd] 83)).alloc (.cells #[.slice none 0 0, .slice none 0 0, .slice none 0 0, .bool false] 83)).alloc (.cells #[.slice none 0 0, .slice none 0 0, .slice none 0 0, .bool OD] 83)).heap[w.heap.size + 1 + 1 + 1]? = some (.cells #[.slice none 0 0, .slice none 0 0, .slice none 0 0, .bool OD] 83 (0, 0))) := by
      have h := heap_alloc_new (((w.alloc (.cells #[.slice a1 r.i.length c1, .slice a2 r.s.length c2, .slice a3 r.b.length c3, .bool r.odd] 83)).alloc (.cells #[.slice b1 q.i.length d1, .slice b2 q.s.length d2, .slice b3 q.b.length d3, .bool q.odd] 83)).alloc (.cells #[.slice none 0 0, .slice none 0 0, .slice none 0 0, .bool false] 83)) (.cells #[.slice none 0 0, .slice none 0 0, .slice none 0 0, .bool OD] 83)
      rw [hs3] at h; exact h
    clear HR3 HQ3 HT3 hxz hs3 r3 q3
    generalize (((w.alloc (.cells #[.slice a1 r.i.length c1, .slice a2 r.s.length c2, .slice a3 r.b.length c3, .bool r.odd] 83)).alloc (.cells #[.slice b1 q.i.length d1, .slice b2 q.s.length d2, .slice b3 q.b.length d3, .bool q.odd] 83)).alloc (.cells #[.slice none 0 0, .slice none 0 0, .slice none 0 0, .bool false] 83)).alloc (.cells #[.slice none 0 0, .slice none 0 0, .slice none 0 0, .bool OD] 83) = w0 at *
    go_wp2_with fail
    refine wp_loop_rounds 4 ?_

    rw [rounds_succ]
    go_upto_region 5 with fail
    have hxd1 : Ext w0 w0.drew := (Ext.refl w0).drew
    have rr := hxd1.cell (cell_of_row _ _ 0 _ _ _ hR.out)
    have qq := hxd1.cell (cell_of_row _ _ 0 _ _ _ hQ.out)
    have s1 := k1.ext (hx0.trans hxd1)
    have s2 := j1.ext (hx0.trans hxd1)
    go_region_law (go_simp; go_at_call 131; refine (M1.out _ _ _ _ _ s1 s2).mono ?_; rintro e y1 ⟨hv, rfl, hS1, hy1⟩; obtain ⟨aa1, cc1, rfl, _, _⟩ := Row.shape hS1; have z0 := hy1.cell (hxd1.cell (cell_of_row _ _ 0 _ _ _ hZ.out)); have hZ1 := Lib.hid ((hy1.block _ (Array.getElem?_eq_some_iff.1 hZ.out).1).trans hZ.out); have z1 : y1.frozen? ⟨w.heap.size + 1 + 1 + 1, 0, none⟩ = false := by simp [World.frozen?, hZ1.out])
    all_goals
      clear rr qq s1 s2 z0 z1
      have hxy := hxd1.trans hy1
      have hb := Lib.hid (setCell_block y1 (w.heap.size + 1 + 1 + 1) 0 (.slice aa1 (minusL r.i q.i).length cc1) _ _ _ hZ1.out)
      have hR1 := Lib.hid ((setCell_block_other y1 ⟨w.heap.size + 1 + 1 + 1, 0, none⟩ (.slice aa1 (minusL r.i q.i).length cc1) w.heap.size (by simp <;> omega)).trans ((hxy.block _ (Array.getElem?_eq_some_iff.1 hR.out).1).trans hR.out))
      have hQ1 := Lib.hid ((setCell_block_other y1 ⟨w.heap.size + 1 + 1 + 1, 0, none⟩ (.slice aa1 (minusL r.i q.i).length cc1) (w.heap.size + 1) (by simp <;> omega)).trans ((hxy.block _ (Array.getElem?_eq_some_iff.1 hQ.out).1).trans hQ.out))
      have hT1 := Lib.hid ((setCell_block_other y1 ⟨w.heap.size + 1 + 1 + 1, 0, none⟩ (.slice aa1 (minusL r.i q.i).length cc1) (w.heap.size + 1 + 1) (by simp <;> omega)).trans ((hxy.block _ (Array.getElem?_eq_some_iff.1 hT.out).1).trans hT.out))
      have hX1 : Ext w (y1.setCell ⟨w.heap.size + 1 + 1 + 1, 0, none⟩ (.slice aa1 (minusL r.i q.i).length cc1)) := (hx0.trans hxy).setCell (by simp <;> omega) _
      have hSn1 := spr_setCell hS1 0 (.slice aa1 (minusL r.i q.i).length cc1) hZ1.out (by simp)
      have hS1 := hSn1
      clear hSn1
      generalize y1.setCell ⟨w.heap.size + 1 + 1 + 1, 0, none⟩ (.slice aa1 (minusL r.i q.i).length cc1) = x1 at *
      have hZ1 : Hid (x1.heap[w.heap.size + 1 + 1 + 1]? = some (.cells #[.slice aa1 (minusL r.i q.i).length cc1, .slice none 0 0, .slice none 0 0, .bool OD] 83 (0, 0))) := hb.out
      clear hb hxy hy1 hxd1
      go_wp2_with fail
      rw [rounds_succ]
      go_upto_region 5 with fail
      have hxd2 : Ext x1 x1.drew := (Ext.refl x1).drew
      have rr := hxd2.cell (cell_of_row _ _ 1 _ _ _ hR1.out)
      have qq := hxd2.cell (cell_of_row _ _ 1 _ _ _ hQ1.out)
      have s1 := k2.ext (hX1.trans hxd2)
      have s2 := j2.ext (hX1.trans hxd2)
      go_region_law (go_simp; go_at_call 131; refine (M2.out _ _ _ _ _ s1 s2).mono ?_; rintro e y2 ⟨hv, rfl, hS2, hy2⟩; obtain ⟨aa2, cc2, rfl, _, _⟩ := Row.shape hS2; have z0 := hy2.cell (hxd2.cell (cell_of_row _ _ 1 _ _ _ hZ1.out)); have hZ2 := Lib.hid ((hy2.block _ (Array.getElem?_eq_some_iff.1 hZ1.out).1).trans hZ1.out); have z1 : y2.frozen? ⟨w.heap.size + 1 + 1 + 1, 1, none⟩ = false := by simp [World.frozen?, hZ2.out])
      all_goals
        clear rr qq s1 s2 z0 z1
        have hxy := hxd2.trans hy2
        have hb := Lib.hid (setCell_block y2 (w.heap.size + 1 + 1 + 1) 1 (.slice aa2 (minusL r.s q.s).length cc2) _ _ _ hZ2.out)
        have hR2 := Lib.hid ((setCell_block_other y2 ⟨w.heap.size + 1 + 1 + 1, 1, none⟩ (.slice aa2 (minusL r.s q.s).length cc2) w.heap.size (by simp <;> omega)).trans ((hxy.block _ (Array.getElem?_eq_some_iff.1 hR1.out).1).trans hR1.out))
        have hQ2 := Lib.hid ((setCell_block_other y2 ⟨w.heap.size + 1 + 1 + 1, 1, none⟩ (.slice aa2 (minusL r.s q.s).length cc2) (w.heap.size + 1) (by simp <;> omega)).trans ((hxy.block _ (Array.getElem?_eq_some_iff.1 hQ1.out).1).trans hQ1.out))
        have hT2 := Lib.hid ((setCell_block_other y2 ⟨w.heap.size + 1 + 1 + 1, 1, none⟩ (.slice aa2 (minusL r.s q.s).length cc2) (w.heap.size + 1 + 1) (by simp <;> omega)).trans ((hxy.block _ (Array.getElem?_eq_some_iff.1 hT1.out).1).trans hT1.out))
        have hX2 : Ext w (y2.setCell ⟨w.heap.size + 1 + 1 + 1, 1, none⟩ (.slice aa2 (minusL r.s q.s).length cc2)) := (hX1.trans hxy).setCell (by simp <;> omega) _
        have hSn2 := spr_setCell hS2 1 (.slice aa2 (minusL r.s q.s).length cc2) hZ2.out (by simp)
        have hS1 := spr_setCell (hS1.ext hxy) 1 (.slice aa2 (minusL r.s q.s).length cc2) hZ2.out (by simp)
        have hS2 := hSn2
        clear hSn2
        generalize y2.setCell ⟨w.heap.size + 1 + 1 + 1, 1, none⟩ (.slice aa2 (minusL r.s q.s).length cc2) = x2 at *
        have hZ2 : Hid (x2.heap[w.heap.size + 1 + 1 + 1]? = some (.cells #[.slice aa1 (minusL r.i q.i).length cc1, .slice aa2 (minusL r.s q.s).length cc2, .slice none 0 0, .bool OD] 83 (0, 0))) := hb.out
        clear hb hxy hy2 hxd2
        go_wp2_with fail
        rw [rounds_succ]
        go_upto_region 5 with fail
        have hxd3 : Ext x2 x2.drew := (Ext.refl x2).drew
        have rr := hxd3.cell (cell_of_row _ _ 2 _ _ _ hR2.out)
        have qq := hxd3.cell (cell_of_row _ _ 2 _ _ _ hQ2.out)
        have s1 := k3.ext (hX2.trans hxd3)
        have s2 := j3.ext (hX2.trans hxd3)
        go_region_law (go_simp; go_at_call 131; refine (M3.out _ _ _ _ _ s1 s2).mono ?_; rintro e y3 ⟨hv, rfl, hS3, hy3⟩; obtain ⟨aa3, cc3, rfl, _, _⟩ := Row.shape hS3; have z0 := hy3.cell (hxd3.cell (cell_of_row _ _ 2 _ _ _ hZ2.out)); have hZ3 := Lib.hid ((hy3.block _ (Array.getElem?_eq_some_iff.1 hZ2.out).1).trans hZ2.out); have z1 : y3.frozen? ⟨w.heap.size + 1 + 1 + 1, 2, none⟩ = false := by simp [World.frozen?, hZ3.out])
        all_goals
          clear rr qq s1 s2 z0 z1
          have hxy := hxd3.trans hy3
          have hb := Lib.hid (setCell_block y3 (w.heap.size + 1 + 1 + 1) 2 (.slice aa3 (minusL r.b q.b).length cc3) _ _ _ hZ3.out)
          have hR3 := Lib.hid ((setCell_block_other y3 ⟨w.heap.size + 1 + 1 + 1, 2, none⟩ (.slice aa3 (minusL r.b q.b).length cc3) w.heap.size (by simp <;> omega)).trans ((hxy.block _ (Array.getElem?_eq_some_iff.1 hR2.out).1).trans hR2.out))
          have hQ3 := Lib.hid ((setCell_block_other y3 ⟨w.heap.size + 1 + 1 + 1, 2, none⟩ (.slice aa3 (minusL r.b q.b).length cc3) (w.heap.size + 1) (by simp <;> omega)).trans ((hxy.block _ (Array.getElem?_eq_some_iff.1 hQ2.out).1).trans hQ2.out))
          have hT3 := Lib.hid ((setCell_block_other y3 ⟨w.heap.size + 1 + 1 + 1, 2, none⟩ (.slice aa3 (minusL r.b q.b).length cc3) (w.heap.size + 1 + 1) (by simp <;> omega)).trans ((hxy.block _ (Array.getElem?_eq_some_iff.1 hT2.out).1).trans hT2.out))
          have hX3 : Ext w (y3.setCell ⟨w.heap.size + 1 + 1 + 1, 2, none⟩ (.slice aa3 (minusL r.b q.b).length cc3)) := (hX2.trans hxy).setCell (by simp <;> omega) _
          have hSn3 := spr_setCell hS3 2 (.slice aa3 (minusL r.b q.b).length cc3) hZ3.out (by simp)
          have hS1 := spr_setCell (hS1.ext hxy) 2 (.slice aa3 (minusL r.b q.b).length cc3) hZ3.out (by simp)
          have hS2 := spr_setCell (hS2.ext hxy) 2 (.slice aa3 (minusL r.b q.b).length cc3) hZ3.out (by simp)
          have hS3 := hSn3
          clear hSn3
          generalize y3.setCell ⟨w.heap.size + 1 + 1 + 1, 2, none⟩ (.slice aa3 (minusL r.b q.b).length cc3) = x3 at *
          have hZ3 : Hid (x3.heap[w.heap.size + 1 + 1 + 1]? = some (.cells #[.slice aa1 (minusL r.i q.i).length cc1, .slice aa2 (minusL r.s q.s).length cc2, .slice aa3 (minusL r.b q.b).length cc3, .bool OD] 83 (0, 0))) := hb.out
          clear hb hxy hy3 hxd3
          go_wp2_with fail
          rw [rounds_succ]
          have f0 := cell_of_row _ _ 0 _ _ _ hZ3.out
          have f1 := cell_of_row _ _ 1 _ _ _ hZ3.out
          have f2 := cell_of_row _ _ 2 _ _ _ hZ3.out
          have f3 := cell_of_row _ _ 3 _ _ _ hZ3.out
          go_wp2_with (refine wpList_store_whole 83 (.tmp 4) (.tmp 31) rfl rfl (w.heap.size + 1 + 1) rfl #[.slice aa1 (minusL r.i q.i).length cc1, .slice aa2 (minusL r.s q.s).length cc2, .slice aa3 (minusL r.b q.b).length cc3, .bool OD] rfl _ 83 hT3.out rfl info83s (by simp [Value.oneCell']) ?_)
          have hq := setRow_heap _ _ _ #[.slice aa1 (minusL r.i q.i).length cc1, .slice aa2 (minusL r.s q.s).length cc2, .slice aa3 (minusL r.b q.b).length cc3, .bool OD] _ _ hT3.out
          have g0 := cell_of_row _ _ 0 _ _ _ hq
          have g1 := cell_of_row _ _ 1 _ _ _ hq
          have g2 := cell_of_row _ _ 2 _ _ _ hq
          have g3 := cell_of_row _ _ 3 _ _ _ hq
          refine bodyPost_ret (v := .agg #[.slice aa1 (minusL r.i q.i).length cc1, .slice aa2 (minusL r.s q.s).length cc2, .slice aa3 (minusL r.b q.b).length cc3, .bool OD]) (by simp [results, Tryz.results80, go_sem, g0, g1, g2, g3]) rfl ⟨_, rfl, ?_, hX3.setRow (by omega) _⟩
          have e : r.minus q = ⟨minusL r.i q.i, minusL r.s q.s, minusL r.b q.b, OD⟩ := by rw [HOD.out]; rfl
          rw [e]
          exact RgR.of (r := ⟨minusL r.i q.i, minusL r.s q.s, minusL r.b q.b, OD⟩) (spr_setRow hS1 hT3.out (by simp)) (spr_setRow hS2 hT3.out (by simp)) (spr_setRow hS3 hT3.out (by simp))
end Go.Proofs.YtabegbelkfhbcaaGreat

namespace Go.Proofs.YtabegbelkfhbcaaGreat
open Go.RowKit

theorem firstC_e (k : Int) : (firstC k).e = false := by unfold firstC; split <;> rfl
theorem sp_cells (w : World) (x : Sp) (c : Array Value) (hc : c = (spC x).toArray) : SpR (w.alloc (.cells c 115)) (.slice (some ⟨w.heap.size, 0, none⟩) 1 1) [x] := by
  subst hc; exact spRow w x
theorem first_cells (k : Int) : (#[.string (strOf (firstC k).a), .bool false, .string ⟨#[]⟩, .bool true] : Array Value) = (spC ⟨firstC k, endC⟩).toArray := by
  unfold spC; rw [firstC_e]; rfl

set_option maxRecDepth 100000 in
set_option maxHeartbeats 8000000 in
theorem all_any (w : World) : Calls Tryz.prog 78 #[] w fun e w' => ∃ v, e = .returned v ∧ RgR w' v allR ∧ Ext w w' := by
  obtain ⟨hx0, hT, hZ⟩ := boxes2 w (.cells #[.slice none 0 0, .slice none 0 0, .slice none 0 0, .bool false] 83) (.cells #[.slice none 0 0, .slice none 0 0, .slice none 0 0, .bool true] 83)
  have hF1 := fun (W : World) => first_any W 1
  have hF2 := fun (W : World) => first_any W 2
  have hF3 := fun (W : World) => first_any W 3
  have hc1 := fun (W : World) => sp_cells W ⟨firstC 1, endC⟩ _ (first_cells 1)
  have hc2 := fun (W : World) => sp_cells W ⟨firstC 2, endC⟩ _ (first_cells 2)
  have hc3 := fun (W : World) => sp_cells W ⟨firstC 3, endC⟩ _ (first_cells 3)
  have HF1 := Lib.hid hF1
  have HF2 := Lib.hid hF2
  have HF3 := Lib.hid hF3
  have HC1 := Lib.hid hc1
  have HC2 := Lib.hid hc2
  have HC3 := Lib.hid hc3
  clear hF1 hF2 hF3 hc1 hc2 hc3
  have HT := Lib.hid hT
  have HZ := Lib.hid hZ
  clear hT hZ
  have hall : Hid (allR = ⟨[⟨firstC 1, endC⟩], [⟨firstC 2, endC⟩], [⟨firstC 3, endC⟩], true⟩) := rfl
  generalize firstC 1 = f1 at *
  generalize firstC 2 = f2 at *
  generalize firstC 3 = f3 at *
  go_enter Tryz.func78, Tryz.ntmps78
  go_wp2_with fail
  generalize (w.alloc (.cells #[.slice none 0 0, .slice none 0 0, .slice none 0 0, .bool false] 83)).alloc (.cells #[.slice none 0 0, .slice none 0 0, .slice none 0 0, .bool true] 83) = w0 at *
  refine wp_loop_rounds 4 ?_
  rw [rounds_succ]
  go_wp2_with fail
  refine (HF1.out _).mono ?_
  rintro e y0 ⟨rfl, hy0⟩
  go_wp2_with fail
  refine (end_any _).mono ?_
  rintro e z0 ⟨rfl, hz0⟩
  have hyz0 := hy0.trans hz0
  have hs0 := Lib.hid (HC1.out z0)
  have hal0 := boxes1 z0 (.cells #[.string (strOf f1.a), .bool false, .string ⟨#[]⟩, .bool true] 115)
  have hxa0 := hyz0.trans hal0.1
  have hZ0 := Lib.hid (block_later HZ.out hxa0)
  have hT0 := Lib.hid (block_later HT.out hxa0)
  have hxw0 := hx0.trans hxa0
  obtain ⟨a0, ha0⟩ : ∃ a, a = z0.heap.size := ⟨_, rfl⟩
  clear hy0 hz0 hyz0 hal0 hxa0 HZ HT hx0
  have c0 := cell_of_row _ _ 0 _ _ _ hZ0.out
  have fz0 : (z0.alloc (.cells #[.string (strOf f1.a), .bool false, .string ⟨#[]⟩, .bool true] 115)).frozen? ⟨w.heap.size + 1, 0, none⟩ = false := by simp [World.frozen?, hZ0.out]
  go_wp2_with fail
  rw [← ha0] at hs0 ⊢
  clear c0 fz0 ha0
  generalize z0.alloc (.cells #[.string (strOf f1.a), .bool false, .string ⟨#[]⟩, .bool true] 115) = x0 at *
  have hb0 := Lib.hid (setCell_block x0 (w.heap.size + 1) 0 (.slice (some ⟨a0, 0, none⟩) 1 1) _ _ _ hZ0.out)
  have hTn0 := Lib.hid ((setCell_block_other x0 ⟨w.heap.size + 1, 0, none⟩ (.slice (some ⟨a0, 0, none⟩) 1 1) w.heap.size (by simp)).trans hT0.out)
  have hx0 := hxw0.setCell (p := ⟨w.heap.size + 1, 0, none⟩) (by simp) (.slice (some ⟨a0, 0, none⟩) 1 1)
  have hp0 := Lib.hid (spr_setCell hs0.out 0 (.slice (some ⟨a0, 0, none⟩) 1 1) hZ0.out (by simp))
  generalize x0.setCell ⟨w.heap.size + 1, 0, none⟩ (.slice (some ⟨a0, 0, none⟩) 1 1) = w1 at *
  have HZ : Hid (w1.heap[w.heap.size + 1]? = some (.cells #[.slice (some ⟨a0, 0, none⟩) 1 1, .slice none 0 0, .slice none 0 0, .bool true] 83 (0, 0))) := hb0.out
  have HT : Hid (w1.heap[w.heap.size]? = some (.cells #[.slice none 0 0, .slice none 0 0, .slice none 0 0, .bool false] 83 (0, 0))) := hTn0.out
  clear hb0 hTn0 hxw0 hs0 hZ0 hT0
  rw [rounds_succ]
  go_wp2_with fail
  refine (HF2.out _).mono ?_
  rintro e y1 ⟨rfl, hy1⟩
  go_wp2_with fail
  refine (end_any _).mono ?_
  rintro e z1 ⟨rfl, hz1⟩
  have hyz1 := hy1.trans hz1
  have hs1 := Lib.hid (HC2.out z1)
  have hal1 := boxes1 z1 (.cells #[.string (strOf f2.a), .bool false, .string ⟨#[]⟩, .bool true] 115)
  have hxa1 := hyz1.trans hal1.1
  have hZ1 := Lib.hid (block_later HZ.out hxa1)
  have hT1 := Lib.hid (block_later HT.out hxa1)
  have hp0 := Lib.hid (hp0.out.ext hxa1)
  have hxw1 := hx0.trans hxa1
  obtain ⟨a1, ha1⟩ : ∃ a, a = z1.heap.size := ⟨_, rfl⟩
  clear hy1 hz1 hyz1 hal1 hxa1 HZ HT hx0
  have c1 := cell_of_row _ _ 1 _ _ _ hZ1.out
  have fz1 : (z1.alloc (.cells #[.string (strOf f2.a), .bool false, .string ⟨#[]⟩, .bool true] 115)).frozen? ⟨w.heap.size + 1, 1, none⟩ = false := by simp [World.frozen?, hZ1.out]
  go_wp2_with fail
  rw [← ha1] at hs1 ⊢
  clear c1 fz1 ha1
  generalize z1.alloc (.cells #[.string (strOf f2.a), .bool false, .string ⟨#[]⟩, .bool true] 115) = x1 at *
  have hb1 := Lib.hid (setCell_block x1 (w.heap.size + 1) 1 (.slice (some ⟨a1, 0, none⟩) 1 1) _ _ _ hZ1.out)
  have hTn1 := Lib.hid ((setCell_block_other x1 ⟨w.heap.size + 1, 1, none⟩ (.slice (some ⟨a1, 0, none⟩) 1 1) w.heap.size (by simp)).trans hT1.out)
  have hx0 := hxw1.setCell (p := ⟨w.heap.size + 1, 1, none⟩) (by simp) (.slice (some ⟨a1, 0, none⟩) 1 1)
  have hp0 := Lib.hid (spr_setCell hp0.out 1 (.slice (some ⟨a1, 0, none⟩) 1 1) hZ1.out (by simp))
  have hp1 := Lib.hid (spr_setCell hs1.out 1 (.slice (some ⟨a1, 0, none⟩) 1 1) hZ1.out (by simp))
  generalize x1.setCell ⟨w.heap.size + 1, 1, none⟩ (.slice (some ⟨a1, 0, none⟩) 1 1) = w2 at *
  have HZ : Hid (w2.heap[w.heap.size + 1]? = some (.cells #[.slice (some ⟨a0, 0, none⟩) 1 1, .slice (some ⟨a1, 0, none⟩) 1 1, .slice none 0 0, .bool true] 83 (0, 0))) := hb1.out
  have HT : Hid (w2.heap[w.heap.size]? = some (.cells #[.slice none 0 0, .slice none 0 0, .slice none 0 0, .bool false] 83 (0, 0))) := hTn1.out
  clear hb1 hTn1 hxw1 hs1 hZ1 hT1
  rw [rounds_succ]
  go_wp2_with fail
  refine (HF3.out _).mono ?_
  rintro e y2 ⟨rfl, hy2⟩
  go_wp2_with fail
  refine (end_any _).mono ?_
  rintro e z2 ⟨rfl, hz2⟩
  have hyz2 := hy2.trans hz2
  have hs2 := Lib.hid (HC3.out z2)
  have hal2 := boxes1 z2 (.cells #[.string (strOf f3.a), .bool false, .string ⟨#[]⟩, .bool true] 115)
  have hxa2 := hyz2.trans hal2.1
  have hZ2 := Lib.hid (block_later HZ.out hxa2)
  have hT2 := Lib.hid (block_later HT.out hxa2)
  have hp0 := Lib.hid (hp0.out.ext hxa2)
  have hp1 := Lib.hid (hp1.out.ext hxa2)
  have hxw2 := hx0.trans hxa2
  obtain ⟨a2, ha2⟩ : ∃ a, a = z2.heap.size := ⟨_, rfl⟩
  clear hy2 hz2 hyz2 hal2 hxa2 HZ HT hx0
  have c2 := cell_of_row _ _ 2 _ _ _ hZ2.out
  have fz2 : (z2.alloc (.cells #[.string (strOf f3.a), .bool false, .string ⟨#[]⟩, .bool true] 115)).frozen? ⟨w.heap.size + 1, 2, none⟩ = false := by simp [World.frozen?, hZ2.out]
  go_wp2_with fail
  rw [← ha2] at hs2 ⊢
  clear c2 fz2 ha2
  generalize z2.alloc (.cells #[.string (strOf f3.a), .bool false, .string ⟨#[]⟩, .bool true] 115) = x2 at *
  have hb2 := Lib.hid (setCell_block x2 (w.heap.size + 1) 2 (.slice (some ⟨a2, 0, none⟩) 1 1) _ _ _ hZ2.out)
  have hTn2 := Lib.hid ((setCell_block_other x2 ⟨w.heap.size + 1, 2, none⟩ (.slice (some ⟨a2, 0, none⟩) 1 1) w.heap.size (by simp)).trans hT2.out)
  have hx0 := hxw2.setCell (p := ⟨w.heap.size + 1, 2, none⟩) (by simp) (.slice (some ⟨a2, 0, none⟩) 1 1)
  have hp0 := Lib.hid (spr_setCell hp0.out 2 (.slice (some ⟨a2, 0, none⟩) 1 1) hZ2.out (by simp))
  have hp1 := Lib.hid (spr_setCell hp1.out 2 (.slice (some ⟨a2, 0, none⟩) 1 1) hZ2.out (by simp))
  have hp2 := Lib.hid (spr_setCell hs2.out 2 (.slice (some ⟨a2, 0, none⟩) 1 1) hZ2.out (by simp))
  generalize x2.setCell ⟨w.heap.size + 1, 2, none⟩ (.slice (some ⟨a2, 0, none⟩) 1 1) = w3 at *
  have HZ : Hid (w3.heap[w.heap.size + 1]? = some (.cells #[.slice (some ⟨a0, 0, none⟩) 1 1, .slice (some ⟨a1, 0, none⟩) 1 1, .slice (some ⟨a2, 0, none⟩) 1 1, .bool true] 83 (0, 0))) := hb2.out
  have HT : Hid (w3.heap[w.heap.size]? = some (.cells #[.slice none 0 0, .slice none 0 0, .slice none 0 0, .bool false] 83 (0, 0))) := hTn2.out
  clear hb2 hTn2 hxw2 hs2 hZ2 hT2
  rw [rounds_succ]
  have q0 := cell_of_row _ _ 0 _ _ _ HZ.out
  have q1 := cell_of_row _ _ 1 _ _ _ HZ.out
  have q2 := cell_of_row _ _ 2 _ _ _ HZ.out
  have q3 := cell_of_row _ _ 3 _ _ _ HZ.out
  go_wp2_with (refine wpList_store_whole 83 (.tmp 0) (.tmp 17) rfl rfl w.heap.size rfl #[.slice (some ⟨a0, 0, none⟩) 1 1, .slice (some ⟨a1, 0, none⟩) 1 1, .slice (some ⟨a2, 0, none⟩) 1 1, .bool true] rfl _ 83 HT.out rfl info83s (by simp [Value.oneCell']) ?_)
  have hq := setRow_heap _ _ _ #[.slice (some ⟨a0, 0, none⟩) 1 1, .slice (some ⟨a1, 0, none⟩) 1 1, .slice (some ⟨a2, 0, none⟩) 1 1, .bool true] _ _ HT.out
  have g0 := cell_of_row _ _ 0 _ _ _ hq
  have g1 := cell_of_row _ _ 1 _ _ _ hq
  have g2 := cell_of_row _ _ 2 _ _ _ hq
  have g3 := cell_of_row _ _ 3 _ _ _ hq
  refine bodyPost_ret (v := .agg #[.slice (some ⟨a0, 0, none⟩) 1 1, .slice (some ⟨a1, 0, none⟩) 1 1, .slice (some ⟨a2, 0, none⟩) 1 1, .bool true]) (by simp [results, Tryz.results78, go_sem, g0, g1, g2, g3]) rfl ⟨_, rfl, ?_, hx0.setRow (Nat.le_refl _) _⟩
  rw [hall.out]
  exact RgR.of (r := ⟨[⟨f1, endC⟩], [⟨f2, endC⟩], [⟨f3, endC⟩], true⟩) (spr_setRow hp0.out HT.out (by simp)) (spr_setRow hp1.out HT.out (by simp)) (spr_setRow hp2.out HT.out (by simp))
end Go.Proofs.YtabegbelkfhbcaaGreat

namespace Go.Proofs.YtabegbelkfhbcaaGreat
open Go.RowKit Go.Sort

theorem own_sp (w : World) (base : Nat) (l : List Sp) (C : Array Value) (hC : C = (l.flatMap spC).toArray) (hb : base ≤ w.heap.size) (hm : l.length ≤ maxLen) : (w.alloc (.cells C 115)).ownsRow base 115 4 (.slice (some ⟨w.heap.size, 0, none⟩) l.length l.length) l.length (l.flatMap spC) := by
  subst hC
  exact World.ownsRow_lit w (l.flatMap spC).toArray l.length hb hm (by simp only [List.size_toArray]; exact flat_len spC 4 spC_len l)
def Fact.ownSp (b : Nat) (l : List Sp) : Fact := ⟨fun v w => w.ownsRow b 115 4 v l.length (l.flatMap spC), fun _ _ _ hx h => own_ext h hx⟩
theorem full_not (l : List Sp) : (l.filter fun x => !(!Cut.lt x.lo x.hi)) = fullS l := by
  unfold fullS; congr 1; funext x; exact Bool.not_not _
theorem delete_full (w W : World) (u : Value) (l : List Sp) (hx : Ext w W) (ho : W.ownsRow w.heap.size 115 4 u l.length (l.flatMap spC)) (hl : l.length ≤ 2) :
    Calls Tryz.prog 151 #[u, .func (.func 152) #[] #[]] W fun e w' => ∃ u', e = .returned u' ∧ SpR w' u' (fullS l) ∧ Ext w w' := by
  refine (deleteSp_any W w.heap.size u l ho (by omega) 152 #[] (fun x => !Cut.lt x.lo x.hi) ent133 fun W' x _ _ => full133_any W' x).mono ?_
  rintro e w' ⟨u', rfl, h1, h2⟩
  rw [full_not] at h1
  exact ⟨u', rfl, Row.of_own h1, hx.grown_none h2 (own_base ho)⟩

set_option maxRecDepth 100000 in
set_option maxHeartbeats 8000000 in
theorem of_2 (w : World) (nm : ByteArray) (v : V) (sa : Option Addr) (sn sc : Nat) (hn : okN v.n) (hs : v.s.length ≤ 140737488355328) :
    Calls Tryz.prog 130 #[.agg #[.string nm, .int .i64 2, .int .i64 v.k, .int .i64 v.n, .string (strOf v.s), .bool v.b, .slice sa sn sc]] w fun e w' => ∃ u, e = .returned u ∧ SpR w' u (ofL ⟨[], 2, v, []⟩) ∧ Ext w w' := by
  have hres : ofL ⟨[], 2, v, []⟩ = fullS [⟨(aroundV v).1, (aroundV v).2⟩] := rfl
  obtain ⟨hx0, hC⟩ := boxes1 w (.cells #[.string nm, .int .i64 2, .int .i64 v.k, .int .i64 v.n, .string (strOf v.s), .bool v.b, .slice sa sn sc] 53)
  have har := fun W => around_any W v hn hs
  have hfi := fun W => first_any W v.k
  have hfe := firstC_e v.k
  have hD := fun W u l => delete_full w W u l
  have HRES := Lib.hid hres
  have HAR := Lib.hid har
  have HFI := Lib.hid hfi
  have HFE := Lib.hid hfe
  have HD := Lib.hid hD
  clear hres har hfi hfe hD hn hs
  generalize aroundV v = cu at *
  generalize hvk : firstC v.k = fc at *
  clear hvk
  have HCE : Hid ((#[.string (strOf cu.1.a), .bool cu.1.e, .string (strOf cu.2.a), .bool cu.2.e] : Array Value) = (([⟨cu.1, cu.2⟩] : List Sp).flatMap spC).toArray) := by
    show _ = _
    simp only [List.flatMap_cons, List.flatMap_nil, spC]
    rfl
  have c1 := cell_of_row _ _ 1 _ _ _ hC
  have c2 := cell_of_row _ _ 2 _ _ _ hC
  have c3 := cell_of_row _ _ 3 _ _ _ hC
  have c4 := cell_of_row _ _ 4 _ _ _ hC
  have c5 := cell_of_row _ _ 5 _ _ _ hC
  clear hC
  go_enter Tryz.func130, Tryz.ntmps130
  go_wp2_with fail
  refine (HAR.out _).mono ?_
  rintro e y1 ⟨rfl, hy1⟩
  obtain ⟨hxb, hA, hB⟩ := boxes2 y1 (.cells #[.string (strOf cu.1.a), .bool cu.1.e] 113) (.cells #[.string (strOf cu.2.a), .bool cu.2.e] 113)
  have hxy := hy1.trans hxb
  have c1 := hxy.cell c1
  have c2 := hxy.cell c2
  have c4 := hxy.cell c4
  have hxw := hx0.trans hxy
  have HA := Lib.hid hA
  have HB := Lib.hid hB
  clear hA hB hxb hxy hy1 hx0 c3 c5
  go_wp2_with fail
  generalize (y1.alloc (.cells #[.string (strOf cu.1.a), .bool cu.1.e] 113)).alloc (.cells #[.string (strOf cu.2.a), .bool cu.2.e] 113) = y2 at *
  refine (HFI.out _).mono ?_
  rintro e y3 ⟨rfl, hy3⟩
  obtain ⟨hxd, hDb⟩ := boxes1 y3 (.cells #[.string (strOf fc.a), .bool false] 113)
  have hxy := hy3.trans hxd
  have c1 := hxy.cell c1
  have c4 := hxy.cell c4
  have hA := block_later HA.out hxy
  have hB := block_later HB.out hxy
  have hxw := hxw.trans hxy
  have a0 := cell_of_row _ _ 0 _ _ _ hA
  have a1 := cell_of_row _ _ 1 _ _ _ hA
  have b0 := cell_of_row _ _ 0 _ _ _ hB
  have b1 := cell_of_row _ _ 1 _ _ _ hB
  have d0 := cell_of_row _ _ 0 _ _ _ hDb
  have e1 := cell_of_row _ _ 1 _ _ _ hDb
  clear hA hB hDb hxd hxy hy3 HA HB HAR HFI c2
  have hy4 : Ext w (y3.alloc (.cells #[.string (strOf fc.a), .bool false] 113)) := hxw
  have hcall := HD.out ((y3.alloc (.cells #[.string (strOf fc.a), .bool false] 113)).alloc (.cells #[.string (strOf cu.1.a), .bool cu.1.e, .string (strOf cu.2.a), .bool cu.2.e] 115)) _ [⟨cu.1, cu.2⟩] (hy4.alloc _) (own_sp _ w.heap.size _ _ HCE.out hy4.size (by simp [maxLen])) (by simp)
  rw [World.size_alloc] at hcall
  have HCALL := Lib.hid hcall
  clear hcall
  go_wp2_with fail
  refine HCALL.out.mono ?_
  rintro e w5 ⟨u, rfl, h1, h2⟩
  go_wp2_with fail
  go_ret
  exact ⟨u, rfl, by rw [HRES.out]; exact h1, h2⟩

set_option maxRecDepth 100000 in
set_option maxHeartbeats 8000000 in
theorem of_3 (w : World) (nm : ByteArray) (v : V) (sa : Option Addr) (sn sc : Nat) (hn : okN v.n) (hs : v.s.length ≤ 140737488355328) :
    Calls Tryz.prog 130 #[.agg #[.string nm, .int .i64 3, .int .i64 v.k, .int .i64 v.n, .string (strOf v.s), .bool v.b, .slice sa sn sc]] w fun e w' => ∃ u, e = .returned u ∧ SpR w' u (ofL ⟨[], 3, v, []⟩) ∧ Ext w w' := by
  have hres : ofL ⟨[], 3, v, []⟩ = fullS [⟨firstC v.k, (aroundV v).1⟩, ⟨(aroundV v).2, endC⟩] := rfl
  obtain ⟨hx0, hC⟩ := boxes1 w (.cells #[.string nm, .int .i64 3, .int .i64 v.k, .int .i64 v.n, .string (strOf v.s), .bool v.b, .slice sa sn sc] 53)
  have har := fun W => around_any W v hn hs
  have hfi := fun W => first_any W v.k
  have hfe := firstC_e v.k
  have hD := fun W u l => delete_full w W u l
  have HRES := Lib.hid hres
  have HAR := Lib.hid har
  have HFI := Lib.hid hfi
  have HFE := Lib.hid hfe
  have HD := Lib.hid hD
  clear hres har hfi hfe hD hn hs
  generalize aroundV v = cu at *
  generalize hvk : firstC v.k = fc at *
  clear hvk
  have HCE : Hid ((#[.string (strOf fc.a), .bool false, .string (strOf cu.1.a), .bool cu.1.e, .string (strOf cu.2.a), .bool cu.2.e, .string ⟨#[]⟩, .bool true] : Array Value) = (([⟨fc, cu.1⟩, ⟨cu.2, endC⟩] : List Sp).flatMap spC).toArray) := by
    show _ = _
    simp only [List.flatMap_cons, List.flatMap_nil, spC, HFE.out]
    rfl
  have c1 := cell_of_row _ _ 1 _ _ _ hC
  have c2 := cell_of_row _ _ 2 _ _ _ hC
  have c3 := cell_of_row _ _ 3 _ _ _ hC
  have c4 := cell_of_row _ _ 4 _ _ _ hC
  have c5 := cell_of_row _ _ 5 _ _ _ hC
  clear hC
  go_enter Tryz.func130, Tryz.ntmps130
  go_wp2_with fail
  refine (HAR.out _).mono ?_
  rintro e y1 ⟨rfl, hy1⟩
  obtain ⟨hxb, hA, hB⟩ := boxes2 y1 (.cells #[.string (strOf cu.1.a), .bool cu.1.e] 113) (.cells #[.string (strOf cu.2.a), .bool cu.2.e] 113)
  have hxy := hy1.trans hxb
  have c1 := hxy.cell c1
  have c2 := hxy.cell c2
  have c4 := hxy.cell c4
  have hxw := hx0.trans hxy
  have HA := Lib.hid hA
  have HB := Lib.hid hB
  clear hA hB hxb hxy hy1 hx0 c3 c5
  go_wp2_with fail
  generalize (y1.alloc (.cells #[.string (strOf cu.1.a), .bool cu.1.e] 113)).alloc (.cells #[.string (strOf cu.2.a), .bool cu.2.e] 113) = y2 at *
  refine (HFI.out _).mono ?_
  rintro e y3 ⟨rfl, hy3⟩
  obtain ⟨hxd, hDb⟩ := boxes1 y3 (.cells #[.string (strOf fc.a), .bool false] 113)
  have hxy := hy3.trans hxd
  have c1 := hxy.cell c1
  have c4 := hxy.cell c4
  have hA := block_later HA.out hxy
  have hB := block_later HB.out hxy
  have hxw := hxw.trans hxy
  have a0 := cell_of_row _ _ 0 _ _ _ hA
  have a1 := cell_of_row _ _ 1 _ _ _ hA
  have b0 := cell_of_row _ _ 0 _ _ _ hB
  have b1 := cell_of_row _ _ 1 _ _ _ hB
  have d0 := cell_of_row _ _ 0 _ _ _ hDb
  have e1 := cell_of_row _ _ 1 _ _ _ hDb
  clear hA hB hDb hxd hxy hy3 HA HB HAR HFI c2
  go_upto_region 8 with fail
  generalize y3.alloc (.cells #[.string (strOf fc.a), .bool false] 113) = y4 at *
  refine wp_region_facts [Fact.eq (.agg #[.string (strOf fc.a), .bool false]),
      Fact.eq (.agg #[.string (strOf cu.1.a), .bool cu.1.e]),
      Fact.eq (.agg #[.string (strOf fc.a), .bool false, .string (strOf cu.1.a), .bool cu.1.e]),
      Fact.eq (.agg #[.string (strOf cu.2.a), .bool cu.2.e]),
      Fact.eq (.agg #[.string ⟨#[]⟩, .bool true]),
      Fact.eq (.agg #[.string (strOf cu.2.a), .bool cu.2.e, .string ⟨#[]⟩, .bool true]),
      Fact.ownSp w.heap.size [⟨fc, cu.1⟩, ⟨cu.2, endC⟩],
      Fact.ownSp w.heap.size [⟨fc, cu.1⟩, ⟨cu.2, endC⟩]]
    [[], [], [(0, 27), (1, 28)], [], [], [(3, 30), (4, 31)], [(2, 29), (5, 32)], [(6, 33)]]
    [(0, 27), (1, 28), (2, 29), (3, 30), (4, 31), (5, 32), (6, 33), (7, 6)] (by kernel_rfl) (by kernel_rfl) ?_ ?_
  · refine ⟨?_, ?_, ?_, ?_, ?_, ?_, ?_, ?_, trivial⟩
    · intro w1 hx1; change wpList _ _ _ _ _ _; have m0 := hx1.cell d0; have m1 := hx1.cell e1; go_wp2_with fail; exact ⟨rfl, Ext.refl _, rfl, rfl⟩
    · intro w1 hx1; change wpList _ _ _ _ _ _; have m0 := hx1.cell a0; have m1 := hx1.cell a1; go_wp2_with fail; exact ⟨rfl, Ext.refl _, rfl, rfl⟩
    · intro w1 hx1; rintro _ rfl; rintro _ rfl; change wpList _ _ _ _ _ _; go_wp2_with fail; exact ⟨rfl, Ext.refl _, rfl, rfl⟩
    · intro w1 hx1; change wpList _ _ _ _ _ _; have m0 := hx1.cell b0; have m1 := hx1.cell b1; go_wp2_with fail; exact ⟨rfl, Ext.refl _, rfl, rfl⟩
    · intro w1 hx1; change wpList _ _ _ _ _ _; go_wp2_with fail; refine (end_any w1).mono ?_; rintro e w2 ⟨rfl, hx2⟩; go_wp2_with fail; exact ⟨rfl, hx2, rfl, rfl⟩
    · intro w1 hx1; rintro _ rfl; rintro _ rfl; change wpList _ _ _ _ _ _; go_wp2_with fail; exact ⟨rfl, Ext.refl _, rfl, rfl⟩
    · intro w1 hx1; rintro _ rfl; rintro _ rfl; change wpList _ _ _ _ _ _; go_wp2_with fail; exact ⟨rfl, (Ext.refl _).alloc _, rfl, own_sp w1 _ _ _ HCE.out (hxw.trans hx1).size (by simp [maxLen])⟩
    · intro w1 hx1; intro v33 h33; change wpList _ _ _ _ _ _; exact ob_assign rfl rfl rfl rfl h33
  · intro w1 hx1; rintro _ rfl; rintro _ rfl; rintro _ rfl; rintro _ rfl; rintro _ rfl; rintro _ rfl; intro v33 h33; intro v6 h6; refine depsThen_nil ?_; dsimp only; simp only [Act.put, List.setIfInBounds_toArray, List.set_cons_zero, List.set_cons_succ]
    replace h33 : (Fact.ownSp w.heap.size [⟨fc, cu.1⟩, ⟨cu.2, endC⟩]).p v33 w1 := h33
    replace h6 : (Fact.ownSp w.heap.size [⟨fc, cu.1⟩, ⟨cu.2, endC⟩]).p v6 w1 := h6
    have ho : w1.ownsRow w.heap.size 115 4 v6 ([⟨fc, cu.1⟩, ⟨cu.2, endC⟩] : List Sp).length (([⟨fc, cu.1⟩, ⟨cu.2, endC⟩] : List Sp).flatMap spC) := h6
    obtain ⟨aa, cc, rfl, _, _⟩ := Row.shape (Row.of_own ho)
    have hcall := HD.out w1 _ [⟨fc, cu.1⟩, ⟨cu.2, endC⟩] (hxw.trans hx1) ho (by simp)
    have HCALL := Lib.hid hcall
    clear hcall ho h6 h33
    go_wp2_with fail
    refine HCALL.out.mono ?_
    rintro e w5 ⟨u, rfl, h1, h2⟩
    go_wp2_with fail
    go_ret
    exact ⟨u, rfl, by rw [HRES.out]; exact h1, h2⟩

set_option maxRecDepth 100000 in
set_option maxHeartbeats 8000000 in
theorem of_4 (w : World) (nm : ByteArray) (v : V) (sa : Option Addr) (sn sc : Nat) (hn : okN v.n) (hs : v.s.length ≤ 140737488355328) :
    Calls Tryz.prog 130 #[.agg #[.string nm, .int .i64 4, .int .i64 v.k, .int .i64 v.n, .string (strOf v.s), .bool v.b, .slice sa sn sc]] w fun e w' => ∃ u, e = .returned u ∧ SpR w' u (ofL ⟨[], 4, v, []⟩) ∧ Ext w w' := by
  have hres : ofL ⟨[], 4, v, []⟩ = fullS [⟨firstC v.k, (aroundV v).1⟩] := rfl
  obtain ⟨hx0, hC⟩ := boxes1 w (.cells #[.string nm, .int .i64 4, .int .i64 v.k, .int .i64 v.n, .string (strOf v.s), .bool v.b, .slice sa sn sc] 53)
  have har := fun W => around_any W v hn hs
  have hfi := fun W => first_any W v.k
  have hfe := firstC_e v.k
  have hD := fun W u l => delete_full w W u l
  have HRES := Lib.hid hres
  have HAR := Lib.hid har
  have HFI := Lib.hid hfi
  have HFE := Lib.hid hfe
  have HD := Lib.hid hD
  clear hres har hfi hfe hD hn hs
  generalize aroundV v = cu at *
  generalize hvk : firstC v.k = fc at *
  clear hvk
  have HCE : Hid ((#[.string (strOf fc.a), .bool false, .string (strOf cu.1.a), .bool cu.1.e] : Array Value) = (([⟨fc, cu.1⟩] : List Sp).flatMap spC).toArray) := by
    show _ = _
    simp only [List.flatMap_cons, List.flatMap_nil, spC, HFE.out]
    rfl
  have c1 := cell_of_row _ _ 1 _ _ _ hC
  have c2 := cell_of_row _ _ 2 _ _ _ hC
  have c3 := cell_of_row _ _ 3 _ _ _ hC
  have c4 := cell_of_row _ _ 4 _ _ _ hC
  have c5 := cell_of_row _ _ 5 _ _ _ hC
  clear hC
  go_enter Tryz.func130, Tryz.ntmps130
  go_wp2_with fail
  refine (HAR.out _).mono ?_
  rintro e y1 ⟨rfl, hy1⟩
  obtain ⟨hxb, hA, hB⟩ := boxes2 y1 (.cells #[.string (strOf cu.1.a), .bool cu.1.e] 113) (.cells #[.string (strOf cu.2.a), .bool cu.2.e] 113)
  have hxy := hy1.trans hxb
  have c1 := hxy.cell c1
  have c2 := hxy.cell c2
  have c4 := hxy.cell c4
  have hxw := hx0.trans hxy
  have HA := Lib.hid hA
  have HB := Lib.hid hB
  clear hA hB hxb hxy hy1 hx0 c3 c5
  go_wp2_with fail
  generalize (y1.alloc (.cells #[.string (strOf cu.1.a), .bool cu.1.e] 113)).alloc (.cells #[.string (strOf cu.2.a), .bool cu.2.e] 113) = y2 at *
  refine (HFI.out _).mono ?_
  rintro e y3 ⟨rfl, hy3⟩
  obtain ⟨hxd, hDb⟩ := boxes1 y3 (.cells #[.string (strOf fc.a), .bool false] 113)
  have hxy := hy3.trans hxd
  have c1 := hxy.cell c1
  have c4 := hxy.cell c4
  have hA := block_later HA.out hxy
  have hB := block_later HB.out hxy
  have hxw := hxw.trans hxy
  have a0 := cell_of_row _ _ 0 _ _ _ hA
  have a1 := cell_of_row _ _ 1 _ _ _ hA
  have b0 := cell_of_row _ _ 0 _ _ _ hB
  have b1 := cell_of_row _ _ 1 _ _ _ hB
  have d0 := cell_of_row _ _ 0 _ _ _ hDb
  have e1 := cell_of_row _ _ 1 _ _ _ hDb
  clear hA hB hDb hxd hxy hy3 HA HB HAR HFI c2
  have hy4 : Ext w (y3.alloc (.cells #[.string (strOf fc.a), .bool false] 113)) := hxw
  have hcall := HD.out ((y3.alloc (.cells #[.string (strOf fc.a), .bool false] 113)).alloc (.cells #[.string (strOf fc.a), .bool false, .string (strOf cu.1.a), .bool cu.1.e] 115)) _ [⟨fc, cu.1⟩] (hy4.alloc _) (own_sp _ w.heap.size _ _ HCE.out hy4.size (by simp [maxLen])) (by simp)
  rw [World.size_alloc] at hcall
  have HCALL := Lib.hid hcall
  clear hcall
  go_wp2_with fail
  refine HCALL.out.mono ?_
  rintro e w5 ⟨u, rfl, h1, h2⟩
  go_wp2_with fail
  go_ret
  exact ⟨u, rfl, by rw [HRES.out]; exact h1, h2⟩

set_option maxRecDepth 100000 in
set_option maxHeartbeats 8000000 in
theorem of_5 (w : World) (nm : ByteArray) (v : V) (sa : Option Addr) (sn sc : Nat) (hn : okN v.n) (hs : v.s.length ≤ 140737488355328) :
    Calls Tryz.prog 130 #[.agg #[.string nm, .int .i64 5, .int .i64 v.k, .int .i64 v.n, .string (strOf v.s), .bool v.b, .slice sa sn sc]] w fun e w' => ∃ u, e = .returned u ∧ SpR w' u (ofL ⟨[], 5, v, []⟩) ∧ Ext w w' := by
  have hres : ofL ⟨[], 5, v, []⟩ = fullS [⟨firstC v.k, (aroundV v).2⟩] := rfl
  obtain ⟨hx0, hC⟩ := boxes1 w (.cells #[.string nm, .int .i64 5, .int .i64 v.k, .int .i64 v.n, .string (strOf v.s), .bool v.b, .slice sa sn sc] 53)
  have har := fun W => around_any W v hn hs
  have hfi := fun W => first_any W v.k
  have hfe := firstC_e v.k
  have hD := fun W u l => delete_full w W u l
  have HRES := Lib.hid hres
  have HAR := Lib.hid har
  have HFI := Lib.hid hfi
  have HFE := Lib.hid hfe
  have HD := Lib.hid hD
  clear hres har hfi hfe hD hn hs
  generalize aroundV v = cu at *
  generalize hvk : firstC v.k = fc at *
  clear hvk
  have HCE : Hid ((#[.string (strOf fc.a), .bool false, .string (strOf cu.2.a), .bool cu.2.e] : Array Value) = (([⟨fc, cu.2⟩] : List Sp).flatMap spC).toArray) := by
    show _ = _
    simp only [List.flatMap_cons, List.flatMap_nil, spC, HFE.out]
    rfl
  have c1 := cell_of_row _ _ 1 _ _ _ hC
  have c2 := cell_of_row _ _ 2 _ _ _ hC
  have c3 := cell_of_row _ _ 3 _ _ _ hC
  have c4 := cell_of_row _ _ 4 _ _ _ hC
  have c5 := cell_of_row _ _ 5 _ _ _ hC
  clear hC
  go_enter Tryz.func130, Tryz.ntmps130
  go_wp2_with fail
  refine (HAR.out _).mono ?_
  rintro e y1 ⟨rfl, hy1⟩
  obtain ⟨hxb, hA, hB⟩ := boxes2 y1 (.cells #[.string (strOf cu.1.a), .bool cu.1.e] 113) (.cells #[.string (strOf cu.2.a), .bool cu.2.e] 113)
  have hxy := hy1.trans hxb
  have c1 := hxy.cell c1
  have c2 := hxy.cell c2
  have c4 := hxy.cell c4
  have hxw := hx0.trans hxy
  have HA := Lib.hid hA
  have HB := Lib.hid hB
  clear hA hB hxb hxy hy1 hx0 c3 c5
  go_wp2_with fail
  generalize (y1.alloc (.cells #[.string (strOf cu.1.a), .bool cu.1.e] 113)).alloc (.cells #[.string (strOf cu.2.a), .bool cu.2.e] 113) = y2 at *
  refine (HFI.out _).mono ?_
  rintro e y3 ⟨rfl, hy3⟩
  obtain ⟨hxd, hDb⟩ := boxes1 y3 (.cells #[.string (strOf fc.a), .bool false] 113)
  have hxy := hy3.trans hxd
  have c1 := hxy.cell c1
  have c4 := hxy.cell c4
  have hA := block_later HA.out hxy
  have hB := block_later HB.out hxy
  have hxw := hxw.trans hxy
  have a0 := cell_of_row _ _ 0 _ _ _ hA
  have a1 := cell_of_row _ _ 1 _ _ _ hA
  have b0 := cell_of_row _ _ 0 _ _ _ hB
  have b1 := cell_of_row _ _ 1 _ _ _ hB
  have d0 := cell_of_row _ _ 0 _ _ _ hDb
  have e1 := cell_of_row _ _ 1 _ _ _ hDb
  clear hA hB hDb hxd hxy hy3 HA HB HAR HFI c2
  have hy4 : Ext w (y3.alloc (.cells #[.string (strOf fc.a), .bool false] 113)) := hxw
  have hcall := HD.out ((y3.alloc (.cells #[.string (strOf fc.a), .bool false] 113)).alloc (.cells #[.string (strOf fc.a), .bool false, .string (strOf cu.2.a), .bool cu.2.e] 115)) _ [⟨fc, cu.2⟩] (hy4.alloc _) (own_sp _ w.heap.size _ _ HCE.out hy4.size (by simp [maxLen])) (by simp)
  rw [World.size_alloc] at hcall
  have HCALL := Lib.hid hcall
  clear hcall
  go_wp2_with fail
  refine HCALL.out.mono ?_
  rintro e w5 ⟨u, rfl, h1, h2⟩
  go_wp2_with fail
  go_ret
  exact ⟨u, rfl, by rw [HRES.out]; exact h1, h2⟩

set_option maxRecDepth 100000 in
set_option maxHeartbeats 8000000 in
theorem of_6 (w : World) (nm : ByteArray) (v : V) (sa : Option Addr) (sn sc : Nat) (hn : okN v.n) (hs : v.s.length ≤ 140737488355328) :
    Calls Tryz.prog 130 #[.agg #[.string nm, .int .i64 6, .int .i64 v.k, .int .i64 v.n, .string (strOf v.s), .bool v.b, .slice sa sn sc]] w fun e w' => ∃ u, e = .returned u ∧ SpR w' u (ofL ⟨[], 6, v, []⟩) ∧ Ext w w' := by
  have hres : ofL ⟨[], 6, v, []⟩ = fullS [⟨(aroundV v).2, endC⟩] := rfl
  obtain ⟨hx0, hC⟩ := boxes1 w (.cells #[.string nm, .int .i64 6, .int .i64 v.k, .int .i64 v.n, .string (strOf v.s), .bool v.b, .slice sa sn sc] 53)
  have har := fun W => around_any W v hn hs
  have hfi := fun W => first_any W v.k
  have hfe := firstC_e v.k
  have hD := fun W u l => delete_full w W u l
  have HRES := Lib.hid hres
  have HAR := Lib.hid har
  have HFI := Lib.hid hfi
  have HFE := Lib.hid hfe
  have HD := Lib.hid hD
  clear hres har hfi hfe hD hn hs
  generalize aroundV v = cu at *
  generalize hvk : firstC v.k = fc at *
  clear hvk
  have HCE : Hid ((#[.string (strOf cu.2.a), .bool cu.2.e, .string ⟨#[]⟩, .bool true] : Array Value) = (([⟨cu.2, endC⟩] : List Sp).flatMap spC).toArray) := by
    show _ = _
    simp only [List.flatMap_cons, List.flatMap_nil, spC]
    rfl
  have c1 := cell_of_row _ _ 1 _ _ _ hC
  have c2 := cell_of_row _ _ 2 _ _ _ hC
  have c3 := cell_of_row _ _ 3 _ _ _ hC
  have c4 := cell_of_row _ _ 4 _ _ _ hC
  have c5 := cell_of_row _ _ 5 _ _ _ hC
  clear hC
  go_enter Tryz.func130, Tryz.ntmps130
  go_wp2_with fail
  refine (HAR.out _).mono ?_
  rintro e y1 ⟨rfl, hy1⟩
  obtain ⟨hxb, hA, hB⟩ := boxes2 y1 (.cells #[.string (strOf cu.1.a), .bool cu.1.e] 113) (.cells #[.string (strOf cu.2.a), .bool cu.2.e] 113)
  have hxy := hy1.trans hxb
  have c1 := hxy.cell c1
  have c2 := hxy.cell c2
  have c4 := hxy.cell c4
  have hxw := hx0.trans hxy
  have HA := Lib.hid hA
  have HB := Lib.hid hB
  clear hA hB hxb hxy hy1 hx0 c3 c5
  go_wp2_with fail
  generalize (y1.alloc (.cells #[.string (strOf cu.1.a), .bool cu.1.e] 113)).alloc (.cells #[.string (strOf cu.2.a), .bool cu.2.e] 113) = y2 at *
  refine (HFI.out _).mono ?_
  rintro e y3 ⟨rfl, hy3⟩
  obtain ⟨hxd, hDb⟩ := boxes1 y3 (.cells #[.string (strOf fc.a), .bool false] 113)
  have hxy := hy3.trans hxd
  have c1 := hxy.cell c1
  have c4 := hxy.cell c4
  have hA := block_later HA.out hxy
  have hB := block_later HB.out hxy
  have hxw := hxw.trans hxy
  have a0 := cell_of_row _ _ 0 _ _ _ hA
  have a1 := cell_of_row _ _ 1 _ _ _ hA
  have b0 := cell_of_row _ _ 0 _ _ _ hB
  have b1 := cell_of_row _ _ 1 _ _ _ hB
  have d0 := cell_of_row _ _ 0 _ _ _ hDb
  have e1 := cell_of_row _ _ 1 _ _ _ hDb
  clear hA hB hDb hxd hxy hy3 HA HB HAR HFI c2
  go_upto_region 14 with fail
  generalize y3.alloc (.cells #[.string (strOf fc.a), .bool false] 113) = y4 at *
  refine wp_region_facts [Fact.eq (.agg #[.string (strOf cu.2.a), .bool cu.2.e]),
      Fact.eq (.agg #[.string ⟨#[]⟩, .bool true]),
      Fact.eq (.agg #[.string (strOf cu.2.a), .bool cu.2.e, .string ⟨#[]⟩, .bool true]),
      Fact.ownSp w.heap.size [⟨cu.2, endC⟩],
      Fact.ownSp w.heap.size [⟨cu.2, endC⟩]]
    [[], [], [(0, 48), (1, 49)], [(2, 50)], [(3, 51)]]
    [(0, 48), (1, 49), (2, 50), (3, 51), (4, 6)] (by kernel_rfl) (by kernel_rfl) ?_ ?_
  · refine ⟨?_, ?_, ?_, ?_, ?_, trivial⟩
    · intro w1 hx1; change wpList _ _ _ _ _ _; have m0 := hx1.cell b0; have m1 := hx1.cell b1; go_wp2_with fail; exact ⟨rfl, Ext.refl _, rfl, rfl⟩
    · intro w1 hx1; change wpList _ _ _ _ _ _; go_wp2_with fail; refine (end_any w1).mono ?_; rintro e w2 ⟨rfl, hx2⟩; go_wp2_with fail; exact ⟨rfl, hx2, rfl, rfl⟩
    · intro w1 hx1; rintro _ rfl; rintro _ rfl; change wpList _ _ _ _ _ _; go_wp2_with fail; exact ⟨rfl, Ext.refl _, rfl, rfl⟩
    · intro w1 hx1; rintro _ rfl; change wpList _ _ _ _ _ _; go_wp2_with fail; exact ⟨rfl, (Ext.refl _).alloc _, rfl, own_sp w1 _ _ _ HCE.out (hxw.trans hx1).size (by simp [maxLen])⟩
    · intro w1 hx1; intro v51 h51; change wpList _ _ _ _ _ _; exact ob_assign rfl rfl rfl rfl h51
  · intro w1 hx1; rintro _ rfl; rintro _ rfl; rintro _ rfl; intro v51 h51; intro v6 h6; refine depsThen_nil ?_; dsimp only; simp only [Act.put, List.setIfInBounds_toArray, List.set_cons_zero, List.set_cons_succ]
    replace h51 : (Fact.ownSp w.heap.size [⟨cu.2, endC⟩]).p v51 w1 := h51
    replace h6 : (Fact.ownSp w.heap.size [⟨cu.2, endC⟩]).p v6 w1 := h6
    have ho : w1.ownsRow w.heap.size 115 4 v6 ([⟨cu.2, endC⟩] : List Sp).length (([⟨cu.2, endC⟩] : List Sp).flatMap spC) := h6
    obtain ⟨aa, cc, rfl, _, _⟩ := Row.shape (Row.of_own ho)
    have hcall := HD.out w1 _ [⟨cu.2, endC⟩] (hxw.trans hx1) ho (by simp)
    have HCALL := Lib.hid hcall
    clear hcall ho h6 h51
    go_wp2_with fail
    refine HCALL.out.mono ?_
    rintro e w5 ⟨u, rfl, h1, h2⟩
    go_wp2_with fail
    go_ret
    exact ⟨u, rfl, by rw [HRES.out]; exact h1, h2⟩

set_option maxRecDepth 100000 in
set_option maxHeartbeats 8000000 in
theorem of_7 (w : World) (nm : ByteArray) (v : V) (sa : Option Addr) (sn sc : Nat) (hn : okN v.n) (hs : v.s.length ≤ 140737488355328) :
    Calls Tryz.prog 130 #[.agg #[.string nm, .int .i64 7, .int .i64 v.k, .int .i64 v.n, .string (strOf v.s), .bool v.b, .slice sa sn sc]] w fun e w' => ∃ u, e = .returned u ∧ SpR w' u (ofL ⟨[], 7, v, []⟩) ∧ Ext w w' := by
  have hres : ofL ⟨[], 7, v, []⟩ = fullS [⟨(aroundV v).1, endC⟩] := rfl
  obtain ⟨hx0, hC⟩ := boxes1 w (.cells #[.string nm, .int .i64 7, .int .i64 v.k, .int .i64 v.n, .string (strOf v.s), .bool v.b, .slice sa sn sc] 53)
  have har := fun W => around_any W v hn hs
  have hfi := fun W => first_any W v.k
  have hfe := firstC_e v.k
  have hD := fun W u l => delete_full w W u l
  have HRES := Lib.hid hres
  have HAR := Lib.hid har
  have HFI := Lib.hid hfi
  have HFE := Lib.hid hfe
  have HD := Lib.hid hD
  clear hres har hfi hfe hD hn hs
  generalize aroundV v = cu at *
  generalize hvk : firstC v.k = fc at *
  clear hvk
  have HCE : Hid ((#[.string (strOf cu.1.a), .bool cu.1.e, .string ⟨#[]⟩, .bool true] : Array Value) = (([⟨cu.1, endC⟩] : List Sp).flatMap spC).toArray) := by
    show _ = _
    simp only [List.flatMap_cons, List.flatMap_nil, spC]
    rfl
  have c1 := cell_of_row _ _ 1 _ _ _ hC
  have c2 := cell_of_row _ _ 2 _ _ _ hC
  have c3 := cell_of_row _ _ 3 _ _ _ hC
  have c4 := cell_of_row _ _ 4 _ _ _ hC
  have c5 := cell_of_row _ _ 5 _ _ _ hC
  clear hC
  go_enter Tryz.func130, Tryz.ntmps130
  go_wp2_with fail
  refine (HAR.out _).mono ?_
  rintro e y1 ⟨rfl, hy1⟩
  obtain ⟨hxb, hA, hB⟩ := boxes2 y1 (.cells #[.string (strOf cu.1.a), .bool cu.1.e] 113) (.cells #[.string (strOf cu.2.a), .bool cu.2.e] 113)
  have hxy := hy1.trans hxb
  have c1 := hxy.cell c1
  have c2 := hxy.cell c2
  have c4 := hxy.cell c4
  have hxw := hx0.trans hxy
  have HA := Lib.hid hA
  have HB := Lib.hid hB
  clear hA hB hxb hxy hy1 hx0 c3 c5
  go_wp2_with fail
  generalize (y1.alloc (.cells #[.string (strOf cu.1.a), .bool cu.1.e] 113)).alloc (.cells #[.string (strOf cu.2.a), .bool cu.2.e] 113) = y2 at *
  refine (HFI.out _).mono ?_
  rintro e y3 ⟨rfl, hy3⟩
  obtain ⟨hxd, hDb⟩ := boxes1 y3 (.cells #[.string (strOf fc.a), .bool false] 113)
  have hxy := hy3.trans hxd
  have c1 := hxy.cell c1
  have c4 := hxy.cell c4
  have hA := block_later HA.out hxy
  have hB := block_later HB.out hxy
  have hxw := hxw.trans hxy
  have a0 := cell_of_row _ _ 0 _ _ _ hA
  have a1 := cell_of_row _ _ 1 _ _ _ hA
  have b0 := cell_of_row _ _ 0 _ _ _ hB
  have b1 := cell_of_row _ _ 1 _ _ _ hB
  have d0 := cell_of_row _ _ 0 _ _ _ hDb
  have e1 := cell_of_row _ _ 1 _ _ _ hDb
  clear hA hB hDb hxd hxy hy3 HA HB HAR HFI c2
  go_upto_region 16 with fail
  generalize y3.alloc (.cells #[.string (strOf fc.a), .bool false] 113) = y4 at *
  refine wp_region_facts [Fact.eq (.agg #[.string (strOf cu.1.a), .bool cu.1.e]),
      Fact.eq (.agg #[.string ⟨#[]⟩, .bool true]),
      Fact.eq (.agg #[.string (strOf cu.1.a), .bool cu.1.e, .string ⟨#[]⟩, .bool true]),
      Fact.ownSp w.heap.size [⟨cu.1, endC⟩],
      Fact.ownSp w.heap.size [⟨cu.1, endC⟩]]
    [[], [], [(0, 54), (1, 55)], [(2, 56)], [(3, 57)]]
    [(0, 54), (1, 55), (2, 56), (3, 57), (4, 6)] (by kernel_rfl) (by kernel_rfl) ?_ ?_
  · refine ⟨?_, ?_, ?_, ?_, ?_, trivial⟩
    · intro w1 hx1; change wpList _ _ _ _ _ _; have m0 := hx1.cell a0; have m1 := hx1.cell a1; go_wp2_with fail; exact ⟨rfl, Ext.refl _, rfl, rfl⟩
    · intro w1 hx1; change wpList _ _ _ _ _ _; go_wp2_with fail; refine (end_any w1).mono ?_; rintro e w2 ⟨rfl, hx2⟩; go_wp2_with fail; exact ⟨rfl, hx2, rfl, rfl⟩
    · intro w1 hx1; rintro _ rfl; rintro _ rfl; change wpList _ _ _ _ _ _; go_wp2_with fail; exact ⟨rfl, Ext.refl _, rfl, rfl⟩
    · intro w1 hx1; rintro _ rfl; change wpList _ _ _ _ _ _; go_wp2_with fail; exact ⟨rfl, (Ext.refl _).alloc _, rfl, own_sp w1 _ _ _ HCE.out (hxw.trans hx1).size (by simp [maxLen])⟩
    · intro w1 hx1; intro v57 h57; change wpList _ _ _ _ _ _; exact ob_assign rfl rfl rfl rfl h57
  · intro w1 hx1; rintro _ rfl; rintro _ rfl; rintro _ rfl; intro v57 h57; intro v6 h6; refine depsThen_nil ?_; dsimp only; simp only [Act.put, List.setIfInBounds_toArray, List.set_cons_zero, List.set_cons_succ]
    replace h57 : (Fact.ownSp w.heap.size [⟨cu.1, endC⟩]).p v57 w1 := h57
    replace h6 : (Fact.ownSp w.heap.size [⟨cu.1, endC⟩]).p v6 w1 := h6
    have ho : w1.ownsRow w.heap.size 115 4 v6 ([⟨cu.1, endC⟩] : List Sp).length (([⟨cu.1, endC⟩] : List Sp).flatMap spC) := h6
    obtain ⟨aa, cc, rfl, _, _⟩ := Row.shape (Row.of_own ho)
    have hcall := HD.out w1 _ [⟨cu.1, endC⟩] (hxw.trans hx1) ho (by simp)
    have HCALL := Lib.hid hcall
    clear hcall ho h6 h57
    go_wp2_with fail
    refine HCALL.out.mono ?_
    rintro e w5 ⟨u, rfl, h1, h2⟩
    go_wp2_with fail
    go_ret
    exact ⟨u, rfl, by rw [HRES.out]; exact h1, h2⟩

set_option maxRecDepth 100000 in
set_option maxHeartbeats 8000000 in
theorem of_8 (w : World) (nm : ByteArray) (v : V) (sa : Option Addr) (sn sc : Nat) (hn : okN v.n) (hs : v.s.length ≤ 140737488355328) :
    Calls Tryz.prog 130 #[.agg #[.string nm, .int .i64 8, .int .i64 v.k, .int .i64 v.n, .string (strOf v.s), .bool v.b, .slice sa sn sc]] w fun e w' => ∃ u, e = .returned u ∧ SpR w' u (ofL ⟨[], 8, v, []⟩) ∧ Ext w w' := by
  have hres : ofL ⟨[], 8, v, []⟩ = fullS [⟨(aroundV v).1, pastF v.s⟩] := rfl
  obtain ⟨hx0, hC⟩ := boxes1 w (.cells #[.string nm, .int .i64 8, .int .i64 v.k, .int .i64 v.n, .string (strOf v.s), .bool v.b, .slice sa sn sc] 53)
  have har := fun W => around_any W v hn hs
  have hfi := fun W => first_any W v.k
  have hfe := firstC_e v.k
  have hD := fun W u l => delete_full w W u l
  have hpa := fun W => past_any W v.s hs
  have HPA := Lib.hid hpa
  clear hpa
  generalize pastF v.s = pc at *
  have HRES := Lib.hid hres
  have HAR := Lib.hid har
  have HFI := Lib.hid hfi
  have HFE := Lib.hid hfe
  have HD := Lib.hid hD
  clear hres har hfi hfe hD hn hs
  generalize aroundV v = cu at *
  generalize hvk : firstC v.k = fc at *
  clear hvk
  have HCE : Hid ((#[.string (strOf cu.1.a), .bool cu.1.e, .string (strOf pc.a), .bool pc.e] : Array Value) = (([⟨cu.1, pc⟩] : List Sp).flatMap spC).toArray) := by
    show _ = _
    simp only [List.flatMap_cons, List.flatMap_nil, spC]
    rfl
  have c1 := cell_of_row _ _ 1 _ _ _ hC
  have c2 := cell_of_row _ _ 2 _ _ _ hC
  have c3 := cell_of_row _ _ 3 _ _ _ hC
  have c4 := cell_of_row _ _ 4 _ _ _ hC
  have c5 := cell_of_row _ _ 5 _ _ _ hC
  clear hC
  go_enter Tryz.func130, Tryz.ntmps130
  go_wp2_with fail
  refine (HAR.out _).mono ?_
  rintro e y1 ⟨rfl, hy1⟩
  obtain ⟨hxb, hA, hB⟩ := boxes2 y1 (.cells #[.string (strOf cu.1.a), .bool cu.1.e] 113) (.cells #[.string (strOf cu.2.a), .bool cu.2.e] 113)
  have hxy := hy1.trans hxb
  have c1 := hxy.cell c1
  have c2 := hxy.cell c2
  have c4 := hxy.cell c4
  have hxw := hx0.trans hxy
  have HA := Lib.hid hA
  have HB := Lib.hid hB
  clear hA hB hxb hxy hy1 hx0 c3 c5
  go_wp2_with fail
  generalize (y1.alloc (.cells #[.string (strOf cu.1.a), .bool cu.1.e] 113)).alloc (.cells #[.string (strOf cu.2.a), .bool cu.2.e] 113) = y2 at *
  refine (HFI.out _).mono ?_
  rintro e y3 ⟨rfl, hy3⟩
  obtain ⟨hxd, hDb⟩ := boxes1 y3 (.cells #[.string (strOf fc.a), .bool false] 113)
  have hxy := hy3.trans hxd
  have c1 := hxy.cell c1
  have c4 := hxy.cell c4
  have hA := block_later HA.out hxy
  have hB := block_later HB.out hxy
  have hxw := hxw.trans hxy
  have a0 := cell_of_row _ _ 0 _ _ _ hA
  have a1 := cell_of_row _ _ 1 _ _ _ hA
  have b0 := cell_of_row _ _ 0 _ _ _ hB
  have b1 := cell_of_row _ _ 1 _ _ _ hB
  have d0 := cell_of_row _ _ 0 _ _ _ hDb
  have e1 := cell_of_row _ _ 1 _ _ _ hDb
  clear hA hB hDb hxd hxy hy3 HA HB HAR HFI c2
  go_upto_region 18 with fail
  generalize y3.alloc (.cells #[.string (strOf fc.a), .bool false] 113) = y4 at *
  refine wp_region_facts [Fact.eq (.agg #[.string (strOf cu.1.a), .bool cu.1.e]),
      Fact.eq (.pointer (some ⟨w.heap.size, 2, none⟩)),
      Fact.eq (.pointer (some ⟨w.heap.size, 4, none⟩)),
      Fact.eq (.string (strOf v.s)),
      Fact.eq (.agg #[.string (strOf pc.a), .bool pc.e]),
      Fact.eq (.agg #[.string (strOf cu.1.a), .bool cu.1.e, .string (strOf pc.a), .bool pc.e]),
      Fact.ownSp w.heap.size [⟨cu.1, pc⟩],
      Fact.ownSp w.heap.size [⟨cu.1, pc⟩]]
    [[], [], [(1, 61)], [(2, 62)], [(3, 63)], [(0, 60), (4, 64)], [(5, 65)], [(6, 66)]]
    [(0, 60), (1, 61), (2, 62), (3, 63), (4, 64), (5, 65), (6, 66), (7, 6)] (by kernel_rfl) (by kernel_rfl) ?_ ?_
  · refine ⟨?_, ?_, ?_, ?_, ?_, ?_, ?_, ?_, trivial⟩
    · intro w1 hx1; change wpList _ _ _ _ _ _; have m0 := hx1.cell a0; have m1 := hx1.cell a1; go_wp2_with fail; exact ⟨rfl, Ext.refl _, rfl, rfl⟩
    · intro w1 hx1; change wpList _ _ _ _ _ _; go_wp2_with fail; exact ⟨rfl, Ext.refl _, rfl, rfl⟩
    · intro w1 hx1; rintro _ rfl; change wpList _ _ _ _ _ _; go_wp2_with fail; exact ⟨rfl, Ext.refl _, rfl, rfl⟩
    · intro w1 hx1; rintro _ rfl; change wpList _ _ _ _ _ _; have m := hx1.cell c4; go_wp2_with fail; exact ⟨rfl, Ext.refl _, rfl, rfl⟩
    · intro w1 hx1; rintro _ rfl; change wpList _ _ _ _ _ _; go_wp2_with fail; refine (HPA.out w1).mono ?_; rintro e w2 ⟨rfl, hx2⟩; go_wp2_with fail; exact ⟨rfl, hx2, rfl, rfl⟩
    · intro w1 hx1; rintro _ rfl; rintro _ rfl; change wpList _ _ _ _ _ _; go_wp2_with fail; exact ⟨rfl, Ext.refl _, rfl, rfl⟩
    · intro w1 hx1; rintro _ rfl; change wpList _ _ _ _ _ _; go_wp2_with fail; exact ⟨rfl, (Ext.refl _).alloc _, rfl, own_sp w1 _ _ _ HCE.out (hxw.trans hx1).size (by simp [maxLen])⟩
    · intro w1 hx1; intro v66 h66; change wpList _ _ _ _ _ _; exact ob_assign rfl rfl rfl rfl h66
  · intro w1 hx1; rintro _ rfl; rintro _ rfl; rintro _ rfl; rintro _ rfl; rintro _ rfl; rintro _ rfl; intro v66 h66; intro v6 h6; refine depsThen_nil ?_; dsimp only; simp only [Act.put, List.setIfInBounds_toArray, List.set_cons_zero, List.set_cons_succ]
    replace h66 : (Fact.ownSp w.heap.size [⟨cu.1, pc⟩]).p v66 w1 := h66
    replace h6 : (Fact.ownSp w.heap.size [⟨cu.1, pc⟩]).p v6 w1 := h6
    have ho : w1.ownsRow w.heap.size 115 4 v6 ([⟨cu.1, pc⟩] : List Sp).length (([⟨cu.1, pc⟩] : List Sp).flatMap spC) := h6
    obtain ⟨aa, cc, rfl, _, _⟩ := Row.shape (Row.of_own ho)
    have hcall := HD.out w1 _ [⟨cu.1, pc⟩] (hxw.trans hx1) ho (by simp)
    have HCALL := Lib.hid hcall
    clear hcall ho h6 h66
    go_wp2_with fail
    refine HCALL.out.mono ?_
    rintro e w5 ⟨u, rfl, h1, h2⟩
    go_wp2_with fail
    go_ret
    exact ⟨u, rfl, by rw [HRES.out]; exact h1, h2⟩

set_option maxRecDepth 100000 in
set_option maxHeartbeats 8000000 in
theorem of_0 (w : World) (nm : ByteArray) (op : Int) (v : V) (sa : Option Addr) (sn sc : Nat) (hn : okN v.n) (hs : v.s.length ≤ 140737488355328) (ho : op < 2 ∨ 8 < op) :
    Calls Tryz.prog 130 #[.agg #[.string nm, .int .i64 op, .int .i64 v.k, .int .i64 v.n, .string (strOf v.s), .bool v.b, .slice sa sn sc]] w fun e w' => ∃ u, e = .returned u ∧ SpR w' u (ofL ⟨[], op, v, []⟩) ∧ Ext w w' := by
  have hres : ofL ⟨[], op, v, []⟩ = fullS [] := by
    unfold ofL
    rw [if_neg (show ¬ op = 2 by omega), if_neg (show ¬ op = 3 by omega), if_neg (show ¬ op = 4 by omega), if_neg (show ¬ op = 5 by omega), if_neg (show ¬ op = 6 by omega), if_neg (show ¬ op = 7 by omega), if_neg (show ¬ op = 8 by omega)]
  have d2 : (op == 2) = false := beq_eq_false_iff_ne.2 (by omega)
  have d3 : (op == 3) = false := beq_eq_false_iff_ne.2 (by omega)
  have d4 : (op == 4) = false := beq_eq_false_iff_ne.2 (by omega)
  have d5 : (op == 5) = false := beq_eq_false_iff_ne.2 (by omega)
  have d6 : (op == 6) = false := beq_eq_false_iff_ne.2 (by omega)
  have d7 : (op == 7) = false := beq_eq_false_iff_ne.2 (by omega)
  have d8 : (op == 8) = false := beq_eq_false_iff_ne.2 (by omega)
  obtain ⟨hx0, hC⟩ := boxes1 w (.cells #[.string nm, .int .i64 op, .int .i64 v.k, .int .i64 v.n, .string (strOf v.s), .bool v.b, .slice sa sn sc] 53)
  have har := fun W => around_any W v hn hs
  have hfi := fun W => first_any W v.k
  have hfe := firstC_e v.k
  have hD := fun W u l => delete_full w W u l
  have HRES := Lib.hid hres
  have HAR := Lib.hid har
  have HFI := Lib.hid hfi
  have HFE := Lib.hid hfe
  have HD := Lib.hid hD
  clear hres har hfi hfe hD hn hs
  generalize aroundV v = cu at *
  generalize hvk : firstC v.k = fc at *
  clear hvk
  clear ho
  have c1 := cell_of_row _ _ 1 _ _ _ hC
  have c2 := cell_of_row _ _ 2 _ _ _ hC
  have c3 := cell_of_row _ _ 3 _ _ _ hC
  have c4 := cell_of_row _ _ 4 _ _ _ hC
  have c5 := cell_of_row _ _ 5 _ _ _ hC
  clear hC
  go_enter Tryz.func130, Tryz.ntmps130
  go_wp2_with fail
  refine (HAR.out _).mono ?_
  rintro e y1 ⟨rfl, hy1⟩
  obtain ⟨hxb, hA, hB⟩ := boxes2 y1 (.cells #[.string (strOf cu.1.a), .bool cu.1.e] 113) (.cells #[.string (strOf cu.2.a), .bool cu.2.e] 113)
  have hxy := hy1.trans hxb
  have c1 := hxy.cell c1
  have c2 := hxy.cell c2
  have c4 := hxy.cell c4
  have hxw := hx0.trans hxy
  have HA := Lib.hid hA
  have HB := Lib.hid hB
  clear hA hB hxb hxy hy1 hx0 c3 c5
  go_wp2_with fail
  generalize (y1.alloc (.cells #[.string (strOf cu.1.a), .bool cu.1.e] 113)).alloc (.cells #[.string (strOf cu.2.a), .bool cu.2.e] 113) = y2 at *
  refine (HFI.out _).mono ?_
  rintro e y3 ⟨rfl, hy3⟩
  obtain ⟨hxd, hDb⟩ := boxes1 y3 (.cells #[.string (strOf fc.a), .bool false] 113)
  have hxy := hy3.trans hxd
  have c1 := hxy.cell c1
  have c4 := hxy.cell c4
  have hA := block_later HA.out hxy
  have hB := block_later HB.out hxy
  have hxw := hxw.trans hxy
  have a0 := cell_of_row _ _ 0 _ _ _ hA
  have a1 := cell_of_row _ _ 1 _ _ _ hA
  have b0 := cell_of_row _ _ 0 _ _ _ hB
  have b1 := cell_of_row _ _ 1 _ _ _ hB
  have d0 := cell_of_row _ _ 0 _ _ _ hDb
  have e1 := cell_of_row _ _ 1 _ _ _ hDb
  clear hA hB hDb hxd hxy hy3 HA HB HAR HFI c2
  have hcall := HD.out (y3.alloc (.cells #[.string (strOf fc.a), .bool false] 113)) (.slice none 0 0) [] hxw ⟨rfl, .inl ⟨rfl, rfl⟩⟩ (by decide)
  have HCALL := Lib.hid hcall
  clear hcall
  go_wp2_with fail
  refine HCALL.out.mono ?_
  rintro e w5 ⟨u, rfl, h1, h2⟩
  go_wp2_with fail
  go_ret
  exact ⟨u, rfl, by rw [HRES.out]; exact h1, h2⟩

theorem of_any (w : World) (nm : ByteArray) (op : Int) (v : V) (sa : Option Addr) (sn sc : Nat) (hn : okN v.n) (hs : v.s.length ≤ 140737488355328) :
    Calls Tryz.prog 130 #[.agg #[.string nm, .int .i64 op, .int .i64 v.k, .int .i64 v.n, .string (strOf v.s), .bool v.b, .slice sa sn sc]] w fun e w' => ∃ u, e = .returned u ∧ SpR w' u (ofL ⟨[], op, v, []⟩) ∧ Ext w w' := by
  by_cases ho : op < 2 ∨ 8 < op
  · exact of_0 w nm op v sa sn sc hn hs ho
  · have h : op = 2 ∨ op = 3 ∨ op = 4 ∨ op = 5 ∨ op = 6 ∨ op = 7 ∨ op = 8 := by omega
    rcases h with rfl | rfl | rfl | rfl | rfl | rfl | rfl
    · exact of_2 w nm v sa sn sc hn hs
    · exact of_3 w nm v sa sn sc hn hs
    · exact of_4 w nm v sa sn sc hn hs
    · exact of_5 w nm v sa sn sc hn hs
    · exact of_6 w nm v sa sn sc hn hs
    · exact of_7 w nm v sa sn sc hn hs
    · exact of_8 w nm v sa sn sc hn hs
end Go.Proofs.YtabegbelkfhbcaaGreat

namespace Go.Proofs.YtabegbelkfhbcaaGreat
open Go.RowKit

theorem minus_few {r q : Rg} (hr : Rises r) (hq : Fulls q) {m n : Nat} (h1 : Few m r) (h2 : Few n q) : Few (m + n) (r.minus q) := Few.minus hr hq h1 h2

end Go.Proofs.YtabegbelkfhbcaaGreat

namespace Go.Proofs.YtabegbelkfhbcaaGreat
open Go.RowKit

def Fact.rg (r : Rg) : Fact := ⟨fun v w => RgR w v r, fun _ _ _ hx h => h.ext hx⟩

set_option maxRecDepth 100000 in
set_option maxHeartbeats 8000000 in
theorem andR_any (w : World) (v1 v2 : Value) (r q : Rg) (h1 : RgR w v1 r) (h2 : RgR w v2 q) (hr : Rises r) (hq : Fulls q) (hf1 : Few 100000 r) (hf2 : Few 100000 q) :
    Calls Tryz.prog 57 #[v1, v2] w fun e w' => ∃ v, e = .returned v ∧ RgR w' v (r.and q) ∧ Ext w w' := by
  obtain ⟨a1, c1, a2, c2, a3, c3, rfl, k1, k2, k3⟩ := h1.ex
  obtain ⟨b1, d1, b2, d2, b3, d3, rfl, j1, j2, j3⟩ := h2.ex
  obtain ⟨hx0, hR, hQ, hT⟩ := boxes3 w (.cells #[.slice a1 r.i.length c1, .slice a2 r.s.length c2, .slice a3 r.b.length c3, .bool r.odd] 83) (.cells #[.slice b1 q.i.length d1, .slice b2 q.s.length d2, .slice b3 q.b.length d3, .bool q.odd] 83) (.cells #[.slice none 0 0, .slice none 0 0, .slice none 0 0, .bool false] 83)
  have hC1 : ∀ W, Ext w W → Calls Tryz.prog 80 #[.agg #[.slice a1 r.i.length c1, .slice a2 r.s.length c2, .slice a3 r.b.length c3, .bool r.odd], .agg #[.slice b1 q.i.length d1, .slice b2 q.s.length d2, .slice b3 q.b.length d3, .bool q.odd]] W fun e w' => ∃ v, e = .returned v ∧ RgR w' v (r.minus q) ∧ Ext W w' := fun W hW => minusR_any W _ _ r q (h1.ext hW) (h2.ext hW) hr hq (hf1.mono (by omega)) (hf2.mono (by omega))
  have hC2 : ∀ W va, Ext w W → RgR W va (r.minus q) → Calls Tryz.prog 80 #[.agg #[.slice a1 r.i.length c1, .slice a2 r.s.length c2, .slice a3 r.b.length c3, .bool r.odd], va] W fun e w' => ∃ v, e = .returned v ∧ RgR w' v (r.and q) ∧ Ext W w' := fun W va hW hva => minusR_any W _ _ r (r.minus q) (h1.ext hW) hva hr (hr.minus hq).full (hf1.mono (by omega)) ((Few.minus hr hq hf1 hf2).mono (by omega))
  have HC1 := Lib.hid hC1
  have HC2 := Lib.hid hC2
  have HT := Lib.hid hT
  have r0 := cell_of_row _ _ 0 _ _ _ hR
  have r1 := cell_of_row _ _ 1 _ _ _ hR
  have r2 := cell_of_row _ _ 2 _ _ _ hR
  have r3 := cell_of_row _ _ 3 _ _ _ hR
  have q0 := cell_of_row _ _ 0 _ _ _ hQ
  have q1 := cell_of_row _ _ 1 _ _ _ hQ
  have q2 := cell_of_row _ _ 2 _ _ _ hQ
  have q3 := cell_of_row _ _ 3 _ _ _ hQ
  clear hC1 hC2 h1 h2 k1 k2 k3 j1 j2 j3 hr hq hf1 hf2 hR hQ hT
  go_enter Tryz.func57, Tryz.ntmps57
  go_upto_region 1 with fail
  generalize ((w.alloc (.cells #[.slice a1 r.i.length c1, .slice a2 r.s.length c2, .slice a3 r.b.length c3, .bool r.odd] 83)).alloc (.cells #[.slice b1 q.i.length d1, .slice b2 q.s.length d2, .slice b3 q.b.length d3, .bool q.odd] 83)).alloc (.cells #[.slice none 0 0, .slice none 0 0, .slice none 0 0, .bool false] 83) = w0 at *
  refine wp_region_chain 5 [Fact.eq (.agg #[.slice a1 r.i.length c1, .slice a2 r.s.length c2, .slice a3 r.b.length c3, .bool r.odd]),
      Fact.eq (.agg #[.slice a1 r.i.length c1, .slice a2 r.s.length c2, .slice a3 r.b.length c3, .bool r.odd]),
      Fact.eq (.agg #[.slice b1 q.i.length d1, .slice b2 q.s.length d2, .slice b3 q.b.length d3, .bool q.odd]),
      Fact.rg (r.minus q),
      Fact.rg (r.and q)]
    [[], [], [], [(1, 6), (2, 7)], [(0, 5), (3, 8)]]
    [(0, 5), (1, 6), (2, 7), (3, 8), (4, 9)] (by kernel_rfl) (by kernel_rfl) ?_ ?_
  · refine ⟨?_, ?_, ?_, ?_, ?_, trivial⟩
    · intro w1 hx1; change wpList _ _ _ _ _ _; have m0 := hx1.cell r0; have m1 := hx1.cell r1; have m2 := hx1.cell r2; have m3 := hx1.cell r3; go_wp2_with fail; exact ⟨rfl, Ext.refl _, rfl, rfl⟩
    · intro w1 hx1; change wpList _ _ _ _ _ _; have m0 := hx1.cell r0; have m1 := hx1.cell r1; have m2 := hx1.cell r2; have m3 := hx1.cell r3; go_wp2_with fail; exact ⟨rfl, Ext.refl _, rfl, rfl⟩
    · intro w1 hx1; change wpList _ _ _ _ _ _; have m0 := hx1.cell q0; have m1 := hx1.cell q1; have m2 := hx1.cell q2; have m3 := hx1.cell q3; go_wp2_with fail; exact ⟨rfl, Ext.refl _, rfl, rfl⟩
    · intro w1 hx1; rintro _ rfl; rintro _ rfl; change wpList _ _ _ _ _ _; go_wp2_with fail; refine (HC1.out w1 (hx0.trans hx1)).mono ?_; rintro e w2 ⟨va, rfl, hA, hx2⟩; go_wp2_with fail; exact ⟨rfl, hx2, rfl, hA⟩
    · intro w1 hx1; rintro _ rfl; intro v8 h8; change wpList _ _ _ _ _ _; go_wp2_with fail; refine (HC2.out w1 v8 (hx0.trans hx1) h8).mono ?_; rintro e w2 ⟨va, rfl, hA, hx2⟩; go_wp2_with fail; exact ⟨rfl, hx2, rfl, hA⟩
  · intro w1 hx1; rintro _ rfl; rintro _ rfl; rintro _ rfl; intro v8 h8; intro v9 h9; refine depsThen_nil ?_; dsimp only; simp only [Act.put, List.setIfInBounds_toArray, List.set_cons_zero, List.set_cons_succ, List.drop_succ_cons, List.drop_zero]
    replace h8 : (Fact.rg (r.minus q)).p v8 w1 := h8
    replace h9 : (Fact.rg (r.and q)).p v9 w1 := h9
    have h9' : RgR w1 v9 (r.and q) := h9
    obtain ⟨x1, y1, x2, y2, x3, y3, rfl, p1, p2, p3⟩ := h9'.ex
    have HT1 := Lib.hid (block_later HT.out hx1)
    have hxw := hx0.trans hx1
    have P1 := Lib.hid p1
    have P2 := Lib.hid p2
    have P3 := Lib.hid p3
    clear h8 h9 h9' r0 r1 r2 r3 q0 q1 q2 q3 HC1 HC2 p1 p2 p3 hx1 hx0
    go_wp2_with (refine wpList_store_whole 83 (.tmp 4) (.tmp 9) rfl rfl (w.heap.size + 1 + 1) rfl #[.slice x1 (r.and q).i.length y1, .slice x2 (r.and q).s.length y2, .slice x3 (r.and q).b.length y3, .bool (r.and q).odd] rfl _ 83 HT1.out rfl info83s (by simp [Value.oneCell']) ?_)
    have hq := setRow_heap _ _ _ #[.slice x1 (r.and q).i.length y1, .slice x2 (r.and q).s.length y2, .slice x3 (r.and q).b.length y3, .bool (r.and q).odd] _ _ HT1.out
    have g0 := cell_of_row _ _ 0 _ _ _ hq
    have g1 := cell_of_row _ _ 1 _ _ _ hq
    have g2 := cell_of_row _ _ 2 _ _ _ hq
    have g3 := cell_of_row _ _ 3 _ _ _ hq
    refine bodyPost_ret (v := .agg #[.slice x1 (r.and q).i.length y1, .slice x2 (r.and q).s.length y2, .slice x3 (r.and q).b.length y3, .bool (r.and q).odd]) (by simp [results, Tryz.results57, go_sem, g0, g1, g2, g3]) rfl ⟨_, rfl, ?_, hxw.setRow (by omega) _⟩
    exact RgR.of (spr_setRow P1.out HT1.out (by simp)) (spr_setRow P2.out HT1.out (by simp)) (spr_setRow P3.out HT1.out (by simp))
end Go.Proofs.YtabegbelkfhbcaaGreat

namespace Go.Proofs.YtabegbelkfhbcaaGreat
open Go.RowKit

theorem spr_step {W W' : World} {h : Value} {l : List Sp} (k : SpR W h l) {b : Nat} {c : Array Value} {t : TypeId} {fr : Nat × Nat} (hb : W.heap[b]? = some (.cells c t fr)) (hc : ∀ s, Value.string s ∉ c.toList) (ho : ∀ i, i < W.heap.size → i ≠ b → W'.heap[i]? = W.heap[i]?) : SpR W' h l := by
  rcases spr_apart k hb hc with rfl | ⟨B, o, n, cap, rfl, hne⟩
  · obtain ⟨h1, a, cap, e, h3, h4, h5, h6, _⟩ := k
    exact ⟨h1, a, cap, e, h3, h4, h5, h6, fun j u hj => by simp at hj⟩
  · obtain ⟨h1, a, cap, e, h3, h4, h5, h6, h7⟩ := k
    simp only [Value.slice.injEq] at e
    obtain ⟨rfl, rfl, rfl⟩ := e
    refine ⟨h1, _, _, rfl, h3, h4, h5, h6, fun j u hj => ?_⟩
    obtain ⟨p, e2, hcl⟩ := h7 j u hj
    cases e2
    refine ⟨_, rfl, ?_⟩
    have hlt := World.block_lt_of_cell? W ⟨B, o + j, none⟩ hcl
    rw [World.cell?_of_block (a := ⟨B, o + j, none⟩) (ho B hlt hne)]
    exact hcl
/-- Block b holds a region that reads as r. -/
def GoodR (b : Nat) (r : Rg) (w : World) : Prop := ∃ cs, w.heap[b]? = some (.cells cs 83 (0, 0)) ∧ RgR w (.agg cs) r
theorem GoodR.no {r : Rg} {w : World} {cs : Array Value} (h : RgR w (.agg cs) r) : ∀ s, Value.string s ∉ cs.toList := by
  obtain ⟨a1, c1, a2, c2, a3, c3, e, _⟩ := h.ex
  cases e
  simp
theorem GoodR.step {b : Nat} {r : Rg} {w w' : World} (h : GoodR b r w) (ho : ∀ i, i < w.heap.size → i ≠ b → w'.heap[i]? = w.heap[i]?) (hb : w'.heap[b]? = w.heap[b]?) : GoodR b r w' := by
  obtain ⟨cs, h1, h2⟩ := h
  have hno := GoodR.no h2
  refine ⟨cs, hb.trans h1, ?_⟩
  obtain ⟨a1, c1, a2, c2, a3, c3, e, k1, k2, k3⟩ := h2.ex
  exact ⟨a1, c1, a2, c2, a3, c3, e, spr_step k1 h1 hno ho, spr_step k2 h1 hno ho, spr_step k3 h1 hno ho⟩
structure StG (b : Nat) (r : Rg) (w w' : World) : Prop where
  os : w'.os = w.os
  tape : w'.tape = w.tape
  output : w'.output = w.output
  size : w.heap.size ≤ w'.heap.size
  block : ∀ k, k < w.heap.size → k ≠ b → w'.heap[k]? = w.heap[k]?
  hb : b < w.heap.size → w'.heap[b]? = w.heap[b]? ∨ GoodR b r w'
theorem StG.of_ext {b : Nat} {r : Rg} {w w' : World} (h : Ext w w') : StG b r w w' := ⟨h.os, h.tape, h.output, h.size, fun k hk _ => h.block k hk, fun hk => .inl (h.block b hk)⟩
theorem StG.trans {b : Nat} {r : Rg} {x y z : World} (h : StG b r x y) (k : StG b r y z) : StG b r x z := by
  refine ⟨k.os.trans h.os, k.tape.trans h.tape, k.output.trans h.output, Nat.le_trans h.size k.size, fun i hi h1 => (k.block i (Nat.lt_of_lt_of_le hi h.size) h1).trans (h.block i hi h1), fun hb => ?_⟩
  rcases k.hb (Nat.lt_of_lt_of_le hb h.size) with e | e
  · rcases h.hb hb with e2 | e2
    · exact .inl (e.trans e2)
    · exact .inr (e2.step k.block e)
  · exact .inr e
def StepG (b : Nat) (r : Rg) : Rg.Step := ⟨StG b r, fun w => StG.of_ext (Ext.refl w), fun h k => h.trans k, fun w => StG.of_ext (Ext.refl w).drew⟩
theorem StG.good {b : Nat} {r : Rg} {w w' : World} (h : StG b r w w') (k : GoodR b r w) : GoodR b r w' := by
  obtain ⟨cs, h1, h2⟩ := k
  rcases h.hb (Array.getElem?_eq_some_iff.1 h1).1 with e | e
  · exact GoodR.step ⟨cs, h1, h2⟩ h.block e
  · exact e
end Go.Proofs.YtabegbelkfhbcaaGreat
