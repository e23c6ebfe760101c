/- Cuts: past.
Regions where they lie: Empty, whole.
Regions: Minus.
Regions: All.
A region that draws its order and ends in a chain: what stands ahead by facts (K1), the chain's operations walked as they stand. -/
import Derived.LoopTactic
import Derived.WalkSpells
import Derived.Lib.ConvBytes
import Derived.Test.YtlhbpflcffjhmaaGreatPk4
import Derived.Test.YtlhbpflcffjhmaaGreatPk3
import Derived.Test.YtlhbpflcffjhmaaGreatPk5
import Derived.Test.YtlhbpflcffjhmaaGreatPk1
namespace Go.Proofs.YtlhbpflcffjhmaaGreat
open Go.RowKit

theorem strOf_sz (l : List UInt8) : (strOf l).size = l.length := by rw [← ba_len]; rfl
theorem conv_str (w : World) (l : List UInt8) (hl : l.length ≤ maxLen) : ∃ cap W C, (convert 9 220 (.string (strOf l))).run Tryz.prog w = .ok (.slice (some ⟨w.heap.size, 0, none⟩) l.length cap) W ∧ W.heap[w.heap.size]? = some (.cells C 5 (C.size, C.size + 1)) ∧ l.length ≤ C.size ∧ l.length ≤ cap ∧ cap ≤ maxLen ∧ (∀ j (h : j < l.length), C[j]? = some (.int .u8 (l[j].toNat : Int))) ∧ Ext w W := by
  have hr := Lib.run_convert_string_bytes (P := Tryz.prog) w 9 220 5 (strOf l) Tryz.underlying9 Tryz.underlying220 Tryz.underlying5
  have hn := Lib.bytesWorld_at_new w 5 (strOf l)
  have hc : ∀ j (h : j < l.length), (Lib.bytesCells w 5 (strOf l))[j]? = some (.int .u8 (l[j].toNat : Int)) := fun j h => by
    have := Lib.bytesWorld_cell w 5 (strOf l) j (by rw [strOf_sz]; exact h)
    rw [cell_of_row _ _ _ _ _ _ hn] at this
    rw [this]
    simp [strOf, List.getD, h]
  have hge := grownCap_ge w (strOf l).size 0 5
  rw [strOf_sz] at hr hge
  refine ⟨_, _, _, hr, hn, ?_, hge, grownCap_le_maxLen _ _ _ _ hl, hc, ?_⟩
  · simp only [Lib.bytesCells, Array.size_append, Array.size_map]
    show l.length ≤ l.toArray.size + _
    simp
  · refine ⟨rfl, rfl, rfl, ?_, fun k hk => Lib.bytesWorld_at_old w 5 (strOf l) k hk⟩
    rw [Lib.bytesWorld_size]; exact Nat.le_succ _
theorem setCell_blk (w : World) (b i : Nat) (v : Value) (c : Array Value) (t : TypeId) (fr : Nat × Nat) (h : w.heap[b]? = some (.cells c t fr)) : (w.setCell ⟨b, i, none⟩ v).heap[b]? = some (.cells (c.setIfInBounds i v) t fr) := by
  unfold World.setCell
  simp [Array.getElem?_modify, h]
theorem setCell_oth (w : World) (a : Addr) (v : Value) (k : Nat) (h : k ≠ a.block) : (w.setCell a v).heap[k]? = w.heap[k]? := by
  show (w.heap.modify a.block _)[k]? = w.heap[k]?
  rw [Array.getElem?_modify, if_neg (fun e => h e.symm)]
theorem past_snoc (l : List UInt8) (c : UInt8) : pastF (l ++ [c]) = if c = 255 then pastF l else ⟨l ++ [c + 1], false⟩ := by
  unfold pastF
  rw [List.reverse_append, List.reverse_singleton, List.singleton_append, pastR, List.reverse_reverse]

set_option maxRecDepth 100000 in
set_option maxHeartbeats 4000000 in
theorem past_any (w : World) (s : List UInt8) (hs : s.length ≤ 140737488355328) : Calls Tryz.prog 171 #[.string (strOf s)] w fun e w' => e = .returned (.agg #[.string (strOf (pastF s).a), .bool (pastF s).e]) ∧ Ext w w' := by
  obtain ⟨hx0, hT⟩ := boxes1 w (.cells #[.string ⟨#[]⟩, .bool false] 152)
  obtain ⟨cap, W, C, hconv, hB, hsC, hcap, hcm, hcell, hx1⟩ := conv_str (w.alloc (.cells #[.string ⟨#[]⟩, .bool false] 152)) s (by unfold maxLen; omega)
  rw [World.size_alloc] at hconv hB
  have hT1 := Lib.hid (block_later hT hx1)
  have hxw := hx0.trans hx1
  have HB := Lib.hid hB
  have HCELL := Lib.hid hcell
  obtain ⟨N, hN⟩ : ∃ N, N = s.length := ⟨_, rfl⟩
  rw [← hN] at hs hsC hcap hconv
  have HN := Lib.hid hN
  have hCZ : C.size ≤ C.size := Nat.le_refl _
  unfold maxLen at hcm
  clear hT hB hcell hx1 hx0 hN
  go_enter Tryz.func171, Tryz.ntmps171
  go_wp2_with fail
  clear hconv
  go_loop [3] (fun t => ∃ n : Nat, n ≤ N ∧ t = .slice (some ⟨w.heap.size + 1, 0, none⟩) n cap ∧ Hid (pastF s = pastF (s.take n))) (fun t => match t with | .slice _ n _ => n | _ => 0)
  case atStart => exact ⟨N, Nat.le_refl _, rfl, by show _ = _; rw [HN.out, List.take_length]⟩
  case round =>
    obtain ⟨n, hn, rfl, hp⟩ := hrel
    by_cases h0 : n = 0
    · subst h0
      have hp0 : pastF s = endC := by rw [hp.out]; rfl
      have HP0 := Lib.hid hp0
      clear hp hp0
      go_wp2_with fail
      refine (end_any W).mono ?_
      rintro e w2 ⟨rfl, hx2⟩
      have hT2 := Lib.hid (block_later hT1.out hx2)
      go_wp2_with (refine wpList_store_whole 152 (.tmp 2) (.tmp 26) rfl rfl w.heap.size rfl #[.string ⟨#[]⟩, .bool true] rfl _ 152 hT2.out rfl info152s (by simp [Value.oneCell']) ?_)
      have hq := setRow_heap _ _ _ #[.string ⟨#[]⟩, .bool true] _ _ hT2.out
      have r0 := cell_of_row _ _ 0 _ _ _ hq
      have r1 := cell_of_row _ _ 1 _ _ _ hq
      refine bodyPost_ret (v := .agg #[.string ⟨#[]⟩, .bool true]) (by simp [results, Tryz.results171, go_sem, r0, r1]) rfl ⟨by rw [HP0.out]; rfl, (hxw.trans hx2).setRow (Nat.le_refl _) _⟩
    · obtain ⟨m, rfl⟩ : ∃ m, n = m + 1 := ⟨n - 1, by omega⟩
      have hm : m < s.length := by have := HN.out; omega
      have hcm2 : W.cell? ⟨w.heap.size + 1, m, none⟩ = some (.int .u8 (s[m].toNat : Int)) := by
        rw [cell_of_row _ _ _ _ _ _ HB.out]; exact HCELL.out m hm
      have hps : pastF s = if s[m] = 255 then pastF (s.take m) else ⟨s.take m ++ [s[m] + 1], false⟩ := by
        rw [hp.out, List.take_succ_eq_append_getElem hm, past_snoc]
      have hgt : decide (0 < ((m + 1 : Nat) : Int)) = true := decide_eq_true (by omega)
      have hgt2 : decide ((0 : Int) < (m : Int) + 1) = true := decide_eq_true (by omega)
      clear hp h0
      by_cases hc : s[m] = 255
      · rw [if_pos hc] at hps
        have HP := Lib.hid hps
        rw [hc] at hcm2
        clear hps hc
        go_wp2_with fail
        go_round
        case rel => exact ⟨m, by omega, rfl, HP.out⟩
        case measure => simp
      · rw [if_neg hc] at hps
        have hlt : s[m].toNat < 255 := by
          have h1 : s[m].toNat < 256 := s[m].toNat_lt
          have h2 : s[m].toNat ≠ 255 := fun e => hc (UInt8.toNat_inj.1 e)
          omega
        have hplus : ((s[m] + 1).toNat : Int) = (s[m].toNat : Int) + 1 := by
          rw [UInt8.toNat_add]
          have : (1 : UInt8).toNat = 1 := rfl
          rw [this]; omega
        have hd : ((s[m].toNat : Int) == 255) = false := beq_eq_false_iff_ne.2 (by omega)
        have hlt2 : (s[m].toNat : Int) < 255 := by omega
        have hge2 : (0 : Int) ≤ (s[m].toNat : Int) := by omega
        have fz : W.frozen? ⟨w.heap.size + 1, m, none⟩ = false := by simp [World.frozen?, HB.out]; omega
        have hbytes : Bytes (W.setCell ⟨w.heap.size + 1, m, none⟩ (.int .u8 ((s[m].toNat : Int) + 1))) (.slice (some ⟨w.heap.size + 1, 0, none⟩) (m + 1) cap) (s.take m ++ [s[m] + 1]) := by
          have hlen : (s.take m ++ [s[m] + 1]).length = m + 1 := by rw [List.length_append, List.length_take]; simp; omega
          unfold Bytes
          rw [hlen]
          refine ⟨by rw [List.length_map, hlen, Nat.mul_one], _, _, rfl, by omega, by unfold maxLen; exact hcm, by simp, fun p hp _ => by cases hp; rfl, fun j u hj => ⟨_, rfl, ?_⟩⟩
          simp only [Nat.zero_add]
          have hbk := setCell_blk W (w.heap.size + 1) m (.int .u8 ((s[m].toNat : Int) + 1)) _ _ _ HB.out
          rw [cell_of_row _ _ _ _ _ _ hbk]
          rw [List.getElem?_map] at hj
          rcases Nat.lt_or_ge j m with hjm | hjm
          · rw [List.getElem?_append_left (by rw [List.length_take]; omega), List.getElem?_take, if_pos hjm, List.getElem?_eq_getElem (by omega)] at hj
            rw [Array.getElem?_setIfInBounds_ne (by omega), HCELL.out j (by omega)]
            exact hj
          · have hjl : j < m + 1 := by
              rcases Nat.lt_or_ge j (m + 1) with h | h
              · exact h
              · rw [List.getElem?_eq_none (by rw [hlen]; exact h)] at hj; cases hj
            obtain rfl : j = m := by omega
            rw [Array.getElem?_setIfInBounds_self_of_lt (by omega)]
            rw [List.getElem?_append_right (by rw [List.length_take]; omega), List.length_take, Nat.min_eq_left (by omega), Nat.sub_self] at hj
            simp only [List.getElem?_cons_zero, Option.map_some, Option.some.injEq] at hj
            rw [← hj, hplus]
        have hcv := run_bytes_str (P := Tryz.prog) (W.setCell ⟨w.heap.size + 1, m, none⟩ (.int .u8 ((s[m].toNat : Int) + 1))) 220 9 5 Tryz.underlying220 Tryz.underlying5 Tryz.underlying9 hbytes
        have hT2 := Lib.hid ((setCell_oth W ⟨w.heap.size + 1, m, none⟩ (.int .u8 ((s[m].toNat : Int) + 1)) w.heap.size (by simp)).trans hT1.out)
        have hx2 := hxw.setCell (p := ⟨w.heap.size + 1, m, none⟩) (by simp) (.int .u8 ((s[m].toNat : Int) + 1))
        have HP := Lib.hid hps
        clear hps hc hplus hbytes hxw
        generalize s.take m ++ [s[m] + 1] = R at *
        generalize (s[m].toNat : Int) = c at *
        generalize hW2 : W.setCell ⟨w.heap.size + 1, m, none⟩ (.int .u8 (c + 1)) = W2 at *
        have HW2 := Lib.hid hW2
        clear hW2
        go_upto_region 7 with fail
        rw [HW2.out]
        go_wp2_with (refine wpList_store_whole 152 (.tmp 2) (.tmp 37) rfl rfl w.heap.size rfl #[.string (strOf R), .bool false] rfl _ 152 hT2.out rfl info152s (by simp [Value.oneCell']) ?_)
        have hq := setRow_heap _ _ _ #[.string (strOf R), .bool false] _ _ hT2.out
        have r0 := cell_of_row _ _ 0 _ _ _ hq
        have r1 := cell_of_row _ _ 1 _ _ _ hq
        refine bodyPost_ret (v := .agg #[.string (strOf R), .bool false]) (by simp [results, Tryz.results171, go_sem, r0, r1]) rfl ⟨by rw [HP.out], hx2.setRow (Nat.le_refl _) _⟩
end Go.Proofs.YtlhbpflcffjhmaaGreat

namespace Go.Proofs.YtlhbpflcffjhmaaGreat
open Go.RowKit

/-- A region as a value. -/
structure RgR (W : World) (v : Value) (r : Rg) : Prop where
  mk ::
  ex : ∃ (a1 : Option Addr) (c1 : Nat) (a2 : Option Addr) (c2 : Nat) (a3 : Option Addr) (c3 : Nat), v = .agg #[.slice a1 r.i.length c1, .slice a2 r.s.length c2, .slice a3 r.b.length c3, .bool r.odd] ∧ SpR W (.slice a1 r.i.length c1) r.i ∧ SpR W (.slice a2 r.s.length c2) r.s ∧ SpR W (.slice a3 r.b.length c3) r.b
theorem RgR.ext {W W' : World} {v : Value} {r : Rg} (h : RgR W v r) (hx : Ext W W') : RgR W' v r := by
  obtain ⟨a1, c1, a2, c2, a3, c3, e, h1, h2, h3⟩ := h.ex
  exact ⟨a1, c1, a2, c2, a3, c3, e, h1.ext hx, h2.ext hx, h3.ext hx⟩
theorem RgR.of {W : World} {h1 h2 h3 : Value} {r : Rg} (k1 : SpR W h1 r.i) (k2 : SpR W h2 r.s) (k3 : SpR W h3 r.b) : RgR W (.agg #[h1, h2, h3, .bool r.odd]) r := by
  obtain ⟨a1, c1, rfl, _, _⟩ := Row.shape k1
  obtain ⟨a2, c2, rfl, _, _⟩ := Row.shape k2
  obtain ⟨a3, c3, rfl, _, _⟩ := Row.shape k3
  exact ⟨a1, c1, a2, c2, a3, c3, rfl, k1, k2, k3⟩

set_option maxRecDepth 100000 in
set_option maxHeartbeats 4000000 in
theorem empty_any (w : World) (v : Value) (r : Rg) (h : RgR w v r) : Calls Tryz.prog 79 #[v] w fun e w' => e = .returned (.bool r.empty) ∧ Ext w w' := by
  obtain ⟨a1, c1, a2, c2, a3, c3, rfl, h1, h2, h3⟩ := h.ex
  obtain ⟨_, _, e1, hl1, hm1⟩ := Row.shape h1
  obtain ⟨_, _, e2, hl2, hm2⟩ := Row.shape h2
  obtain ⟨_, _, e3, hl3, hm3⟩ := Row.shape h3
  simp only [Value.slice.injEq, true_and] at e1 e2 e3
  obtain ⟨rfl, rfl⟩ := e1
  obtain ⟨rfl, rfl⟩ := e2
  obtain ⟨rfl, rfl⟩ := e3
  unfold maxLen at hm1 hm2 hm3
  have hx0 : Ext w (w.alloc (.cells #[.slice a1 r.i.length c1, .slice a2 r.s.length c2, .slice a3 r.b.length c3, .bool r.odd] 72)) := (Ext.refl w).alloc _
  have hB := heap_alloc_new w (.cells #[.slice a1 r.i.length c1, .slice a2 r.s.length c2, .slice a3 r.b.length c3, .bool r.odd] 72)
  have q0 := cell_of_row _ _ 0 _ _ _ hB
  have q1 := cell_of_row _ _ 1 _ _ _ hB
  have q2 := cell_of_row _ _ 2 _ _ _ hB
  have q3 := cell_of_row _ _ 3 _ _ _ hB
  have hsl : SlR (w.alloc (.cells #[.slice a1 r.i.length c1, .slice a2 r.s.length c2, .slice a3 r.b.length c3, .bool r.odd] 72)) (.slice (some ⟨w.heap.size, 0, none⟩) 3 3) [(a1, r.i.length, c1), (a2, r.s.length, c2), (a3, r.b.length, c3)] := by
    refine ⟨rfl, _, _, rfl, Nat.le_refl _, by decide, by simp, by simp, fun j u hj => ⟨_, rfl, ?_⟩⟩
    match j, hj with
    | 0, hj => cases hj; exact q0
    | 1, hj => cases hj; exact q1
    | 2, hj => cases hj; exact q2
  have hcon := hasSl_any _ _ _ hsl 119 #[] (fun x => decide (0 < x.2.1)) ent81 (fun W x hx hm => by
    refine len81_any W x.1 x.2.1 x.2.2 ?_
    simp only [List.mem_cons, List.not_mem_nil, or_false] at hm
    rcases hm with rfl | rfl | rfl <;> simp only <;> omega)
  have hres : r.empty = (!r.odd && !(([(a1, r.i.length, c1), (a2, r.s.length, c2), (a3, r.b.length, c3)] : List (Option Addr × Nat × Nat)).any fun x => decide (0 < x.2.1))) := by
    unfold Rg.empty
    simp only [List.any_cons, List.any_nil, Bool.or_false, Bool.or_assoc]
  rw [hres]
  have HC := Lib.hid hcon
  clear hcon hres hsl hB h1 h2 h3 h hl1 hl2 hl3 hm1 hm2 hm3
  generalize (([(a1, r.i.length, c1), (a2, r.s.length, c2), (a3, r.b.length, c3)] : List (Option Addr × Nat × Nat)).any fun x => decide (0 < x.2.1)) = B at *
  generalize r.odd = od at *
  generalize r.i.length = n1 at *
  generalize r.s.length = n2 at *
  generalize r.b.length = n3 at *
  cases od
  · go_enter Tryz.func79, Tryz.ntmps79
    go_wp2_with (go_at_call 118; refine HC.out.mono ?_; rintro e w' ⟨rfl, hx⟩)
    go_ret
    exact ⟨rfl, hx0.trans hx⟩
  · go_enter Tryz.func79, Tryz.ntmps79
    go_wp2_with fail
    go_ret
    exact ⟨rfl, hx0⟩
end Go.Proofs.YtlhbpflcffjhmaaGreat

namespace Go.Proofs.YtlhbpflcffjhmaaGreat
open Go.RowKit

theorem minus_bound {l m : List Sp} (hl : Rise l) (hm : Full m) (h1 : l.length ≤ 400000) (h2 : m.length ≤ 400000) : ∀ k, k ≤ m.length → (minusL l (m.take k)).length ≤ 1000000 := fun k hk => by
  have := (minusL_rise (m := m.take k) (fun x hx => hm x (List.mem_of_mem_take hx)) hl).2
  rw [List.length_take] at this
  omega
theorem setCell_block (w : World) (b i : Nat) (v : Value) (c : Array Value) (t : TypeId) (fr : Nat × Nat) (h : w.heap[b]? = some (.cells c t fr)) : (w.setCell ⟨b, i, none⟩ v).heap[b]? = some (.cells (c.setIfInBounds i v) t fr) := by
  unfold World.setCell
  simp [Array.getElem?_modify, h]
theorem setCell_block_other (w : World) (a : Addr) (v : Value) (k : Nat) (h : k ≠ a.block) : (w.setCell a v).heap[k]? = w.heap[k]? := by
  show (w.heap.modify a.block _)[k]? = w.heap[k]?
  rw [Array.getElem?_modify, if_neg (fun e => h e.symm)]
/-- A block without texts holds no spans. -/
theorem spr_apart {W : World} {h : Value} {l : List Sp} (k : SpR W h l) {b : Nat} {c : Array Value} {t : TypeId} {fr : Nat × Nat} (hb : W.heap[b]? = some (.cells c t fr)) (hc : ∀ s, Value.string s ∉ c.toList) : l = [] ∨ ∃ B o n cap, h = .slice (some ⟨B, o, none⟩) n cap ∧ B ≠ b := by
  obtain ⟨a, cap, rfl, _, _⟩ := Row.shape k
  by_cases h0 : l = []
  · exact .inl h0
  · obtain ⟨B, o, rfl, f0, _⟩ := SpR.at k (k := 0) (List.length_pos_iff.2 h0)
    refine .inr ⟨B, o, _, _, rfl, fun e => ?_⟩
    subst e
    simp only [World.cell?, hb, Option.isSome_none, Bool.false_eq_true, if_false] at f0
    obtain ⟨hlt, e2⟩ := Array.getElem?_eq_some_iff.1 f0
    exact hc _ (by rw [← e2]; simp)
theorem spr_other {W W' : World} {h : Value} {l : List Sp} (k : SpR W h l) {b : Nat} {c : Array Value} {t : TypeId} {fr : Nat × Nat} (hb : W.heap[b]? = some (.cells c t fr)) (hc : ∀ s, Value.string s ∉ c.toList) (ho : ∀ i, i ≠ b → W'.heap[i]? = W.heap[i]?) : SpR W' h l := by
  rcases spr_apart k hb hc with rfl | ⟨B, o, n, cap, rfl, hne⟩
  · obtain ⟨h1, a, cap, e, h3, h4, h5, h6, _⟩ := k
    exact ⟨h1, a, cap, e, h3, h4, h5, h6, fun j u hj => by simp at hj⟩
  · obtain ⟨h1, a, cap, e, h3, h4, h5, h6, h7⟩ := k
    simp only [Value.slice.injEq] at e
    obtain ⟨rfl, rfl, rfl⟩ := e
    refine ⟨h1, _, _, rfl, h3, h4, h5, h6, fun j u hj => ?_⟩
    obtain ⟨p, e2, hcl⟩ := h7 j u hj
    cases e2
    refine ⟨_, rfl, ?_⟩
    rw [World.cell?_of_block (a := ⟨B, o + j, none⟩) (ho B hne)]
    exact hcl
theorem spr_setCell {W : World} {h : Value} {l : List Sp} (k : SpR W h l) {b : Nat} (i : Nat) (v : Value) {c : Array Value} {t : TypeId} {fr : Nat × Nat} (hb : W.heap[b]? = some (.cells c t fr)) (hc : ∀ s, Value.string s ∉ c.toList) : SpR (W.setCell ⟨b, i, none⟩ v) h l :=
  spr_other k hb hc fun j hj => setCell_block_other W ⟨b, i, none⟩ v j hj
theorem spr_setRow {W : World} {h : Value} {l : List Sp} (k : SpR W h l) {b : Nat} {cs : Array Value} {c : Array Value} {t : TypeId} {fr : Nat × Nat} (hb : W.heap[b]? = some (.cells c t fr)) (hc : ∀ s, Value.string s ∉ c.toList) : SpR (W.setRow b cs) h l :=
  spr_other k hb hc fun j hj => setRow_other W b j cs hj
theorem info72s : (Tryz.prog.info? 72).map (·.size) = some 4 := by kernel_rfl

set_option maxRecDepth 100000 in
set_option maxHeartbeats 16000000 in
theorem minusR_any (w : World) (v1 v2 : Value) (r q : Rg) (h1 : RgR w v1 r) (h2 : RgR w v2 q) (hr : Rises r) (hq : Fulls q) (hf1 : Few 400000 r) (hf2 : Few 400000 q) :
    Calls Tryz.prog 85 #[v1, v2] w fun e w' => ∃ v, e = .returned v ∧ RgR w' v (r.minus q) ∧ Ext w w' := by
  have m1 := fun W a c b d k1 k2 => minus_any W (.slice a r.i.length c) (.slice b q.i.length d) r.i q.i k1 k2 (minus_bound hr.i hq.i hf1.i hf2.i)
  have m2 := fun W a c b d k1 k2 => minus_any W (.slice a r.s.length c) (.slice b q.s.length d) r.s q.s k1 k2 (minus_bound hr.s hq.s hf1.s hf2.s)
  have m3 := fun W a c b d k1 k2 => minus_any W (.slice a r.b.length c) (.slice b q.b.length d) r.b q.b k1 k2 (minus_bound hr.b hq.b hf1.b hf2.b)
  obtain ⟨a1, c1, a2, c2, a3, c3, rfl, k1, k2, k3⟩ := h1.ex
  obtain ⟨b1, d1, b2, d2, b3, d3, rfl, j1, j2, j3⟩ := h2.ex
  obtain ⟨OD, hOD⟩ : ∃ OD, OD = (r.odd && !q.odd) := ⟨_, rfl⟩
  have HOD := Lib.hid hOD
  have M1 := Lib.hid m1
  have M2 := Lib.hid m2
  have M3 := Lib.hid m3
  have hx3 : Ext w (((w.alloc (.cells #[.slice a1 r.i.length c1, .slice a2 r.s.length c2, .slice a3 r.b.length c3, .bool r.odd] 72)).alloc (.cells #[.slice b1 q.i.length d1, .slice b2 q.s.length d2, .slice b3 q.b.length d3, .bool q.odd] 72)).alloc (.cells #[.slice none 0 0, .slice none 0 0, .slice none 0 0, .bool false] 72)) := (((Ext.refl w).alloc _).alloc _).alloc _
  have hx0 : Ext w ((((w.alloc (.cells #[.slice a1 r.i.length c1, .slice a2 r.s.length c2, .slice a3 r.b.length c3, .bool r.odd] 72)).alloc (.cells #[.slice b1 q.i.length d1, .slice b2 q.s.length d2, .slice b3 q.b.length d3, .bool q.odd] 72)).alloc (.cells #[.slice none 0 0, .slice none 0 0, .slice none 0 0, .bool false] 72)).alloc (.cells #[.slice none 0 0, .slice none 0 0, .slice none 0 0, .bool OD] 72)) := hx3.alloc _
  have hR3 : (((w.alloc (.cells #[.slice a1 r.i.length c1, .slice a2 r.s.length c2, .slice a3 r.b.length c3, .bool r.odd] 72)).alloc (.cells #[.slice b1 q.i.length d1, .slice b2 q.s.length d2, .slice b3 q.b.length d3, .bool q.odd] 72)).alloc (.cells #[.slice none 0 0, .slice none 0 0, .slice none 0 0, .bool false] 72)).heap[w.heap.size]? = some (.cells #[.slice a1 r.i.length c1, .slice a2 r.s.length c2, .slice a3 r.b.length c3, .bool r.odd] 72 (0, 0)) := by
    have h := heap_alloc_new w (.cells #[.slice a1 r.i.length c1, .slice a2 r.s.length c2, .slice a3 r.b.length c3, .bool r.odd] 72)
    rw [(((Ext.refl _).alloc (.cells #[.slice b1 q.i.length d1, .slice b2 q.s.length d2, .slice b3 q.b.length d3, .bool q.odd] 72)).alloc (.cells #[.slice none 0 0, .slice none 0 0, .slice none 0 0, .bool false] 72)).block _ (by rw [World.size_alloc]; omega)]
    exact h
  have hQ3 : (((w.alloc (.cells #[.slice a1 r.i.length c1, .slice a2 r.s.length c2, .slice a3 r.b.length c3, .bool r.odd] 72)).alloc (.cells #[.slice b1 q.i.length d1, .slice b2 q.s.length d2, .slice b3 q.b.length d3, .bool q.odd] 72)).alloc (.cells #[.slice none 0 0, .slice none 0 0, .slice none 0 0, .bool false] 72)).heap[w.heap.size + 1]? = some (.cells #[.slice b1 q.i.length d1, .slice b2 q.s.length d2, .slice b3 q.b.length d3, .bool q.odd] 72 (0, 0)) := by
    have h := heap_alloc_new (w.alloc (.cells #[.slice a1 r.i.length c1, .slice a2 r.s.length c2, .slice a3 r.b.length c3, .bool r.odd] 72)) (.cells #[.slice b1 q.i.length d1, .slice b2 q.s.length d2, .slice b3 q.b.length d3, .bool q.odd] 72)
    rw [World.size_alloc] at h
    rw [((Ext.refl _).alloc (.cells #[.slice none 0 0, .slice none 0 0, .slice none 0 0, .bool false] 72)).block _ (by rw [World.size_alloc, World.size_alloc]; omega)]
    exact h
  have hs3 : (((w.alloc (.cells #[.slice a1 r.i.length c1, .slice a2 r.s.length c2, .slice a3 r.b.length c3, .bool r.odd] 72)).alloc (.cells #[.slice b1 q.i.length d1, .slice b2 q.s.length d2, .slice b3 q.b.length d3, .bool q.odd] 72)).alloc (.cells #[.slice none 0 0, .slice none 0 0, .slice none 0 0, .bool false] 72)).heap.size = w.heap.size + 1 + 1 + 1 := by rw [World.size_alloc, World.size_alloc, World.size_alloc]
  have hT3 : (((w.alloc (.cells #[.slice a1 r.i.length c1, .slice a2 r.s.length c2, .slice a3 r.b.length c3, .bool r.odd] 72)).alloc (.cells #[.slice b1 q.i.length d1, .slice b2 q.s.length d2, .slice b3 q.b.length d3, .bool q.odd] 72)).alloc (.cells #[.slice none 0 0, .slice none 0 0, .slice none 0 0, .bool false] 72)).heap[w.heap.size + 1 + 1]? = some (.cells #[.slice none 0 0, .slice none 0 0, .slice none 0 0, .bool false] 72 (0, 0)) := by
    have h := heap_alloc_new ((w.alloc (.cells #[.slice a1 r.i.length c1, .slice a2 r.s.length c2, .slice a3 r.b.length c3, .bool r.odd] 72)).alloc (.cells #[.slice b1 q.i.length d1, .slice b2 q.s.length d2, .slice b3 q.b.length d3, .bool q.odd] 72)) (.cells #[.slice none 0 0, .slice none 0 0, .slice none 0 0, .bool false] 72)
    rw [World.size_alloc, World.size_alloc] at h; exact h
  have r3 := cell_of_row _ _ 3 _ _ _ hR3
  have q3 := cell_of_row _ _ 3 _ _ _ hQ3
  have HR3 := Lib.hid hR3
  have HQ3 := Lib.hid hQ3
  have HT3 := Lib.hid hT3
  clear m1 m2 m3 h1 h2 hr hq hf1 hf2 hOD hR3 hQ3 hT3
  go_enter Tryz.func85, Tryz.ntmps85
  go_upto_region 1 with fail
  go_cut [5, 14] from 7 to 13 (fun v5 _ wx => v5 = .pointer (some ⟨w.heap.size + 1 + 1 + 1, 0, none⟩) ∧ wx = ((((w.alloc (.cells #[.slice a1 r.i.length c1, .slice a2 r.s.length c2, .slice a3 r.b.length c3, .bool r.odd] 72)).alloc (.cells #[.slice b1 q.i.length d1, .slice b2 q.s.length d2, .slice b3 q.b.length d3, .bool q.odd] 72)).alloc (.cells #[.slice none 0 0, .slice none 0 0, .slice none 0 0, .bool false] 72)).alloc (.cells #[.slice none 0 0, .slice none 0 0, .slice none 0 0, .bool OD] 72)))
  case first =>
    have HO2 : Hid (OD = (r.odd && !q.odd)) := HOD.out
    clear HOD M1 M2 M3 HR3 HQ3 HT3 hx0 hx3 k1 k2 k3 j1 j2 j3
    generalize r.odd = ro at *
    generalize q.odd = qo at *
    cases ro
    · obtain rfl : OD = false := HO2.out
      go_wp2_with fail
      go_meet
      exact ⟨rfl, rfl⟩
    · cases qo
      · obtain rfl : OD = true := HO2.out
        go_wp2_with fail
        go_meet
        exact ⟨rfl, rfl⟩
      · obtain rfl : OD = false := HO2.out
        go_wp2_with fail
        go_meet
        exact ⟨rfl, rfl⟩
  case rest =>
    obtain ⟨rfl, rfl⟩ := hcut
    have hxz : Ext (((w.alloc (.cells #[.slice a1 r.i.length c1, .slice a2 r.s.length c2, .slice a3 r.b.length c3, .bool r.odd] 72)).alloc (.cells #[.slice b1 q.i.length d1, .slice b2 q.s.length d2, .slice b3 q.b.length d3, .bool q.odd] 72)).alloc (.cells #[.slice none 0 0, .slice none 0 0, .slice none 0 0, .bool false] 72)) ((((w.alloc (.cells #[.slice a1 r.i.length c1, .slice a2 r.s.length c2, .slice a3 r.b.length c3, .bool r.odd] 72)).alloc (.cells #[.slice b1 q.i.length d1, .slice b2 q.s.length d2, .slice b3 q.b.length d3, .bool q.odd] 72)).alloc (.cells #[.slice none 0 0, .slice none 0 0, .slice none 0 0, .bool false] 72)).alloc (.cells #[.slice none 0 0, .slice none 0 0, .slice none 0 0, .bool OD] 72)) := (Ext.refl _).alloc _
    have hR := Lib.hid ((hxz.block _ (Array.getElem?_eq_some_iff.1 HR3.out).1).trans HR3.out)
    have hQ := Lib.hid ((hxz.block _ (Array.getElem?_eq_some_iff.1 HQ3.out).1).trans HQ3.out)
    have hT := Lib.hid ((hxz.block _ (Array.getElem?_eq_some_iff.1 HT3.out).1).trans HT3.out)
    have hZ : Hid (((((w.alloc (.cells #[.slice a1 r.i.length c1, .slice a2 r.s.length c2, .slice a3 r.b.length c3, .bool r.odd] 72)).alloc (.cells #[.slice b1 q.i.length d1, .slice b2 q.s.length d2, .slice b3 q.b.length d3, .bool q.odd] 72)).alloc (.cells #[.slice none 0 0, .slice none 0 0, .slice none 0 0, .bool false] 72)).alloc (.cells #[.slice none 0 0, .slice none 0 0, .slice none 0 0, .bool OD] 72)).heap[w.heap.size + 1 + 1 + 1]? = some (.cells #[.slice none 0 0, .slice none 0 0, .slice none 0 0, .bool OD] 72 (0, 0))) := by
      have h := heap_alloc_new (((w.alloc (.cells #[.slice a1 r.i.length c1, .slice a2 r.s.length c2, .slice a3 r.b.length c3, .bool r.odd] 72)).alloc (.cells #[.slice b1 q.i.length d1, .slice b2 q.s.length d2, .slice b3 q.b.length d3, .bool q.odd] 72)).alloc (.cells #[.slice none 0 0, .slice none 0 0, .slice none 0 0, .bool false] 72)) (.cells #[.slice none 0 0, .slice none 0 0, .slice none 0 0, .bool OD] 72)
      rw [hs3] at h; exact h
    clear HR3 HQ3 HT3 hxz hs3 r3 q3
    generalize (((w.alloc (.cells #[.slice a1 r.i.length c1, .slice a2 r.s.length c2, .slice a3 r.b.length c3, .bool r.odd] 72)).alloc (.cells #[.slice b1 q.i.length d1, .slice b2 q.s.length d2, .slice b3 q.b.length d3, .bool q.odd] 72)).alloc (.cells #[.slice none 0 0, .slice none 0 0, .slice none 0 0, .bool false] 72)).alloc (.cells #[.slice none 0 0, .slice none 0 0, .slice none 0 0, .bool OD] 72) = w0 at *
    go_wp2_with fail
    refine wp_loop_rounds 4 ?_

    rw [rounds_succ]
    go_upto_region 5 with fail
    have hxd1 : Ext w0 w0.drew := (Ext.refl w0).drew
    have rr := hxd1.cell (cell_of_row _ _ 0 _ _ _ hR.out)
    have qq := hxd1.cell (cell_of_row _ _ 0 _ _ _ hQ.out)
    have s1 := k1.ext (hx0.trans hxd1)
    have s2 := j1.ext (hx0.trans hxd1)
    go_region_law (go_simp; go_at_call 123; refine (M1.out _ _ _ _ _ s1 s2).mono ?_; rintro e y1 ⟨hv, rfl, hS1, hy1⟩; obtain ⟨aa1, cc1, rfl, _, _⟩ := Row.shape hS1; have z0 := hy1.cell (hxd1.cell (cell_of_row _ _ 0 _ _ _ hZ.out)); have hZ1 := Lib.hid ((hy1.block _ (Array.getElem?_eq_some_iff.1 hZ.out).1).trans hZ.out); have z1 : y1.frozen? ⟨w.heap.size + 1 + 1 + 1, 0, none⟩ = false := by simp [World.frozen?, hZ1.out])
    all_goals
      clear rr qq s1 s2 z0 z1
      have hxy := hxd1.trans hy1
      have hb := Lib.hid (setCell_block y1 (w.heap.size + 1 + 1 + 1) 0 (.slice aa1 (minusL r.i q.i).length cc1) _ _ _ hZ1.out)
      have hR1 := Lib.hid ((setCell_block_other y1 ⟨w.heap.size + 1 + 1 + 1, 0, none⟩ (.slice aa1 (minusL r.i q.i).length cc1) w.heap.size (by simp <;> omega)).trans ((hxy.block _ (Array.getElem?_eq_some_iff.1 hR.out).1).trans hR.out))
      have hQ1 := Lib.hid ((setCell_block_other y1 ⟨w.heap.size + 1 + 1 + 1, 0, none⟩ (.slice aa1 (minusL r.i q.i).length cc1) (w.heap.size + 1) (by simp <;> omega)).trans ((hxy.block _ (Array.getElem?_eq_some_iff.1 hQ.out).1).trans hQ.out))
      have hT1 := Lib.hid ((setCell_block_other y1 ⟨w.heap.size + 1 + 1 + 1, 0, none⟩ (.slice aa1 (minusL r.i q.i).length cc1) (w.heap.size + 1 + 1) (by simp <;> omega)).trans ((hxy.block _ (Array.getElem?_eq_some_iff.1 hT.out).1).trans hT.out))
      have hX1 : Ext w (y1.setCell ⟨w.heap.size + 1 + 1 + 1, 0, none⟩ (.slice aa1 (minusL r.i q.i).length cc1)) := (hx0.trans hxy).setCell (by simp <;> omega) _
      have hSn1 := spr_setCell hS1 0 (.slice aa1 (minusL r.i q.i).length cc1) hZ1.out (by simp)
      have hS1 := hSn1
      clear hSn1
      generalize y1.setCell ⟨w.heap.size + 1 + 1 + 1, 0, none⟩ (.slice aa1 (minusL r.i q.i).length cc1) = x1 at *
      have hZ1 : Hid (x1.heap[w.heap.size + 1 + 1 + 1]? = some (.cells #[.slice aa1 (minusL r.i q.i).length cc1, .slice none 0 0, .slice none 0 0, .bool OD] 72 (0, 0))) := hb.out
      clear hb hxy hy1 hxd1
      go_wp2_with fail
      rw [rounds_succ]
      go_upto_region 5 with fail
      have hxd2 : Ext x1 x1.drew := (Ext.refl x1).drew
      have rr := hxd2.cell (cell_of_row _ _ 1 _ _ _ hR1.out)
      have qq := hxd2.cell (cell_of_row _ _ 1 _ _ _ hQ1.out)
      have s1 := k2.ext (hX1.trans hxd2)
      have s2 := j2.ext (hX1.trans hxd2)
      go_region_law (go_simp; go_at_call 123; refine (M2.out _ _ _ _ _ s1 s2).mono ?_; rintro e y2 ⟨hv, rfl, hS2, hy2⟩; obtain ⟨aa2, cc2, rfl, _, _⟩ := Row.shape hS2; have z0 := hy2.cell (hxd2.cell (cell_of_row _ _ 1 _ _ _ hZ1.out)); have hZ2 := Lib.hid ((hy2.block _ (Array.getElem?_eq_some_iff.1 hZ1.out).1).trans hZ1.out); have z1 : y2.frozen? ⟨w.heap.size + 1 + 1 + 1, 1, none⟩ = false := by simp [World.frozen?, hZ2.out])
      all_goals
        clear rr qq s1 s2 z0 z1
        have hxy := hxd2.trans hy2
        have hb := Lib.hid (setCell_block y2 (w.heap.size + 1 + 1 + 1) 1 (.slice aa2 (minusL r.s q.s).length cc2) _ _ _ hZ2.out)
        have hR2 := Lib.hid ((setCell_block_other y2 ⟨w.heap.size + 1 + 1 + 1, 1, none⟩ (.slice aa2 (minusL r.s q.s).length cc2) w.heap.size (by simp <;> omega)).trans ((hxy.block _ (Array.getElem?_eq_some_iff.1 hR1.out).1).trans hR1.out))
        have hQ2 := Lib.hid ((setCell_block_other y2 ⟨w.heap.size + 1 + 1 + 1, 1, none⟩ (.slice aa2 (minusL r.s q.s).length cc2) (w.heap.size + 1) (by simp <;> omega)).trans ((hxy.block _ (Array.getElem?_eq_some_iff.1 hQ1.out).1).trans hQ1.out))
        have hT2 := Lib.hid ((setCell_block_other y2 ⟨w.heap.size + 1 + 1 + 1, 1, none⟩ (.slice aa2 (minusL r.s q.s).length cc2) (w.heap.size + 1 + 1) (by simp <;> omega)).trans ((hxy.block _ (Array.getElem?_eq_some_iff.1 hT1.out).1).trans hT1.out))
        have hX2 : Ext w (y2.setCell ⟨w.heap.size + 1 + 1 + 1, 1, none⟩ (.slice aa2 (minusL r.s q.s).length cc2)) := (hX1.trans hxy).setCell (by simp <;> omega) _
        have hSn2 := spr_setCell hS2 1 (.slice aa2 (minusL r.s q.s).length cc2) hZ2.out (by simp)
        have hS1 := spr_setCell (hS1.ext hxy) 1 (.slice aa2 (minusL r.s q.s).length cc2) hZ2.out (by simp)
        have hS2 := hSn2
        clear hSn2
        generalize y2.setCell ⟨w.heap.size + 1 + 1 + 1, 1, none⟩ (.slice aa2 (minusL r.s q.s).length cc2) = x2 at *
        have hZ2 : Hid (x2.heap[w.heap.size + 1 + 1 + 1]? = some (.cells #[.slice aa1 (minusL r.i q.i).length cc1, .slice aa2 (minusL r.s q.s).length cc2, .slice none 0 0, .bool OD] 72 (0, 0))) := hb.out
        clear hb hxy hy2 hxd2
        go_wp2_with fail
        rw [rounds_succ]
        go_upto_region 5 with fail
        have hxd3 : Ext x2 x2.drew := (Ext.refl x2).drew
        have rr := hxd3.cell (cell_of_row _ _ 2 _ _ _ hR2.out)
        have qq := hxd3.cell (cell_of_row _ _ 2 _ _ _ hQ2.out)
        have s1 := k3.ext (hX2.trans hxd3)
        have s2 := j3.ext (hX2.trans hxd3)
        go_region_law (go_simp; go_at_call 123; refine (M3.out _ _ _ _ _ s1 s2).mono ?_; rintro e y3 ⟨hv, rfl, hS3, hy3⟩; obtain ⟨aa3, cc3, rfl, _, _⟩ := Row.shape hS3; have z0 := hy3.cell (hxd3.cell (cell_of_row _ _ 2 _ _ _ hZ2.out)); have hZ3 := Lib.hid ((hy3.block _ (Array.getElem?_eq_some_iff.1 hZ2.out).1).trans hZ2.out); have z1 : y3.frozen? ⟨w.heap.size + 1 + 1 + 1, 2, none⟩ = false := by simp [World.frozen?, hZ3.out])
        all_goals
          clear rr qq s1 s2 z0 z1
          have hxy := hxd3.trans hy3
          have hb := Lib.hid (setCell_block y3 (w.heap.size + 1 + 1 + 1) 2 (.slice aa3 (minusL r.b q.b).length cc3) _ _ _ hZ3.out)
          have hR3 := Lib.hid ((setCell_block_other y3 ⟨w.heap.size + 1 + 1 + 1, 2, none⟩ (.slice aa3 (minusL r.b q.b).length cc3) w.heap.size (by simp <;> omega)).trans ((hxy.block _ (Array.getElem?_eq_some_iff.1 hR2.out).1).trans hR2.out))
          have hQ3 := Lib.hid ((setCell_block_other y3 ⟨w.heap.size + 1 + 1 + 1, 2, none⟩ (.slice aa3 (minusL r.b q.b).length cc3) (w.heap.size + 1) (by simp <;> omega)).trans ((hxy.block _ (Array.getElem?_eq_some_iff.1 hQ2.out).1).trans hQ2.out))
          have hT3 := Lib.hid ((setCell_block_other y3 ⟨w.heap.size + 1 + 1 + 1, 2, none⟩ (.slice aa3 (minusL r.b q.b).length cc3) (w.heap.size + 1 + 1) (by simp <;> omega)).trans ((hxy.block _ (Array.getElem?_eq_some_iff.1 hT2.out).1).trans hT2.out))
          have hX3 : Ext w (y3.setCell ⟨w.heap.size + 1 + 1 + 1, 2, none⟩ (.slice aa3 (minusL r.b q.b).length cc3)) := (hX2.trans hxy).setCell (by simp <;> omega) _
          have hSn3 := spr_setCell hS3 2 (.slice aa3 (minusL r.b q.b).length cc3) hZ3.out (by simp)
          have hS1 := spr_setCell (hS1.ext hxy) 2 (.slice aa3 (minusL r.b q.b).length cc3) hZ3.out (by simp)
          have hS2 := spr_setCell (hS2.ext hxy) 2 (.slice aa3 (minusL r.b q.b).length cc3) hZ3.out (by simp)
          have hS3 := hSn3
          clear hSn3
          generalize y3.setCell ⟨w.heap.size + 1 + 1 + 1, 2, none⟩ (.slice aa3 (minusL r.b q.b).length cc3) = x3 at *
          have hZ3 : Hid (x3.heap[w.heap.size + 1 + 1 + 1]? = some (.cells #[.slice aa1 (minusL r.i q.i).length cc1, .slice aa2 (minusL r.s q.s).length cc2, .slice aa3 (minusL r.b q.b).length cc3, .bool OD] 72 (0, 0))) := hb.out
          clear hb hxy hy3 hxd3
          go_wp2_with fail
          rw [rounds_succ]
          have f0 := cell_of_row _ _ 0 _ _ _ hZ3.out
          have f1 := cell_of_row _ _ 1 _ _ _ hZ3.out
          have f2 := cell_of_row _ _ 2 _ _ _ hZ3.out
          have f3 := cell_of_row _ _ 3 _ _ _ hZ3.out
          go_wp2_with (refine wpList_store_whole 72 (.tmp 4) (.tmp 31) rfl rfl (w.heap.size + 1 + 1) rfl #[.slice aa1 (minusL r.i q.i).length cc1, .slice aa2 (minusL r.s q.s).length cc2, .slice aa3 (minusL r.b q.b).length cc3, .bool OD] rfl _ 72 hT3.out rfl info72s (by simp [Value.oneCell']) ?_)
          have hq := setRow_heap _ _ _ #[.slice aa1 (minusL r.i q.i).length cc1, .slice aa2 (minusL r.s q.s).length cc2, .slice aa3 (minusL r.b q.b).length cc3, .bool OD] _ _ hT3.out
          have g0 := cell_of_row _ _ 0 _ _ _ hq
          have g1 := cell_of_row _ _ 1 _ _ _ hq
          have g2 := cell_of_row _ _ 2 _ _ _ hq
          have g3 := cell_of_row _ _ 3 _ _ _ hq
          refine bodyPost_ret (v := .agg #[.slice aa1 (minusL r.i q.i).length cc1, .slice aa2 (minusL r.s q.s).length cc2, .slice aa3 (minusL r.b q.b).length cc3, .bool OD]) (by simp [results, Tryz.results85, go_sem, g0, g1, g2, g3]) rfl ⟨_, rfl, ?_, hX3.setRow (by omega) _⟩
          have e : r.minus q = ⟨minusL r.i q.i, minusL r.s q.s, minusL r.b q.b, OD⟩ := by rw [HOD.out]; rfl
          rw [e]
          exact RgR.of (r := ⟨minusL r.i q.i, minusL r.s q.s, minusL r.b q.b, OD⟩) (spr_setRow hS1 hT3.out (by simp)) (spr_setRow hS2 hT3.out (by simp)) (spr_setRow hS3 hT3.out (by simp))
end Go.Proofs.YtlhbpflcffjhmaaGreat

namespace Go.Proofs.YtlhbpflcffjhmaaGreat
open Go.RowKit

theorem firstC_e (k : Int) : (firstC k).e = false := by unfold firstC; split <;> rfl
theorem sp_cells (w : World) (x : Sp) (c : Array Value) (hc : c = (spC x).toArray) : SpR (w.alloc (.cells c 156)) (.slice (some ⟨w.heap.size, 0, none⟩) 1 1) [x] := by
  subst hc; exact spRow w x
theorem first_cells (k : Int) : (#[.string (strOf (firstC k).a), .bool false, .string ⟨#[]⟩, .bool true] : Array Value) = (spC ⟨firstC k, endC⟩).toArray := by
  unfold spC; rw [firstC_e]; rfl

set_option maxRecDepth 100000 in
set_option maxHeartbeats 8000000 in
theorem all_any (w : World) : Calls Tryz.prog 81 #[] w fun e w' => ∃ v, e = .returned v ∧ RgR w' v allR ∧ Ext w w' := by
  obtain ⟨hx0, hT, hZ⟩ := boxes2 w (.cells #[.slice none 0 0, .slice none 0 0, .slice none 0 0, .bool false] 72) (.cells #[.slice none 0 0, .slice none 0 0, .slice none 0 0, .bool true] 72)
  have hF1 := fun (W : World) => first_any W 1
  have hF2 := fun (W : World) => first_any W 2
  have hF3 := fun (W : World) => first_any W 3
  have hc1 := fun (W : World) => sp_cells W ⟨firstC 1, endC⟩ _ (first_cells 1)
  have hc2 := fun (W : World) => sp_cells W ⟨firstC 2, endC⟩ _ (first_cells 2)
  have hc3 := fun (W : World) => sp_cells W ⟨firstC 3, endC⟩ _ (first_cells 3)
  have HF1 := Lib.hid hF1
  have HF2 := Lib.hid hF2
  have HF3 := Lib.hid hF3
  have HC1 := Lib.hid hc1
  have HC2 := Lib.hid hc2
  have HC3 := Lib.hid hc3
  clear hF1 hF2 hF3 hc1 hc2 hc3
  have HT := Lib.hid hT
  have HZ := Lib.hid hZ
  clear hT hZ
  have hall : Hid (allR = ⟨[⟨firstC 1, endC⟩], [⟨firstC 2, endC⟩], [⟨firstC 3, endC⟩], true⟩) := rfl
  generalize firstC 1 = f1 at *
  generalize firstC 2 = f2 at *
  generalize firstC 3 = f3 at *
  go_enter Tryz.func81, Tryz.ntmps81
  go_wp2_with fail
  generalize (w.alloc (.cells #[.slice none 0 0, .slice none 0 0, .slice none 0 0, .bool false] 72)).alloc (.cells #[.slice none 0 0, .slice none 0 0, .slice none 0 0, .bool true] 72) = w0 at *
  refine wp_loop_rounds 4 ?_
  rw [rounds_succ]
  go_wp2_with fail
  refine (HF1.out _).mono ?_
  rintro e y0 ⟨rfl, hy0⟩
  go_wp2_with fail
  refine (end_any _).mono ?_
  rintro e z0 ⟨rfl, hz0⟩
  have hyz0 := hy0.trans hz0
  have hs0 := Lib.hid (HC1.out z0)
  have hal0 := boxes1 z0 (.cells #[.string (strOf f1.a), .bool false, .string ⟨#[]⟩, .bool true] 156)
  have hxa0 := hyz0.trans hal0.1
  have hZ0 := Lib.hid (block_later HZ.out hxa0)
  have hT0 := Lib.hid (block_later HT.out hxa0)
  have hxw0 := hx0.trans hxa0
  obtain ⟨a0, ha0⟩ : ∃ a, a = z0.heap.size := ⟨_, rfl⟩
  clear hy0 hz0 hyz0 hal0 hxa0 HZ HT hx0
  have c0 := cell_of_row _ _ 0 _ _ _ hZ0.out
  have fz0 : (z0.alloc (.cells #[.string (strOf f1.a), .bool false, .string ⟨#[]⟩, .bool true] 156)).frozen? ⟨w.heap.size + 1, 0, none⟩ = false := by simp [World.frozen?, hZ0.out]
  go_wp2_with fail
  rw [← ha0] at hs0 ⊢
  clear c0 fz0 ha0
  generalize z0.alloc (.cells #[.string (strOf f1.a), .bool false, .string ⟨#[]⟩, .bool true] 156) = x0 at *
  have hb0 := Lib.hid (setCell_block x0 (w.heap.size + 1) 0 (.slice (some ⟨a0, 0, none⟩) 1 1) _ _ _ hZ0.out)
  have hTn0 := Lib.hid ((setCell_block_other x0 ⟨w.heap.size + 1, 0, none⟩ (.slice (some ⟨a0, 0, none⟩) 1 1) w.heap.size (by simp)).trans hT0.out)
  have hx0 := hxw0.setCell (p := ⟨w.heap.size + 1, 0, none⟩) (by simp) (.slice (some ⟨a0, 0, none⟩) 1 1)
  have hp0 := Lib.hid (spr_setCell hs0.out 0 (.slice (some ⟨a0, 0, none⟩) 1 1) hZ0.out (by simp))
  generalize x0.setCell ⟨w.heap.size + 1, 0, none⟩ (.slice (some ⟨a0, 0, none⟩) 1 1) = w1 at *
  have HZ : Hid (w1.heap[w.heap.size + 1]? = some (.cells #[.slice (some ⟨a0, 0, none⟩) 1 1, .slice none 0 0, .slice none 0 0, .bool true] 72 (0, 0))) := hb0.out
  have HT : Hid (w1.heap[w.heap.size]? = some (.cells #[.slice none 0 0, .slice none 0 0, .slice none 0 0, .bool false] 72 (0, 0))) := hTn0.out
  clear hb0 hTn0 hxw0 hs0 hZ0 hT0
  rw [rounds_succ]
  go_wp2_with fail
  refine (HF2.out _).mono ?_
  rintro e y1 ⟨rfl, hy1⟩
  go_wp2_with fail
  refine (end_any _).mono ?_
  rintro e z1 ⟨rfl, hz1⟩
  have hyz1 := hy1.trans hz1
  have hs1 := Lib.hid (HC2.out z1)
  have hal1 := boxes1 z1 (.cells #[.string (strOf f2.a), .bool false, .string ⟨#[]⟩, .bool true] 156)
  have hxa1 := hyz1.trans hal1.1
  have hZ1 := Lib.hid (block_later HZ.out hxa1)
  have hT1 := Lib.hid (block_later HT.out hxa1)
  have hp0 := Lib.hid (hp0.out.ext hxa1)
  have hxw1 := hx0.trans hxa1
  obtain ⟨a1, ha1⟩ : ∃ a, a = z1.heap.size := ⟨_, rfl⟩
  clear hy1 hz1 hyz1 hal1 hxa1 HZ HT hx0
  have c1 := cell_of_row _ _ 1 _ _ _ hZ1.out
  have fz1 : (z1.alloc (.cells #[.string (strOf f2.a), .bool false, .string ⟨#[]⟩, .bool true] 156)).frozen? ⟨w.heap.size + 1, 1, none⟩ = false := by simp [World.frozen?, hZ1.out]
  go_wp2_with fail
  rw [← ha1] at hs1 ⊢
  clear c1 fz1 ha1
  generalize z1.alloc (.cells #[.string (strOf f2.a), .bool false, .string ⟨#[]⟩, .bool true] 156) = x1 at *
  have hb1 := Lib.hid (setCell_block x1 (w.heap.size + 1) 1 (.slice (some ⟨a1, 0, none⟩) 1 1) _ _ _ hZ1.out)
  have hTn1 := Lib.hid ((setCell_block_other x1 ⟨w.heap.size + 1, 1, none⟩ (.slice (some ⟨a1, 0, none⟩) 1 1) w.heap.size (by simp)).trans hT1.out)
  have hx0 := hxw1.setCell (p := ⟨w.heap.size + 1, 1, none⟩) (by simp) (.slice (some ⟨a1, 0, none⟩) 1 1)
  have hp0 := Lib.hid (spr_setCell hp0.out 1 (.slice (some ⟨a1, 0, none⟩) 1 1) hZ1.out (by simp))
  have hp1 := Lib.hid (spr_setCell hs1.out 1 (.slice (some ⟨a1, 0, none⟩) 1 1) hZ1.out (by simp))
  generalize x1.setCell ⟨w.heap.size + 1, 1, none⟩ (.slice (some ⟨a1, 0, none⟩) 1 1) = w2 at *
  have HZ : Hid (w2.heap[w.heap.size + 1]? = some (.cells #[.slice (some ⟨a0, 0, none⟩) 1 1, .slice (some ⟨a1, 0, none⟩) 1 1, .slice none 0 0, .bool true] 72 (0, 0))) := hb1.out
  have HT : Hid (w2.heap[w.heap.size]? = some (.cells #[.slice none 0 0, .slice none 0 0, .slice none 0 0, .bool false] 72 (0, 0))) := hTn1.out
  clear hb1 hTn1 hxw1 hs1 hZ1 hT1
  rw [rounds_succ]
  go_wp2_with fail
  refine (HF3.out _).mono ?_
  rintro e y2 ⟨rfl, hy2⟩
  go_wp2_with fail
  refine (end_any _).mono ?_
  rintro e z2 ⟨rfl, hz2⟩
  have hyz2 := hy2.trans hz2
  have hs2 := Lib.hid (HC3.out z2)
  have hal2 := boxes1 z2 (.cells #[.string (strOf f3.a), .bool false, .string ⟨#[]⟩, .bool true] 156)
  have hxa2 := hyz2.trans hal2.1
  have hZ2 := Lib.hid (block_later HZ.out hxa2)
  have hT2 := Lib.hid (block_later HT.out hxa2)
  have hp0 := Lib.hid (hp0.out.ext hxa2)
  have hp1 := Lib.hid (hp1.out.ext hxa2)
  have hxw2 := hx0.trans hxa2
  obtain ⟨a2, ha2⟩ : ∃ a, a = z2.heap.size := ⟨_, rfl⟩
  clear hy2 hz2 hyz2 hal2 hxa2 HZ HT hx0
  have c2 := cell_of_row _ _ 2 _ _ _ hZ2.out
  have fz2 : (z2.alloc (.cells #[.string (strOf f3.a), .bool false, .string ⟨#[]⟩, .bool true] 156)).frozen? ⟨w.heap.size + 1, 2, none⟩ = false := by simp [World.frozen?, hZ2.out]
  go_wp2_with fail
  rw [← ha2] at hs2 ⊢
  clear c2 fz2 ha2
  generalize z2.alloc (.cells #[.string (strOf f3.a), .bool false, .string ⟨#[]⟩, .bool true] 156) = x2 at *
  have hb2 := Lib.hid (setCell_block x2 (w.heap.size + 1) 2 (.slice (some ⟨a2, 0, none⟩) 1 1) _ _ _ hZ2.out)
  have hTn2 := Lib.hid ((setCell_block_other x2 ⟨w.heap.size + 1, 2, none⟩ (.slice (some ⟨a2, 0, none⟩) 1 1) w.heap.size (by simp)).trans hT2.out)
  have hx0 := hxw2.setCell (p := ⟨w.heap.size + 1, 2, none⟩) (by simp) (.slice (some ⟨a2, 0, none⟩) 1 1)
  have hp0 := Lib.hid (spr_setCell hp0.out 2 (.slice (some ⟨a2, 0, none⟩) 1 1) hZ2.out (by simp))
  have hp1 := Lib.hid (spr_setCell hp1.out 2 (.slice (some ⟨a2, 0, none⟩) 1 1) hZ2.out (by simp))
  have hp2 := Lib.hid (spr_setCell hs2.out 2 (.slice (some ⟨a2, 0, none⟩) 1 1) hZ2.out (by simp))
  generalize x2.setCell ⟨w.heap.size + 1, 2, none⟩ (.slice (some ⟨a2, 0, none⟩) 1 1) = w3 at *
  have HZ : Hid (w3.heap[w.heap.size + 1]? = some (.cells #[.slice (some ⟨a0, 0, none⟩) 1 1, .slice (some ⟨a1, 0, none⟩) 1 1, .slice (some ⟨a2, 0, none⟩) 1 1, .bool true] 72 (0, 0))) := hb2.out
  have HT : Hid (w3.heap[w.heap.size]? = some (.cells #[.slice none 0 0, .slice none 0 0, .slice none 0 0, .bool false] 72 (0, 0))) := hTn2.out
  clear hb2 hTn2 hxw2 hs2 hZ2 hT2
  rw [rounds_succ]
  have q0 := cell_of_row _ _ 0 _ _ _ HZ.out
  have q1 := cell_of_row _ _ 1 _ _ _ HZ.out
  have q2 := cell_of_row _ _ 2 _ _ _ HZ.out
  have q3 := cell_of_row _ _ 3 _ _ _ HZ.out
  go_wp2_with (refine wpList_store_whole 72 (.tmp 0) (.tmp 17) rfl rfl w.heap.size rfl #[.slice (some ⟨a0, 0, none⟩) 1 1, .slice (some ⟨a1, 0, none⟩) 1 1, .slice (some ⟨a2, 0, none⟩) 1 1, .bool true] rfl _ 72 HT.out rfl info72s (by simp [Value.oneCell']) ?_)
  have hq := setRow_heap _ _ _ #[.slice (some ⟨a0, 0, none⟩) 1 1, .slice (some ⟨a1, 0, none⟩) 1 1, .slice (some ⟨a2, 0, none⟩) 1 1, .bool true] _ _ HT.out
  have g0 := cell_of_row _ _ 0 _ _ _ hq
  have g1 := cell_of_row _ _ 1 _ _ _ hq
  have g2 := cell_of_row _ _ 2 _ _ _ hq
  have g3 := cell_of_row _ _ 3 _ _ _ hq
  refine bodyPost_ret (v := .agg #[.slice (some ⟨a0, 0, none⟩) 1 1, .slice (some ⟨a1, 0, none⟩) 1 1, .slice (some ⟨a2, 0, none⟩) 1 1, .bool true]) (by simp [results, Tryz.results81, go_sem, g0, g1, g2, g3]) rfl ⟨_, rfl, ?_, hx0.setRow (Nat.le_refl _) _⟩
  rw [hall.out]
  exact RgR.of (r := ⟨[⟨f1, endC⟩], [⟨f2, endC⟩], [⟨f3, endC⟩], true⟩) (spr_setRow hp0.out HT.out (by simp)) (spr_setRow hp1.out HT.out (by simp)) (spr_setRow hp2.out HT.out (by simp))
end Go.Proofs.YtlhbpflcffjhmaaGreat

namespace Go.Proofs.YtlhbpflcffjhmaaGreat
open Go.RowKit

section
variable {P : Program}

/-- From m on each operation waits for all ahead of it, by way of others. -/
def chainOk (ops : Array Oper) (m : Nat) : Bool :=
  (List.range ops.size).all fun i => i < m || (List.range i).all fun j => (List.range (i + 1)).any fun k => decide (j < k) && waits ops k j

theorem chain_reach {ops : Array Oper} {m : Nat} (hc : chainOk ops m = true) {listed : Array Bool}
    (down : ∀ j, listed.getD j false = true → ∀ i, waits ops j i = true → listed.getD i false = true)
    {i : Nat} (hi : i < ops.size) (him : m ≤ i) (hd : ∀ j, waits ops i j = true → listed.getD j false = true) : ∀ j, j < i → listed.getD j false = true := by
  have h1 := List.all_eq_true.1 hc i (List.mem_range.2 hi)
  simp only [Bool.or_eq_true, decide_eq_true_eq] at h1
  have h2 := List.all_eq_true.1 (h1.resolve_left (by omega))
  have key : ∀ d j, i - j = d → j < i → listed.getD j false = true := by
    intro d
    induction d using Nat.strongRecOn with
    | _ d ih =>
      intro j hd' hj
      obtain ⟨k, hk, hk2⟩ := List.any_eq_true.1 (h2 j (List.mem_range.2 hj))
      simp only [Bool.and_eq_true, decide_eq_true_eq] at hk2
      have hki := List.mem_range.1 hk
      by_cases he : k = i
      · subst he; exact hd j hk2.2
      · exact down k (ih (i - k) (by omega) k rfl (by omega)) j hk2.2
  intro j hj
  exact key _ j rfl hj

/-- Behind the facts: the chain. -/
theorem chain_any {ops : Array Oper} {m : Nat} (hc : chainOk ops m = true) (hord : ∀ i o, ops[i]? = some o → ∀ e ∈ o.after, Region.binds .any e = true → e.on < i) {Q : Exit → Act → World → Prop} :
    ∀ (fuel i : Nat) (listed : Array Bool) (a : Act) (w : World), m ≤ i → i + fuel = ops.size → listed.size = ops.size →
      (∀ j, j < i → listed.getD j false = true) → (∀ j, i ≤ j → listed.getD j false = false) →
      (∀ j, listed.getD j false = true → ∀ i, waits ops j i = true → listed.getD i false = true) →
      wpList P ops Q (ops.toList.drop i) a w → wpAny P .any ops Q fuel listed a w := by
  intro fuel
  induction fuel with
  | zero =>
    intro i listed a w hmi hf hs hl hn hdn h
    have e : ops.toList.drop i = [] := List.drop_eq_nil_of_le (by simp; omega)
    rw [e] at h
    refine ⟨?_, h⟩
    cases hr : Region.ready .any ops listed with
    | nil => rfl
    | cons k ks =>
      have hm : k ∈ Region.ready .any ops listed := by rw [hr]; exact List.mem_cons_self
      obtain ⟨h0, o, ho, _⟩ := mem_ready.1 hm
      have hk : k < ops.size := (Array.getElem?_eq_some_iff.1 ho).1
      have h1 := hl k (by omega)
      have hk' : k < listed.size := by omega
      simp [hk'] at h0 h1
      rw [h0] at h1; cases h1
  | succ fuel ih =>
    intro i listed a w hmi hf hs hl hn hdn h
    have hi : i < ops.size := by omega
    have ho : ops[i]? = some ops[i] := by simp [hi]
    have hil' : i < listed.size := by omega
    have hready : i ∈ Region.ready .any ops listed := by
      refine mem_ready.2 ⟨?_, ops[i], ho, fun e he hb => hl _ (hord i _ ho e he hb)⟩
      have := hn i (Nat.le_refl _)
      simp [hil'] at this ⊢; exact this
    refine ⟨fun hr => absurd hready (by rw [hr]; exact List.not_mem_nil), fun k hk => ?_⟩
    obtain ⟨h0, o, hok, _⟩ := mem_ready.1 hk
    have hks : k < ops.size := (Array.getElem?_eq_some_iff.1 hok).1
    have hkl : k < listed.size := by omega
    have h0' : listed.getD k false = false := by simp [hkl] at h0 ⊢; exact h0
    have hik : i ≤ k := by
      rcases Nat.lt_or_ge k i with h' | h'
      · have := hl k h'; rw [h0'] at this; cases this
      · exact h'
    have hall := chain_reach hc hdn hks (by omega) (waits_of_ready hk)
    have hki : k = i := by
      rcases Nat.lt_or_ge i k with h' | h'
      · have := hall i h'; rw [hn i (Nat.le_refl _)] at this; cases this
      · omega
    subst hki
    have hdrop : ops.toList.drop k = ops[k] :: ops.toList.drop (k + 1) := by
      rw [List.drop_eq_getElem_cons (by simpa using hi)]; simp
    rw [hdrop] at h
    have next : ∀ a w, wpList P ops Q (ops.toList.drop (k + 1)) a w → wpAny P .any ops Q fuel (listed.setIfInBounds k true) a w := by
      intro a w h
      refine ih (k + 1) _ a w (by omega) (by omega) (by simpa using hs) (fun j hj => ?_) (fun j hj => ?_) (fun j hj x hx => ?_) h
      · by_cases e : k = j
        · subst e; simp [hil']
        · exact getD_set_true (hl j (by omega))
      · rw [getD_set_ne false (by omega)]; exact hn j (by omega)
      · by_cases e : k = j
        · subst e; exact getD_set_true (waits_of_ready hk x hx)
        · rw [getD_set_ne false e] at hj; exact getD_set_true (hdn j hj x hx)
    unfold wpOp
    rw [ho]
    simp only []
    simp only [wpList] at h
    split
    · rename_i hw
      rw [if_pos hw] at h
      exact h.imp (Oper.wp_mono next) id
    · rename_i hw
      rw [if_neg hw] at h
      exact next _ _ h

theorem region_chain {ops : Array Oper} {m : Nat} {F : Nat → Value → World → Prop} {a0 : Act} {w0 : World} {D : List (List (Nat × Tmp))} {E : List (Nat × Tmp)} {Q : Exit → Act → World → Prop}
    (hok : opsOk ops a0.tmps.size 0 (ops.toList.take m) D = true) (hms : m ≤ ops.size)
    (hE : ((E.all fun p => decide (p.1 < m) && dstOf ops p.1 == some p.2) && (List.range m).all fun j => match dstOf ops j with | some _ => E.any fun p => p.1 == j | none => true) = true)
    (hc : chainOk ops m = true) (hord : ∀ i o, ops[i]? = some o → ∀ e ∈ o.after, Region.binds .any e = true → e.on < i)
    (hst : ∀ i v w w', Ext w w' → F i v w → F i v w')
    (hob : Obs P ops F a0 w0 0 (ops.toList.take m) D)
    (hend : ∀ w, Ext w0 w → depsThen F w E a0 (fun a => wpList P ops Q (ops.toList.drop m) a w)) :
    ∀ (fuel : Nat) (listed : Array Bool) (a : Act) (w : World), listed.count false = fuel → (∀ j, m ≤ j → listed.getD j false = false) → Inv ops F a0 w0 listed a w → wpAny P .any ops Q fuel listed a w := by
  have hget : ∀ {i o}, i < m → ops[i]? = some o → (ops.toList.take m)[i]? = some o := fun {i o} hi h => by
    rw [List.getElem?_take, if_pos hi]; simpa using h
  have hall : ∀ {i o}, i < m → ops[i]? = some o → opOk ops a0.tmps.size i o (D.getD i []) = true := fun {i o} hi h => by
    have := opsOk_get hok i o (hget hi h); simpa using this
  have hobs : ∀ {i o}, i < m → ops[i]? = some o → Ob P ops F a0 w0 i o (D.getD i []) := fun {i o} hi h => by
    have := Obs_get hob i o (hget hi h); simpa using this
  -- all ahead of the chain are listed: the chain
  have fin : ∀ (fuel : Nat) (listed : Array Bool) (a : Act) (w : World), m + fuel = ops.size → (∀ j, j < m → listed.getD j false = true) → (∀ j, m ≤ j → listed.getD j false = false) → Inv ops F a0 w0 listed a w → wpAny P .any ops Q fuel listed a w := by
    intro fuel listed a w hf hl hno hI
    simp only [Bool.and_eq_true] at hE
    obtain ⟨c, hk, hc1, hc2, hc3⟩ := depsThen_at a _ E a0 hI.ts.symm (fun p hp => by
      have hd := List.all_eq_true.1 hE.1 p hp
      simp only [Bool.and_eq_true, decide_eq_true_eq, beq_iff_eq] at hd
      have := hI.fact p.1 (by omega) (hl p.1 hd.1)
      simp only [hd.2] at this
      exact this) (hend w hI.ext)
    have : c = a := by
      obtain ⟨ct, cd⟩ := c
      obtain ⟨at', ad⟩ := a
      have e2 : cd = ad := hc2.trans hI.df.symm
      have e1 : ct = at' := by
        apply Array.ext_getElem?
        intro s
        refine tmps_ext (a := ⟨ct, cd⟩) (b := ⟨at', ad⟩) hc1 ?_
        rw [hc3]
        split
        · rfl
        · rename_i hn
          refine (hI.old s fun j hj => ?_).symm
          rcases Nat.lt_or_ge j m with hjm | hjm
          · exfalso
            have h2 := List.all_eq_true.1 hE.2 j (List.mem_range.2 hjm)
            simp only [hj, List.any_eq_true, beq_iff_eq] at h2
            obtain ⟨p, hp, hpj⟩ := h2
            have hd := List.all_eq_true.1 hE.1 p hp
            simp only [Bool.and_eq_true, decide_eq_true_eq, beq_iff_eq] at hd
            have hd2 := hd.2
            rw [hpj, hj] at hd2
            exact hn ⟨p, hp, (Option.some.inj hd2).symm⟩
          · exact hno j hjm
      rw [e1, e2]
    rw [← this]
    exact chain_any hc hord fuel m listed c w (Nat.le_refl _) hf hI.size hl hno hI.down hk
  have hready_lt : ∀ (listed : Array Bool) (a : Act) (w : World), (∀ j, m ≤ j → listed.getD j false = false) → Inv ops F a0 w0 listed a w → (¬ ∀ j, j < m → listed.getD j false = true) → ∀ i ∈ Region.ready .any ops listed, i < m := by
    intro listed a w hno hI hnot i hi
    obtain ⟨_, o, ho, _⟩ := mem_ready.1 hi
    have his : i < ops.size := (Array.getElem?_eq_some_iff.1 ho).1
    rcases Nat.lt_or_ge i m with h' | h'
    · exact h'
    · exfalso
      have hr := chain_reach hc hI.down his h' (waits_of_ready hi)
      exact hnot fun j hj => hr j (by omega)
  have hcount : ∀ (listed : Array Bool), listed.size = ops.size → (∀ j, j < m → listed.getD j false = true) → (∀ j, m ≤ j → listed.getD j false = false) → m + listed.count false = ops.size := by
    intro listed hs hl hno
    have e : listed = (List.replicate m true ++ List.replicate (ops.size - m) false).toArray := by
      apply Array.ext
      · simp; omega
      · intro j h1 h2
        have hj : j < listed.size := h1
        rcases Nat.lt_or_ge j m with hjm | hjm
        · have := hl j hjm
          simp [hj] at this
          rw [this]
          simp [hjm]
        · have := hno j hjm
          simp [hj] at this
          rw [this]
          have : ¬ j < m := by omega
          simp [List.getElem_append, this]
    rw [e]
    simp [List.count_append, List.count_replicate]
    omega
  intro fuel
  induction fuel with
  | zero =>
    intro listed a w hc0 hno hI
    by_cases hl : ∀ j, j < m → listed.getD j false = true
    · exact fin 0 listed a w (by have := hcount listed hI.size hl hno; omega) hl hno hI
    · exfalso
      apply hl
      intro j hj
      have hj' : j < listed.size := by rw [hI.size]; omega
      have := Array.count_eq_zero.1 hc0
      have h2 : listed[j] ≠ false := fun e => this (e ▸ Array.getElem_mem hj')
      simp [hj']; simpa using h2
  | succ fuel ih =>
    intro listed a w hcn hno hI
    by_cases hl : ∀ j, j < m → listed.getD j false = true
    · exact fin (fuel + 1) listed a w (by have := hcount listed hI.size hl hno; omega) hl hno hI
    refine ⟨fun hr => ?_, fun i hi => ?_⟩
    · exfalso
      apply hl
      intro j
      induction j using Nat.strongRecOn with
      | _ j ihj =>
        intro hjm
        have hj : j < ops.size := by omega
        cases hlj : listed.getD j false with
        | true => rfl
        | false =>
          exfalso
          have ho : ops[j]? = some ops[j] := by simp [hj]
          have hmem : j ∈ Region.ready .any ops listed := by
            refine mem_ready.2 ⟨?_, ops[j], ho, fun e he hb => ?_⟩
            · have : j < listed.size := by rw [hI.size]; exact hj
              simp [this] at hlj ⊢; exact hlj
            · have := hord j _ ho e he hb
              exact ihj e.on this (by omega)
          rw [hr] at hmem
          cases hmem
    have him := hready_lt listed a w hno hI hl i hi
    obtain ⟨h0, o, ho, hafter⟩ := mem_ready.1 hi
    have hil : i < ops.size := (Array.getElem?_eq_some_iff.1 ho).1
    have hil' : i < listed.size := hI.size ▸ hil
    have h0' : listed.getD i false = false := by simp [hil'] at h0 ⊢; exact h0
    have hopk := hall him ho
    simp only [opOk, Bool.and_eq_true] at hopk
    obtain ⟨⟨⟨⟨hk1, hk2⟩, hk3⟩, hk4⟩, hk5⟩ := hopk
    have hdep2 : ∀ p ∈ D.getD i [], waits ops i p.1 = true ∧ dstOf ops p.1 = some p.2 := fun p hp => by
      have := List.all_eq_true.1 hk3 p hp
      simpa using this
    have hdeps : ∀ p ∈ D.getD i [], listed.getD p.1 false = true := fun p hp => waits_of_ready hi p.1 (hdep2 p hp).1
    have hsel : ∀ cs b, o.op ≠ .select cs b := by intro cs b e; rw [e] at hk2; cases hk2
    have hjlt : ∀ j, listed.getD j false = true → j < ops.size := fun j hj => by
      rcases Nat.lt_or_ge j listed.size with h' | h'
      · exact hI.size ▸ h'
      · simp [Array.getElem?_eq_none h'] at hj
    obtain ⟨c, hk, hc1, hc2, hc3⟩ := depsThen_at a _ (D.getD i []) a0 hI.ts.symm (fun p hp => by
      have := hI.fact p.1 (hjlt p.1 (hdeps p hp)) (hdeps p hp)
      simp only [(hdep2 p hp).2] at this
      exact this) (hobs him ho w hI.ext)
    have same : ∀ s ∈ o.looksAt ops, c.tmps[s]? = a.tmps[s]? := by
      intro s hs
      refine tmps_ext hc1 ?_
      rw [hc3]
      split
      · rfl
      · rename_i hn
        refine (hI.old s fun j hj => ?_).symm
        have hjl : j < ops.size := by
          unfold dstOf at hj
          rcases Nat.lt_or_ge j ops.size with h' | h'
          · exact h'
          · rw [Array.getElem?_eq_none h'] at hj; cases hj
        have h1 := List.all_eq_true.1 (List.all_eq_true.1 hk5 s hs) j (List.mem_range.2 hjl)
        simp only [Bool.or_eq_true, bne_iff_ne, ne_eq, beq_iff_eq] at h1
        rcases h1 with ((h1 | h1) | h1) | h1
        · exact absurd hj h1
        · exfalso
          rw [List.any_eq_true] at h1
          obtain ⟨p, hp, hpj⟩ := h1
          have hd := (hdep2 p hp).2
          rw [eq_of_beq hpj, hj] at hd
          exact hn ⟨p, hp, (Option.some.inj hd).symm⟩
        · rw [h1]; exact h0'
        · cases hlj : listed.getD j false with
          | false => rfl
          | true => have := hI.down j hlj i h1; rw [h0'] at this; cases this
    have heval : execOp c.eval o = execOp a.eval o := execOp_congr o hsel fun x hx => by
      cases x with
      | tmp t =>
        have := same t (List.mem_append_left _ (List.mem_filterMap.2 ⟨.tmp t, by simpa using hx, rfl⟩))
        simp [Act.eval, this]
      | _ => rfl
    have hwant : Region.wanted o (yielded ops c.tmps) = Region.wanted o (yielded ops a.tmps) := by
      unfold Region.wanted
      cases hg : o.guard with
      | none => rfl
      | some gw =>
        obtain ⟨g, want⟩ := gw
        have hy : yielded ops c.tmps g = yielded ops a.tmps g := by
          unfold yielded
          cases ht : (ops[g]?).bind (·.dst) with
          | none => rfl
          | some t =>
            have := same t (by simp [Oper.looksAt, hg, ht])
            simp [this]
        simp only [hy]
    have next : ∀ v w', Ext w w' → F i (match o.dst with | some d => (c.put o.dst v).tmps.getD d undef | none => undef) w' →
        wpAny P .any ops Q fuel (listed.setIfInBounds i true) (a.put o.dst v) w' := by
      intro v w' hx hF
      have hdst : dstOf ops i = o.dst := by simp [dstOf, ho]
      refine ih _ _ _ ?_ ?_ ⟨by simpa using hI.size, by rw [put_size]; exact hI.ts, by rw [put_defers]; exact hI.df, ?_, ?_, ?_, hI.ext.trans hx⟩
      · have hset : listed.setIfInBounds i true = listed.set i true hil' := by simp [Array.setIfInBounds, hil']
        rw [hset, Array.count_set]
        have : listed[i] = false := by simpa [hil'] using h0'
        simp [this]; omega
      · intro j hj
        rw [getD_set_ne false (by omega)]; exact hno j hj
      · intro s hs
        have hne : o.dst ≠ some s := fun e => by
          have := hs i (hdst.trans e)
          simp [hil'] at this
        rw [put_getD_ne _ hne]
        refine hI.old s fun j hj => ?_
        by_cases hji : i = j
        · rw [← hji]; exact h0'
        · have := hs j hj
          rwa [getD_set_ne false hji] at this
      · intro j hj hlj
        by_cases hji : i = j
        · subst hji
          rw [hdst]
          cases hd : o.dst with
          | none => simp only [hd] at hF; exact hF
          | some d =>
            simp only [hd] at hF hk1
            simp only [Bool.and_eq_true, decide_eq_true_eq] at hk1
            rw [put_getD_eq _ (by rw [hc1, hI.ts]; exact hk1.1)] at hF
            show F i ((a.put (some d) v).tmps.getD d undef) w'
            rw [put_getD_eq _ (by rw [hI.ts]; exact hk1.1)]
            exact hF
        · rw [getD_set_ne false hji] at hlj
          have hfj := hst _ _ _ _ hx (hI.fact j hj hlj)
          cases hdj : dstOf ops j with
          | none => simp only [hdj] at hfj; exact hfj
          | some d =>
            simp only [hdj] at hfj
            have hne : o.dst ≠ some d := fun e => by
              rw [e] at hk1
              simp only [Bool.and_eq_true] at hk1
              have := List.all_eq_true.1 hk1.2 j (List.mem_range.2 hj)
              simp [hdj, Ne.symm hji] at this
            show F j ((a.put o.dst v).tmps.getD d undef) w'
            rw [put_getD_ne _ hne]
            exact hfj
      · intro j hlj k hw
        by_cases hji : i = j
        · subst hji; exact getD_set_true (waits_of_ready hi k hw)
        · rw [getD_set_ne false hji] at hlj
          exact getD_set_true (hI.down j hlj k hw)
    unfold wpOp
    rw [ho]
    simp only []
    rw [← hwant]
    simp only [wpList] at hk
    split
    · rename_i hw
      rw [if_pos hw] at hk
      rcases hk with hk | ⟨_, x, y, hxy⟩
      · refine .inl ?_
        unfold Oper.wp at hk ⊢
        rw [heval] at hk
        generalize (execOp a.eval o).run P w = r at *
        cases r with
        | ok n w' =>
          cases n <;> simp only [Oper.upon] at hk ⊢
          case value u => exact next u w' hk.2.1 hk.2.2.2
          case skip => exact next undef w' hk.2.1 hk.2.2.2
          case defer d =>
            have := hk.2.2.1
            rw [put_defers] at this
            exact absurd this (by simp)
          case enter f args =>
            refine Calls.mono hk fun e w'' he => ?_
            cases e with
            | returned u => exact next u w'' he.2.1 he.2.2.2
            | panicked c => exact absurd he.1 (by simp)
            | outgrown => obtain ⟨_, _, h⟩ := he; exact absurd h.1 (by simp)
          case row row args => exact Rows.mono hk fun u w'' he => next u w'' he.2.1 he.2.2.2
        | halt x w' =>
          cases x <;> simp only [Oper.upon] at hk ⊢
          case panic u => exact absurd hk.1 (by simp)
      · exact absurd hxy.1 (by simp)
    · rename_i hw
      rw [if_neg hw] at hk
      exact next undef w hk.2.1 hk.2.2.2

def ordOk (ops : Array Oper) : Bool := (List.range ops.size).all fun i => match ops[i]? with | some o => o.after.all fun e => !Region.binds .any e || e.on < i | none => true

/-- A REGION THAT DRAWS ITS ORDER AND ENDS IN A CHAIN: the first m operations by facts, the others as they stand. -/
theorem wp_region_chain {id : Nat} {l : List Oper} (m : Nat) (Fs : List Fact) (D : List (List (Nat × Tmp))) (E : List (Nat × Tmp)) {a0 : Act} {w0 : World} {Q : Exit → Act → World → Prop}
    (hm : P.follows .mixedOrders = true)
    (hok : (opsOk l.toArray a0.tmps.size 0 (l.take m) D && decide (m ≤ l.length) && ((E.all fun p => decide (p.1 < m) && dstOf l.toArray p.1 == some p.2) && (List.range m).all fun j => match dstOf l.toArray j with | some _ => E.any fun p => p.1 == j | none => true) && chainOk l.toArray m && ordOk l.toArray) = true)
    (hob : Obs P l.toArray (factAt Fs) a0 w0 0 (l.take m) D)
    (hend : ∀ w, Ext w0 w → depsThen (factAt Fs) w E a0 (fun a => wpList P l.toArray Q (l.drop m) a w)) :
    (Code.region id l.toArray true).wp P Q a0 w0 := by
  simp only [Bool.and_eq_true] at hok
  obtain ⟨⟨⟨⟨k1, k2⟩, k3⟩, k4⟩, k5⟩ := hok
  have hno : ∀ j, (Array.replicate l.toArray.size false).getD j false = false := fun j => by
    simp only [Array.getD_eq_getD_getElem?, Array.getElem?_replicate]; split <;> rfl
  refine wp_region_any hm (region_chain (m := m) (F := factAt Fs) (D := D) (E := E) (w0 := w0) k1 (by simpa using k2) (by simp only [Bool.and_eq_true]; exact k3) k4 ?_ (fun i v w w' hx h => (Fs.getD i Fact.any).st v w w' hx h) hob hend _ _ _ _ ?_ (fun j _ => hno j) ?_)
  · intro i o ho e he hb
    have hi : i < l.toArray.size := (Array.getElem?_eq_some_iff.1 ho).1
    have h1 := List.all_eq_true.1 k5 i (List.mem_range.2 hi)
    simp only [ho] at h1
    have h2 := (Array.all_eq_true_iff_forall_mem.1 h1) e he
    simpa [hb] using h2
  · simp
  · exact ⟨by simp, rfl, rfl, fun _ _ => rfl, fun j _ h => (by rw [hno] at h; cases h), fun j h => (by rw [hno] at h; cases h), (Ext.refl w0).drew⟩

end
end Go.Proofs.YtlhbpflcffjhmaaGreat
