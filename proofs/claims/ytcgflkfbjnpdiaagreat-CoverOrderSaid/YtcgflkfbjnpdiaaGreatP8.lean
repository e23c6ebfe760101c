/- Spans without others: minus.
What slices.DeleteFunc's loop keeps. (Of any program.)
The reference's Compare of values.
What a constraint asks of a value: pred.asks, pred.Holds. -/
import Derived.RegionTactic
import Derived.ChangeAlike
import Derived.Test.YtcgflkfbjnpdiaaGreatP7
import Derived.Test.YtcgflkfbjnpdiaaGreatP3
import Derived.Test.YtcgflkfbjnpdiaaGreatP4
namespace Go.Proofs.YtcgflkfbjnpdiaaGreat
open Go.RowKit Go.Sort

theorem info101t : (Tryz.prog.info? 113).map (fun i => (i.zero, i.size, i.bytes)) = some (some (.agg #[.string ⟨#[]⟩, .bool false, .string ⟨#[]⟩, .bool false]), 4, 48) := by kernel_rfl

/-- A part of a row or struct is stored. -/
theorem wpList_store_part {P : Program} {ops : Array Oper} {Q : Exit → Act → World → Prop} {a : Act} {w : World} {rest : List Oper} {o : Oper}
    (ty : TypeId) (x y : Operand) (ho : o.op = .store ty x y) (hw : Region.wanted o (yielded ops a.tmps) = true)
    (g off : Nat) (hx : a.eval x = .pointer (some ⟨g, off, none⟩)) (cs : Array Value) (hy : a.eval y = .agg cs) (c : Array Value) (t : TypeId) (R : Array Value)
    (hg : w.heap[g]? = some (.cells c t (0, 0))) (hsz : off + cs.size ≤ c.size) (hi : (P.info? ty).map (·.size) = some cs.size) (h1 : ∀ v ∈ cs.toList, v.oneCell' = true)
    (hR : (c.toList.take off ++ cs.toList ++ c.toList.drop (off + cs.size)).toArray = R)
    (h : wpList P ops Q rest (a.put o.dst undef) (w.setRow g R)) : wpList P ops Q (o :: rest) a w := by
  have hst := run_storeCells_at (P := P) g off t cs.toList 0 c w hg (by simpa using hsz) h1
  simp only [Nat.add_zero, Array.length_toList] at hst
  rw [hR] at hst
  have hr : (execOp a.eval o).run P w = .ok .skip (w.setRow g R) := by
    cases hq : P.info? ty with
    | none => simp [hq] at hi
    | some i =>
      have hs : cs.size = i.size := by simp [hq] at hi; omega
      simp [execOp, ho, hx, hy, Instr.storeAt, Instr.sureAddr, storeVar, sizeOf, typeInfo, hq, Value.cells, hs, hst]
  simp only [wpList, hw, if_true]
  refine .inl ?_
  unfold Oper.wp
  rw [hr]
  exact h

theorem flat_take_le {α β : Type} (f : α → List β) (l : List α) (k : Nat) : ((l.take k).flatMap f).length ≤ (l.flatMap f).length := by
  conv => rhs; rw [← List.take_append_drop k l, List.flatMap_append, List.length_append]
  exact Nat.le_add_right _ _
theorem spRow (w : World) (x : Sp) : Row (w.alloc (.cells (spC x).toArray 113)) 4 (.slice (some ⟨w.heap.size, 0, none⟩) 1 1) 1 (spC x) :=
  Row.of_own (World.ownsRow_lit (base := w.heap.size) (e := 113) (size := 4) w (spC x).toArray 1 (Nat.le_refl _) (by decide) rfl)
theorem sp_lit (w : World) (l : List Sp) (hm : l.length ≤ maxLen) : SpR (w.alloc (.cells (l.flatMap spC).toArray 113)) (.slice (some ⟨w.heap.size, 0, none⟩) l.length l.length) l :=
  Row.of_own (World.ownsRow_lit (base := w.heap.size) (e := 113) (size := 4) w (l.flatMap spC).toArray l.length (Nat.le_refl _) hm (by simp only [List.size_toArray]; exact flat_len spC 4 spC_len l))

set_option maxRecDepth 100000 in
set_option maxHeartbeats 8000000 in
theorem minus_any (w : World) (v1 v2 : Value) (l m : List Sp) (h1 : SpR w v1 l) (h2 : SpR w v2 m) (hb : ∀ k, k ≤ m.length → (minusL l (m.take k)).length ≤ 1000000) :
    Calls Tryz.prog 113 #[v1, v2] w fun e w' => ∃ v, e = .returned v ∧ SpR w' v (minusL l m) ∧ Ext w w' := by
  obtain ⟨a1, c1, rfl, _, hm1⟩ := Row.shape h1
  obtain ⟨a2, c2, rfl, _, hm2⟩ := Row.shape h2
  unfold maxLen at hm1 hm2
  have H1 := Lib.hid h1
  have H2 := Lib.hid h2
  have HBD := Lib.hid hb
  clear h1 h2 hb
  obtain ⟨n, hn⟩ : ∃ n, n = m.length := ⟨_, rfl⟩
  have HN := Lib.hid hn
  rw [← hn] at H2 ⊢
  clear hn
  go_enter Tryz.func113, Tryz.ntmps113
  go_wp2_with fail
  go_loopw [0, 6, 7, 9, 10, 11, 13, 16] (fun v _ _ _ _ _ _ i wr => ∃ k : Nat, k ≤ n ∧ i = .int .i64 k ∧ Hid (SpR wr v (minusL l (m.take k))) ∧ Ext w wr) (fun _ _ _ _ _ _ _ i _ => n - (intOf i).toNat)
  case atStart => exact ⟨0, Nat.zero_le _, rfl, H1.out, Ext.refl w⟩
  case round =>
    obtain ⟨k, hk, rfl, hsp, hx⟩ := hrel
    by_cases hlt : k < n
    · have hI : decide ((k : Int) < (n : Int)) = true := decide_eq_true (by omega)
      have k1 : k < m.length := by have := HN.out; omega
      obtain ⟨B2, o2, rfl, f0, f1, f2, f3⟩ := SpR.at (H2.out.ext hx) k1
      have hstep : minusL l (m.take (k + 1)) = (minusL l (m.take k)).flatMap fun s => minus1 s m[k] := by
        rw [List.take_succ_eq_append_getElem k1]; unfold minusL; rw [List.foldl_append]; rfl
      have hbk := HBD.out (k + 1) (by have := HN.out; omega)
      rw [hstep] at hbk
      have HST := Lib.hid hstep
      have HBK := Lib.hid hbk
      have hbl := HBD.out k (by have := HN.out; omega)
      clear hstep hbk
      generalize m[k] = out at *
      obtain ⟨lk, hlk⟩ : ∃ lk, lk = minusL l (m.take k) := ⟨_, rfl⟩
      rw [← hlk] at hsp HST HBK hbl
      clear hlk
      obtain ⟨al, cl, rfl, hcl, hml⟩ := Row.shape hsp.out
      unfold maxLen at hml
      obtain ⟨n3, hn3⟩ : ∃ n3, n3 = lk.length := ⟨_, rfl⟩
      have HN3 := Lib.hid hn3
      rw [← hn3] at hsp hbl ⊢ hcl
      clear hn3
      have hxW : Ext wr (wr.alloc (.cells #[.string (strOf out.lo.a), .bool out.lo.e, .string (strOf out.hi.a), .bool out.hi.e] 113)) := (Ext.refl wr).alloc _
      have hBo := heap_alloc_new wr (.cells #[.string (strOf out.lo.a), .bool out.lo.e, .string (strOf out.hi.a), .bool out.hi.e] 113)
      go_wp2_with fail
      generalize wr.alloc (.cells #[.string (strOf out.lo.a), .bool out.lo.e, .string (strOf out.hi.a), .bool out.hi.e] 113) = W at *
      obtain ⟨wo, hwo⟩ : ∃ wo : World, wo = wr := ⟨_, rfl⟩
      subst hwo
      have HBO := Lib.hid hBo
      clear f0 f1 f2 f3 hBo
      go_loopw [7, 9, 10, 11, 13, 22] (fun st _ _ _ _ i wr => ∃ (j : Nat) (pre : List Sp), j ≤ n3 ∧ i = .int .i64 j ∧ Hid (pre = (lk.take j).flatMap fun s => minus1 s out) ∧ Hid (wr.ownsRow W.heap.size 113 4 st pre.length (pre.flatMap spC)) ∧ Ext W wr) (fun _ _ _ _ _ i _ => n3 - (intOf i).toNat)
      case atStart => exact ⟨0, [], Nat.zero_le _, rfl, rfl, ⟨rfl, .inl ⟨rfl, rfl⟩⟩, Ext.refl _⟩
      case round =>
        obtain ⟨j, pre, hj, rfl, hpre, hown, hy⟩ := hrel
        by_cases hjl : j < n3
        · have hI2 : decide ((j : Int) < (n3 : Int)) = true := decide_eq_true (by omega)
          have j1 : j < lk.length := by have := HN3.out; omega
          obtain ⟨B3, o3, rfl, g0, g1, g2, g3⟩ := SpR.at (hsp.out.ext (hxW.trans hy)) (by have := HN3.out; omega)
          have hnxt : (lk.take (j + 1)).flatMap (fun s => minus1 s out) = pre ++ minus1 lk[j] out := by
            rw [List.take_succ_eq_append_getElem j1, List.flatMap_append, List.flatMap_singleton, ← hpre.out]
          have hlen : pre.length + (minus1 lk[j] out).length ≤ 1000000 := by
            have h1 := flat_take_le (fun s => minus1 s out) lk (j + 1)
            rw [hnxt, List.length_append] at h1
            exact Nat.le_trans h1 HBK.out
          have HNXT := Lib.hid hnxt
          clear hnxt
          generalize lk[j] = s at *
          have hBs := heap_alloc_new wr (.cells #[.string (strOf s.lo.a), .bool s.lo.e, .string (strOf s.hi.a), .bool s.hi.e] 113)
          have hxs : Ext wr (wr.alloc (.cells #[.string (strOf s.lo.a), .bool s.lo.e, .string (strOf s.hi.a), .bool s.hi.e] 113)) := (Ext.refl wr).alloc _
          have hss : (wr.alloc (.cells #[.string (strOf s.lo.a), .bool s.lo.e, .string (strOf s.hi.a), .bool s.hi.e] 113)).heap.size = wr.heap.size + 1 := World.size_alloc _ _
          have s0 := cell_of_row _ _ 0 _ _ _ hBs
          have s1 := cell_of_row _ _ 1 _ _ _ hBs
          have s2 := cell_of_row _ _ 2 _ _ _ hBs
          have s3 := cell_of_row _ _ 3 _ _ _ hBs
          have HBS := Lib.hid hBs
          clear hBs
          go_upto_region 8 with fail
          generalize wr.alloc (.cells #[.string (strOf s.lo.a), .bool s.lo.e, .string (strOf s.hi.a), .bool s.hi.e] 113) = ws at *
          go_cut [10, 11] from 26 to 35 (fun v10 v11 wx => ∃ (b c : Nat) (wy : World), wy = wx ∧ v10 = .pointer (some ⟨b, 0, none⟩) ∧ v11 = .pointer (some ⟨c, 0, none⟩) ∧ b ≠ c ∧ ws.heap.size ≤ b ∧ ws.heap.size ≤ c ∧ wy.heap[b]? = some (.cells #[.string (strOf s.lo.a), .bool s.lo.e, .string (strOf s.hi.a), .bool s.hi.e] 113 (0, 0)) ∧ wy.heap[c]? = some (.cells #[.string (strOf s.lo.a), .bool s.lo.e, .string (strOf s.hi.a), .bool s.hi.e] 113 (0, 0)) ∧ Ext ws wy)
          case first =>
            have hb1 : ((ws.alloc (.cells #[.string (strOf s.lo.a), .bool s.lo.e, .string (strOf s.hi.a), .bool s.hi.e] 113)).alloc (.cells #[.string (strOf s.lo.a), .bool s.lo.e, .string (strOf s.hi.a), .bool s.hi.e] 113)).heap[wr.heap.size + 1]? = some (.cells #[.string (strOf s.lo.a), .bool s.lo.e, .string (strOf s.hi.a), .bool s.hi.e] 113 (0, 0)) := by
              have h := heap_alloc_new ws (.cells #[.string (strOf s.lo.a), .bool s.lo.e, .string (strOf s.hi.a), .bool s.hi.e] 113)
              rw [hss] at h
              rw [((Ext.refl _).alloc (.cells #[.string (strOf s.lo.a), .bool s.lo.e, .string (strOf s.hi.a), .bool s.hi.e] 113)).block _ (by rw [World.size_alloc, hss]; omega)]
              exact h
            have hb2 : ((ws.alloc (.cells #[.string (strOf s.lo.a), .bool s.lo.e, .string (strOf s.hi.a), .bool s.hi.e] 113)).alloc (.cells #[.string (strOf s.lo.a), .bool s.lo.e, .string (strOf s.hi.a), .bool s.hi.e] 113)).heap[wr.heap.size + 1 + 1]? = some (.cells #[.string (strOf s.lo.a), .bool s.lo.e, .string (strOf s.hi.a), .bool s.hi.e] 113 (0, 0)) := by
              have h := heap_alloc_new (ws.alloc (.cells #[.string (strOf s.lo.a), .bool s.lo.e, .string (strOf s.hi.a), .bool s.hi.e] 113)) (.cells #[.string (strOf s.lo.a), .bool s.lo.e, .string (strOf s.hi.a), .bool s.hi.e] 113)
              rw [World.size_alloc, hss] at h
              exact h
            have hxe : Ext ws ((ws.alloc (.cells #[.string (strOf s.lo.a), .bool s.lo.e, .string (strOf s.hi.a), .bool s.hi.e] 113)).alloc (.cells #[.string (strOf s.lo.a), .bool s.lo.e, .string (strOf s.hi.a), .bool s.hi.e] 113)).drew := (((Ext.refl ws).alloc _).alloc _).drew
            have hsz1 : ws.heap.size ≤ wr.heap.size + 1 := by omega
            have hsz2 : ws.heap.size ≤ wr.heap.size + 1 + 1 := by omega
            have H1B := Lib.hid hb1
            have H2B := Lib.hid hb2
            have HXE := Lib.hid hxe
            clear HST HBK hpre hown HBO HN3 HN H1 HBD hsp g0 g1 g2 g3 HNXT hb1 hb2 hxe HBS
            go_region
            · go_wp2_with fail
              go_meet
              exact ⟨wr.heap.size + 1, wr.heap.size + 1 + 1, _, rfl, rfl, rfl, by omega, hsz1, hsz2, H1B.out, H2B.out, HXE.out⟩
            · go_wp2_with fail
              go_meet
              exact ⟨wr.heap.size + 1 + 1, wr.heap.size + 1, _, rfl, rfl, rfl, by omega, hsz2, hsz1, H2B.out, H1B.out, HXE.out⟩
          case rest =>
            obtain ⟨b, c, wy, rfl, rfl, rfl, hbc, hbs, hcs, hBb, hBc, hys⟩ := hcut
            have HBb := Lib.hid hBb
            have HBc := Lib.hid hBc
            have hwo : wo.heap.size < ws.heap.size := by have := hxs.size; have := hy.size; have := (Array.getElem?_eq_some_iff.1 HBO.out).1; omega
            have HBo2 := Lib.hid (((hy.trans (hxs.trans hys)).block _ (Array.getElem?_eq_some_iff.1 HBO.out).1).trans HBO.out)
            have HBs2 := Lib.hid ((hys.block _ (Array.getElem?_eq_some_iff.1 HBS.out).1).trans HBS.out)
            clear hBb hBc s0 s1 s2 s3 g0 g1 g2 g3
            generalize hAq : Cut.lt out.lo s.hi = A at *
            generalize hBq : Cut.lt s.lo out.hi = Bq at *
            have hA := Lib.hid hAq
            have hB := Lib.hid hBq
            clear hAq hBq
            have b2 := cell_of_row _ _ 2 _ _ _ HBb.out
            have b3 := cell_of_row _ _ 3 _ _ _ HBb.out
            have o0 := cell_of_row _ _ 0 _ _ _ HBo2.out
            have o1 := cell_of_row _ _ 1 _ _ _ HBo2.out
            go_upto_if 40 with (go_at_call 118; refine (less_any _ out.lo s.hi).mono ?_; rw [hA.out]; rintro e y1 ⟨rfl, hy1⟩)
            have HB1 := Lib.hid ((hy1.block _ (Array.getElem?_eq_some_iff.1 HBb.out).1).trans HBb.out)
            have HC1 := Lib.hid ((hy1.block _ (Array.getElem?_eq_some_iff.1 HBc.out).1).trans HBc.out)
            have HO1 := Lib.hid ((hy1.block _ (Array.getElem?_eq_some_iff.1 HBo2.out).1).trans HBo2.out)
            have HS1 := Lib.hid ((hy1.block _ (Array.getElem?_eq_some_iff.1 HBs2.out).1).trans HBs2.out)
            have hx1 := hys.trans hy1
            have hsz1 : wr.heap.size < ws.heap.size := by omega
            clear b2 b3 o0 o1 hy1 HBb HBc HBo2 HBs2 hys
            go_cut [40] from 41 to 43 (fun _ wx => ∃ wz, wz = wx ∧ wz.heap[b]? = some (.cells #[.string (strOf s.lo.a), .bool s.lo.e, .string (strOf (if A then out.lo else s.hi).a), .bool (if A then out.lo else s.hi).e] 113 (0, 0)) ∧ wz.heap[c]? = some (.cells #[.string (strOf s.lo.a), .bool s.lo.e, .string (strOf s.hi.a), .bool s.hi.e] 113 (0, 0)) ∧ wz.heap[wo.heap.size]? = some (.cells #[.string (strOf out.lo.a), .bool out.lo.e, .string (strOf out.hi.a), .bool out.hi.e] 113 (0, 0)) ∧ wz.heap[wr.heap.size]? = some (.cells #[.string (strOf s.lo.a), .bool s.lo.e, .string (strOf s.hi.a), .bool s.hi.e] 113 (0, 0)) ∧ Ext ws wz)
            case first =>
              clear HST HBK hpre hown HBO HN3 HN H1 HBD hsp hA hB
              have o0 := cell_of_row _ _ 0 _ _ _ HO1.out
              have o1 := cell_of_row _ _ 1 _ _ _ HO1.out
              cases A
              · go_wp2_with fail
                go_meet
                exact ⟨_, rfl, HB1.out, HC1.out, HO1.out, HS1.out, hx1⟩
              · go_wp2_with (refine wpList_store_part 111 (.tmp 43) (.tmp 42) rfl rfl b 2 rfl #[.string (strOf out.lo.a), .bool out.lo.e] rfl _ 113 #[.string (strOf s.lo.a), .bool s.lo.e, .string (strOf out.lo.a), .bool out.lo.e] HB1.out (by simp) info96t (by simp [Value.oneCell']) rfl ?_)
                go_meet
                exact ⟨_, rfl, setRow_heap _ _ _ _ _ _ HB1.out, (setRow_other _ b c _ (Ne.symm hbc)).trans HC1.out, (setRow_other _ b wo.heap.size _ (by omega)).trans HO1.out, (setRow_other _ b wr.heap.size _ (by omega)).trans HS1.out, hx1.setRow hbs _⟩
            case rest =>
              obtain ⟨y3, rfl, hb3, hc3, ho3, hs3, hx3⟩ := hcut
              have HB3 := Lib.hid hb3
              have HC3 := Lib.hid hc3
              have HO3 := Lib.hid ho3
              have HS3 := Lib.hid hs3
              have c0 := cell_of_row _ _ 0 _ _ _ hc3
              have c1' := cell_of_row _ _ 1 _ _ _ hc3
              have o2' := cell_of_row _ _ 2 _ _ _ ho3
              have o3' := cell_of_row _ _ 3 _ _ _ ho3
              clear hb3 hc3 ho3 hs3 HB1 HC1 HO1 HS1 hx1
              go_upto_if 48 with (go_at_call 118; refine (less_any _ s.lo out.hi).mono ?_; rw [hB.out]; rintro e y4 ⟨rfl, hy4⟩)
              have HB4 := Lib.hid ((hy4.block _ (Array.getElem?_eq_some_iff.1 HB3.out).1).trans HB3.out)
              have HC4 := Lib.hid ((hy4.block _ (Array.getElem?_eq_some_iff.1 HC3.out).1).trans HC3.out)
              have HO4 := Lib.hid ((hy4.block _ (Array.getElem?_eq_some_iff.1 HO3.out).1).trans HO3.out)
              have HS4 := Lib.hid ((hy4.block _ (Array.getElem?_eq_some_iff.1 HS3.out).1).trans HS3.out)
              have hx4 := hx3.trans hy4
              clear c0 c1' o2' o3' hy4 HB3 HC3 HO3 HS3 hx3
              go_cut [48] from 49 to 51 (fun _ wx => ∃ wz, wz = wx ∧ wz.heap[b]? = some (.cells #[.string (strOf s.lo.a), .bool s.lo.e, .string (strOf (if A then out.lo else s.hi).a), .bool (if A then out.lo else s.hi).e] 113 (0, 0)) ∧ wz.heap[c]? = some (.cells #[.string (strOf (if Bq then out.hi else s.lo).a), .bool (if Bq then out.hi else s.lo).e, .string (strOf s.hi.a), .bool s.hi.e] 113 (0, 0)) ∧ wz.heap[wo.heap.size]? = some (.cells #[.string (strOf out.lo.a), .bool out.lo.e, .string (strOf out.hi.a), .bool out.hi.e] 113 (0, 0)) ∧ wz.heap[wr.heap.size]? = some (.cells #[.string (strOf s.lo.a), .bool s.lo.e, .string (strOf s.hi.a), .bool s.hi.e] 113 (0, 0)) ∧ Ext ws wz)
              case first =>
                clear HST HBK hpre hown HBO HN3 HN H1 HBD hsp hA hB
                have o2' := cell_of_row _ _ 2 _ _ _ HO4.out
                have o3' := cell_of_row _ _ 3 _ _ _ HO4.out
                cases Bq
                · go_wp2_with fail
                  go_meet
                  exact ⟨_, rfl, HB4.out, HC4.out, HO4.out, HS4.out, hx4⟩
                · go_wp2_with (refine wpList_store_part 111 (.tmp 51) (.tmp 50) rfl rfl c 0 rfl #[.string (strOf out.hi.a), .bool out.hi.e] rfl _ 113 #[.string (strOf out.hi.a), .bool out.hi.e, .string (strOf s.hi.a), .bool s.hi.e] HC4.out (by simp) info96t (by simp [Value.oneCell']) rfl ?_)
                  go_meet
                  exact ⟨_, rfl, (setRow_other _ c b _ hbc).trans HB4.out, setRow_heap _ _ _ _ _ _ HC4.out, (setRow_other _ c wo.heap.size _ (by omega)).trans HO4.out, (setRow_other _ c wr.heap.size _ (by omega)).trans HS4.out, hx4.setRow hcs _⟩
              case rest =>
                obtain ⟨y5, rfl, hb5, hc5, ho5, hs5, hx5⟩ := hcut
                have HB5 := Lib.hid hb5
                have HC5 := Lib.hid hc5
                have HS5 := Lib.hid hs5
                have HO5 := Lib.hid ho5
                have hWs : Ext W ws := hy.trans hxs
                have hx6 := hWs.trans hx5
                have hown5 := Lib.hid (own_later hown.out (hxs.trans hx5))
                clear hb5 hc5 hs5 ho5 HB4 HC4 HO4 HS4 hx4
                have o0 := cell_of_row _ _ 0 _ _ _ HO5.out
                have o1 := cell_of_row _ _ 1 _ _ _ HO5.out
                have q2 := cell_of_row _ _ 2 _ _ _ HS5.out
                have q3 := cell_of_row _ _ 3 _ _ _ HS5.out
                cases A
                · have hm1s : minus1 s out = [s] := by unfold minus1; rw [hA.out]; rfl
                  go_wp2_with fail
                  refine (less_any _ out.lo s.hi).mono ?_
                  rw [hA.out]
                  rintro e y6 ⟨rfl, hy6⟩
                  have HSY := Lib.hid ((hy6.block _ (Array.getElem?_eq_some_iff.1 HS5.out).1).trans HS5.out)
                  have r0 := cell_of_row _ _ 0 _ _ _ HSY.out
                  have r1 := cell_of_row _ _ 1 _ _ _ HSY.out
                  have r2 := cell_of_row _ _ 2 _ _ _ HSY.out
                  have r3 := cell_of_row _ _ 3 _ _ _ HSY.out
                  have hx7 := hx6.trans hy6
                  have ho7 := own_later hown5.out (hy6.alloc (.cells (spC s).toArray 113))
                  have hx8 := hx7.alloc (.cells (spC s).toArray 113)
                  have HRO := Lib.hid (spRow y6 s)
                  have hone := spC_one [s]
                  rw [List.flatMap_singleton] at hone
                  have HONE := Lib.hid hone
                  have HO7 := Lib.hid ho7
                  have HX8 := Lib.hid hx8
                  have hl1 : (minus1 s out).length = 1 := by rw [hm1s]; rfl
                  clear hone ho7 hx8
                  go_wp2_with (at_builtin; refine wpList_append_row 66 113 (.tmp 66) (.tmp 68) rfl W.heap.size _ 4 48 Tryz.underlying66 info101t rfl (by decide) rfl _ pre.length (pre.flatMap spC) rfl HO7.out 1 (spC s) HRO.out HONE.out (by omega) (by unfold maxLen; omega) HX8.out.size ?_; intro v7 w7 hown7 hgrow; have HO9 := Lib.hid hown7; have HG := Lib.hid hgrow; clear hown7 hgrow)
                  go_roundw
                  case rel =>
                    refine ⟨j + 1, pre ++ [s], hjl, by go_num, ?_, ?_, HX8.out.grown_none HG.out (own_base HO7.out)⟩
                    · show _ = _
                      rw [HNXT.out, hm1s]
                    · show World.ownsRow _ _ _ _ _ _ _
                      rw [List.length_append, List.length_singleton, List.flatMap_append, List.flatMap_singleton]
                      exact HO9.out
                  case measure => simp [intOf]; omega
                · cases Bq
                  · have hm1s : minus1 s out = [s] := by unfold minus1; rw [hA.out, hB.out]; rfl
                    have q0 := cell_of_row _ _ 0 _ _ _ HS5.out
                    have q1 := cell_of_row _ _ 1 _ _ _ HS5.out
                    go_wp2_with fail
                    refine (less_any _ out.lo s.hi).mono ?_
                    rw [hA.out]
                    rintro e y6' ⟨rfl, hy6'⟩
                    have o2' := hy6'.cell (cell_of_row _ _ 2 _ _ _ HO5.out)
                    have o3' := hy6'.cell (cell_of_row _ _ 3 _ _ _ HO5.out)
                    have q0 := hy6'.cell q0
                    have q1 := hy6'.cell q1
                    go_wp2_with fail
                    refine (less_any _ s.lo out.hi).mono ?_
                    rw [hB.out]
                    rintro e y6 ⟨rfl, hy6⟩
                    have hy6 := hy6'.trans hy6
                    clear o2' o3' q0 q1
                    have HSY := Lib.hid ((hy6.block _ (Array.getElem?_eq_some_iff.1 HS5.out).1).trans HS5.out)
                    have r0 := cell_of_row _ _ 0 _ _ _ HSY.out
                    have r1 := cell_of_row _ _ 1 _ _ _ HSY.out
                    have r2 := cell_of_row _ _ 2 _ _ _ HSY.out
                    have r3 := cell_of_row _ _ 3 _ _ _ HSY.out
                    have hx7 := hx6.trans hy6
                    have ho7 := own_later hown5.out (hy6.alloc (.cells (spC s).toArray 113))
                    have hx8 := hx7.alloc (.cells (spC s).toArray 113)
                    have HRO := Lib.hid (spRow y6 s)
                    have hone := spC_one [s]
                    rw [List.flatMap_singleton] at hone
                    have HONE := Lib.hid hone
                    have HO7 := Lib.hid ho7
                    have HX8 := Lib.hid hx8
                    have hl1 : (minus1 s out).length = 1 := by rw [hm1s]; rfl
                    clear hone ho7 hx8
                    go_wp2_with (at_builtin; refine wpList_append_row 66 113 (.tmp 66) (.tmp 68) rfl W.heap.size _ 4 48 Tryz.underlying66 info101t rfl (by decide) rfl _ pre.length (pre.flatMap spC) rfl HO7.out 1 (spC s) HRO.out HONE.out (by omega) (by unfold maxLen; omega) HX8.out.size ?_; intro v7 w7 hown7 hgrow; have HO9 := Lib.hid hown7; have HG := Lib.hid hgrow; clear hown7 hgrow)
                    go_roundw
                    case rel =>
                      refine ⟨j + 1, pre ++ [s], hjl, by go_num, ?_, ?_, HX8.out.grown_none HG.out (own_base HO7.out)⟩
                      · show _ = _
                        rw [HNXT.out, hm1s]
                      · show World.ownsRow _ _ _ _ _ _ _
                        rw [List.length_append, List.length_singleton, List.flatMap_append, List.flatMap_singleton]
                        exact HO9.out
                    case measure => simp [intOf]; omega
                  · have hm1s : minus1 s out = fullS [⟨s.lo, out.lo⟩, ⟨out.hi, s.hi⟩] := by unfold minus1; rw [hA.out, hB.out]; rfl
                    have HM1 := Lib.hid hm1s
                    clear hm1s
                    have q0 := cell_of_row _ _ 0 _ _ _ HS5.out
                    have q1 := cell_of_row _ _ 1 _ _ _ HS5.out
                    go_wp2_with fail
                    refine (less_any _ out.lo s.hi).mono ?_
                    rw [hA.out]
                    rintro e y6' ⟨rfl, hy6'⟩
                    have o2' := hy6'.cell (cell_of_row _ _ 2 _ _ _ HO5.out)
                    have o3' := hy6'.cell (cell_of_row _ _ 3 _ _ _ HO5.out)
                    have q0 := hy6'.cell q0
                    have q1 := hy6'.cell q1
                    go_wp2_with fail
                    refine (less_any _ s.lo out.hi).mono ?_
                    rw [hB.out]
                    rintro e y6 ⟨rfl, hy6⟩
                    have hy6 := hy6'.trans hy6
                    clear o2' o3' q0 q1
                    have HBY := Lib.hid ((hy6.block _ (Array.getElem?_eq_some_iff.1 HB5.out).1).trans HB5.out)
                    have HCY := Lib.hid ((hy6.block _ (Array.getElem?_eq_some_iff.1 HC5.out).1).trans HC5.out)
                    have b0 := cell_of_row _ _ 0 _ _ _ HBY.out
                    have b1 := cell_of_row _ _ 1 _ _ _ HBY.out
                    have b2 := cell_of_row _ _ 2 _ _ _ HBY.out
                    have b3 := cell_of_row _ _ 3 _ _ _ HBY.out
                    have c0 := cell_of_row _ _ 0 _ _ _ HCY.out
                    have c1' := cell_of_row _ _ 1 _ _ _ HCY.out
                    have c2' := cell_of_row _ _ 2 _ _ _ HCY.out
                    have c3 := cell_of_row _ _ 3 _ _ _ HCY.out
                    have hx7 := hx6.trans hy6
                    have hlit : SpR (y6.alloc (.cells #[.string (strOf s.lo.a), .bool s.lo.e, .string (strOf out.lo.a), .bool out.lo.e, .string (strOf out.hi.a), .bool out.hi.e, .string (strOf s.hi.a), .bool s.hi.e] 113)) (.slice (some ⟨y6.heap.size, 0, none⟩) 2 2) [⟨s.lo, out.lo⟩, ⟨out.hi, s.hi⟩] := sp_lit y6 [⟨s.lo, out.lo⟩, ⟨out.hi, s.hi⟩] (by show (2 : Nat) ≤ maxLen; decide)
                    have hx8 := hx7.alloc (.cells #[.string (strOf s.lo.a), .bool s.lo.e, .string (strOf out.lo.a), .bool out.lo.e, .string (strOf out.hi.a), .bool out.hi.e, .string (strOf s.hi.a), .bool s.hi.e] 113)
                    have HO8 := Lib.hid (own_later hown5.out (hy6.alloc (.cells #[.string (strOf s.lo.a), .bool s.lo.e, .string (strOf out.lo.a), .bool out.lo.e, .string (strOf out.hi.a), .bool out.hi.e, .string (strOf s.hi.a), .bool s.hi.e] 113)))
                    have HLIT := Lib.hid hlit
                    have hle0 : pre.length ≤ 1000000 := by omega
                    have HNB : Hid (u7.ownBlock ≠ some y6.heap.size) := by
                      show _ ≠ _
                      intro e
                      have h1 := (hown5.out.lt _ e).2
                      have h2 := hy6.size
                      omega
                    have hg7 : y6.heap.size < (y6.alloc (.cells #[.string (strOf s.lo.a), .bool s.lo.e, .string (strOf out.lo.a), .bool out.lo.e, .string (strOf out.hi.a), .bool out.hi.e, .string (strOf s.hi.a), .bool s.hi.e] 113)).heap.size := by rw [World.size_alloc]; omega
                    clear hlit hx7 hy6 HBY HCY
                    go_wp2_with fail
                    generalize y6.alloc (.cells #[.string (strOf s.lo.a), .bool s.lo.e, .string (strOf out.lo.a), .bool out.lo.e, .string (strOf out.hi.a), .bool out.hi.e, .string (strOf s.hi.a), .bool s.hi.e] 113) = y7 at *
                    generalize y6.heap.size = g7 at *
                    clear b0 b1 b2 b3 c0 c1' c2' c3
                    go_loopw [7, 13, 74] (fun st _ i wr => ∃ (q : Nat) (pre2 : List Sp), q ≤ 2 ∧ i = .int .i64 q ∧ pre2.length ≤ pre.length + q ∧ Hid (pre2 = pre ++ fullS (([⟨s.lo, out.lo⟩, ⟨out.hi, s.hi⟩] : List Sp).take q)) ∧ Hid (wr.ownsRow W.heap.size 113 4 st pre2.length (pre2.flatMap spC)) ∧ Hid (SpR wr (.slice (some ⟨g7, 0, none⟩) 2 2) [⟨s.lo, out.lo⟩, ⟨out.hi, s.hi⟩]) ∧ Hid (st.ownBlock ≠ some g7) ∧ g7 < wr.heap.size ∧ Ext W wr) (fun _ _ i _ => 2 - (intOf i).toNat)
                    case atStart => exact ⟨0, pre, Nat.zero_le _, rfl, Nat.le_refl _, (by show pre = pre ++ fullS []; exact (List.append_nil pre).symm), HO8.out, HLIT.out, HNB.out, hg7, hx8⟩
                    case round =>
                      obtain ⟨q, pre2, hq, rfl, hlp, hp2, ho2, hlt7, hnb, hg7w, hz⟩ := hrel
                      by_cases hq2 : q < 2
                      · have hI3 : decide ((q : Int) < 2) = true := decide_eq_true (by omega)
                        have qq : q < ([⟨s.lo, out.lo⟩, ⟨out.hi, s.hi⟩] : List Sp).length := hq2
                        obtain ⟨B7, o7, e7, z0, z1, z2, z3⟩ := SpR.at hlt7.out qq
                        cases e7
                        have hnx : fullS (([⟨s.lo, out.lo⟩, ⟨out.hi, s.hi⟩] : List Sp).take (q + 1)) = fullS (([⟨s.lo, out.lo⟩, ⟨out.hi, s.hi⟩] : List Sp).take q) ++ fullS [([⟨s.lo, out.lo⟩, ⟨out.hi, s.hi⟩] : List Sp)[q]] := by
                          unfold fullS
                          rw [List.take_succ_eq_append_getElem qq, List.filter_append]
                        have HNX := Lib.hid hnx
                        clear hnx
                        generalize ([⟨s.lo, out.lo⟩, ⟨out.hi, s.hi⟩] : List Sp)[q] = x at *
                        simp only [Nat.zero_add] at z0 z1 z2 z3
                        have hxx : Ext wr (wr.alloc (.cells #[.string (strOf x.lo.a), .bool x.lo.e, .string (strOf x.hi.a), .bool x.hi.e] 113)) := (Ext.refl wr).alloc _
                        have hBx := heap_alloc_new wr (.cells #[.string (strOf x.lo.a), .bool x.lo.e, .string (strOf x.hi.a), .bool x.hi.e] 113)
                        have x0' := cell_of_row _ _ 0 _ _ _ hBx
                        have x1' := cell_of_row _ _ 1 _ _ _ hBx
                        have x2' := cell_of_row _ _ 2 _ _ _ hBx
                        have x3' := cell_of_row _ _ 3 _ _ _ hBx
                        have HBX := Lib.hid hBx
                        clear hBx
                        obtain ⟨F, hF⟩ : ∃ F, F = Cut.lt x.lo x.hi := ⟨_, rfl⟩
                        have HF := Lib.hid hF
                        clear hF
                        go_wp2_with fail
                        generalize wr.alloc (.cells #[.string (strOf x.lo.a), .bool x.lo.e, .string (strOf x.hi.a), .bool x.hi.e] 113) = wx at *
                        refine (less_any _ x.lo x.hi).mono ?_
                        rw [← HF.out]
                        rintro e y8 ⟨rfl, hy8⟩
                        have hxy := hxx.trans hy8
                        clear z0 z1 z2 z3 x0' x1' x2' x3'
                        cases F
                        · have hf : fullS [x] = [] := by unfold fullS; simp [← HF.out]
                          have HFN := Lib.hid hf
                          have HO9 := Lib.hid (own_later ho2.out hxy)
                          have hzz := hz.trans hxy
                          have HL9 := Lib.hid (hlt7.out.ext hxy)
                          have hg9 := Nat.lt_of_lt_of_le hg7w hxy.size
                          clear hf hy8 hxx
                          go_wp2_with fail
                          go_roundw
                          case rel =>
                            refine ⟨q + 1, pre2, hq2, by go_num, by omega, ?_, HO9.out, HL9.out, hnb.out, hg9, hzz⟩
                            show _ = _
                            rw [HNX.out, HFN.out, List.append_nil]; exact hp2.out
                          case measure => simp [intOf]; omega
                        · have hf : fullS [x] = [x] := by unfold fullS; simp [← HF.out]
                          have HFN := Lib.hid hf
                          have HBX2 := Lib.hid ((hy8.block _ (Array.getElem?_eq_some_iff.1 HBX.out).1).trans HBX.out)
                          have r0 := cell_of_row _ _ 0 _ _ _ HBX2.out
                          have r1 := cell_of_row _ _ 1 _ _ _ HBX2.out
                          have r2 := cell_of_row _ _ 2 _ _ _ HBX2.out
                          have r3 := cell_of_row _ _ 3 _ _ _ HBX2.out
                          have ho9 := own_later ho2.out (hxy.alloc (.cells (spC x).toArray 113))
                          have hzz := hz.trans (hxy.alloc (.cells (spC x).toArray 113))
                          have HRO := Lib.hid (spRow y8 x)
                          have hone := spC_one [x]
                          rw [List.flatMap_singleton] at hone
                          have HONE := Lib.hid hone
                          have HO9 := Lib.hid ho9
                          have HZZ := Lib.hid hzz
                          have hbase := hzz.size
                          have HL9 := Lib.hid (hlt7.out.ext (hxy.alloc (.cells (spC x).toArray 113)))
                          have hg9 := Nat.lt_of_lt_of_le hg7w (hxy.alloc (.cells (spC x).toArray 113)).size
                          have HBASE := Lib.hid hbase
                          clear hf hone ho9 hzz hbase hy8 hxx
                          go_wp2_with (at_builtin; refine wpList_append_whose 66 113 (.tmp 83) (.tmp 85) rfl W.heap.size _ 4 48 Tryz.underlying66 info101t rfl (by decide) rfl _ pre2.length (pre2.flatMap spC) rfl HO9.out 1 (spC x) HRO.out HONE.out (by decide) (by omega) (by unfold maxLen; omega) HBASE.out ?_; intro v7 w7 hown7 hgrow hwho; have HO10 := Lib.hid hown7; have HG := Lib.hid hgrow; have HWHO := Lib.hid hwho; clear hown7 hgrow hwho)
                          go_roundw
                          case rel =>
                            refine ⟨q + 1, pre2 ++ [x], hq2, by go_num, by rw [List.length_append, List.length_singleton]; omega, ?_, ?_, ?_, ?_, ?_, ?_⟩
                            · show _ = _
                              rw [HNX.out, HFN.out, ← List.append_assoc, ← hp2.out]
                            · show World.ownsRow _ _ _ _ _ _ _
                              rw [List.length_append, List.length_singleton, List.flatMap_append, List.flatMap_singleton]
                              exact HO10.out
                            · show SpR _ _ _
                              exact row_kept HL9.out HG.out (fun B o k c e he => by cases e; exact hnb.out he.symm)
                            · show _ ≠ _
                              rcases HWHO.out with e | e
                              · rw [e]; exact hnb.out
                              · rw [e]; intro e2; exact (Nat.ne_of_gt hg9) (Option.some.inj e2)
                            · exact Nat.lt_of_lt_of_le hg9 HG.out.size
                            · exact HZZ.out.grown_none HG.out (own_base HO9.out)
                          case measure => simp [intOf]; omega
                      · obtain rfl : q = 2 := by omega
                        have hI3 : decide (((2 : Nat) : Int) < 2) = false := decide_eq_false (by omega)
                        have hpe : pre2 = pre ++ minus1 s out := by rw [HM1.out]; exact hp2.out
                        have HPE := Lib.hid hpe
                        have hfin := hz
                        clear hpe
                        go_wp2_with fail
                        go_roundw
                        case rel => exact ⟨j + 1, pre2, hjl, by go_num, (by show _ = _; rw [HNXT.out]; exact HPE.out), ho2.out, hfin⟩
                        case measure => simp [intOf]; omega
        · obtain rfl : j = n3 := by omega
          have hI2 : decide ((j : Int) < (j : Int)) = false := decide_eq_false (by omega)
          have hpe : pre = minusL l (m.take (k + 1)) := by
            rw [HST.out]
            have h := hpre.out
            rw [List.take_of_length_le (by rw [← HN3.out]; exact Nat.le_refl _)] at h
            exact h
          have hsr := Row.of_own hown.out
          have HSR : Hid (SpR wr u7 (minusL l (m.take (k + 1)))) := by rw [← hpe]; exact hsr
          have hfin := hx.trans (hxW.trans hy)
          clear hpe hsr
          go_wp2_with fail
          go_roundw
          case rel => exact ⟨k + 1, hlt, by go_num, HSR.out, hfin⟩
          case measure => simp [intOf]; omega
    · obtain rfl : k = n := by omega
      have hI : decide ((k : Int) < (k : Int)) = false := decide_eq_false (by omega)
      have HSR : Hid (SpR wr u0 (minusL l m)) := by
        have h := hsp.out
        rw [List.take_of_length_le (by rw [← HN.out]; exact Nat.le_refl _)] at h
        exact h
      go_wp2_with fail
      go_ret
      exact ⟨_, rfl, HSR.out, hx⟩
end Go.Proofs.YtcgflkfbjnpdiaaGreat

namespace Go.Proofs.YtcgflkfbjnpdiaaGreat
open Go.RowKit Go.Sort

section
variable {α : Type} (p : α → Bool)
/-- i elements have been looked at, k are kept at the row's head; what has not been looked at stands. -/
structure DelInv (l r : List α) (k i : Nat) : Prop where
  len : r.length = l.length
  le : k + 1 ≤ i
  hi : i ≤ l.length
  tk : r.take k = (l.take i).filter fun x => !p x
  dr : r.drop i = l.drop i
theorem filter_take {l : List α} {i : Nat} (hi : i < l.length) : (l.take (i + 1)).filter (fun x => !p x) = if p l[i] then (l.take i).filter (fun x => !p x) else (l.take i).filter (fun x => !p x) ++ [l[i]] := by
  rw [List.take_succ_eq_append_getElem hi, List.filter_append]
  cases h : p l[i] <;> simp [h]
theorem DelInv.start {l : List α} {k : Nat} (h : k < l.length) (hc : ∀ x ∈ l.take k, p x = false) (e : p l[k] = true) : DelInv p l l k (k + 1) := by
  refine ⟨rfl, Nat.le_refl _, h, ?_, rfl⟩
  rw [filter_take p h, if_pos e]
  exact (List.filter_eq_self.2 fun x hx => by rw [hc x hx]; rfl).symm
variable {p}
theorem DelInv.at {l r : List α} {k i : Nat} (h : DelInv p l r k i) (hi : i < l.length) : ∃ h1 : i < r.length, r[i] = l[i] := by
  have hn := h.len
  refine ⟨by omega, ?_⟩
  have := congrArg (fun x => x[0]?) h.dr
  simp only [List.getElem?_drop, Nat.add_zero] at this
  rw [List.getElem?_eq_getElem (by omega), List.getElem?_eq_getElem (by omega)] at this
  exact Option.some.inj this
theorem DelInv.drop {l r : List α} {k i : Nat} (h : DelInv p l r k i) : r.drop (i + 1) = l.drop (i + 1) := by
  have := congrArg (fun x => x.drop 1) h.dr
  simp only [List.drop_drop] at this
  exact this
theorem DelInv.skip {l r : List α} {k i : Nat} (h : DelInv p l r k i) (hi : i < l.length) (e : p l[i] = true) : DelInv p l r k (i + 1) := by
  have hl := h.le
  refine ⟨h.len, by omega, hi, ?_, h.drop⟩
  rw [filter_take p hi, if_pos e]; exact h.tk
theorem DelInv.keep {l r : List α} {k i : Nat} (h : DelInv p l r k i) (hi : i < l.length) (e : p l[i] = false) : DelInv p l (r.set k l[i]) (k + 1) (i + 1) := by
  have hl := h.le
  have hn := h.len
  refine ⟨by rw [List.length_set]; exact hn, by omega, hi, ?_, ?_⟩
  · rw [filter_take p hi, if_neg (by rw [e]; decide), ← h.tk]
    have hk : k < r.length := by omega
    rw [List.take_succ_eq_append_getElem (by rw [List.length_set]; exact hk), List.getElem_set_self, List.take_set_of_le (Nat.le_refl k)]
  · rw [List.drop_set_of_lt (by omega)]
    exact h.drop
theorem DelInv.done {l r : List α} {k : Nat} (h : DelInv p l r k l.length) : r.take k = l.filter (fun x => !p x) ∧ (l.filter fun x => !p x).length = k := by
  have := h.tk
  rw [List.take_length] at this
  refine ⟨this, ?_⟩
  rw [← this, List.length_take]
  have := h.le; have := h.len; have := h.hi
  omega
theorem idx_start {l : List α} {i : Nat} (h : l.findIdx? p = some i) : ∃ hi : i < l.length, p l[i] = true ∧ ∀ x ∈ l.take i, p x = false := by
  obtain ⟨hi, h1, h2⟩ := List.findIdx?_eq_some_iff_getElem.1 h
  refine ⟨hi, h1, fun x hx => ?_⟩
  obtain ⟨j, hj, rfl⟩ := List.getElem_of_mem hx
  have hj2 : j < i := by simp at hj; omega
  rw [List.getElem_take]
  simpa using h2 j hj2
theorem del_none {l : List α} (h : l.findIdx? p = none) : l.filter (fun x => !p x) = l := by
  rw [List.filter_eq_self]
  intro x hx
  have := List.findIdx?_eq_none_iff.1 h x hx
  simpa using this
end
end Go.Proofs.YtcgflkfbjnpdiaaGreat

namespace Go.Proofs.YtcgflkfbjnpdiaaGreat
open Go.RowKit

theorem bytes_vals : ∀ a b : List UInt8, Lib.compareBytes a b = -1 ∨ Lib.compareBytes a b = 0 ∨ Lib.compareBytes a b = 1
  | [], [] => .inr (.inl rfl)
  | [], _ :: _ => .inl rfl
  | _ :: _, [] => .inr (.inr rfl)
  | a :: x, b :: y => by
    simp only [Lib.compareBytes]
    split
    · exact .inl rfl
    · split
      · exact .inr (.inr rfl)
      · exact bytes_vals x y
theorem bytes_cases (a b : List UInt8) : (Lib.compareBytes a b = -1 ∧ Op.bytesLess a b = true ∧ (a == b) = false) ∨ (a = b ∧ Lib.compareBytes a b = 0 ∧ Op.bytesLess a b = false) ∨ (Lib.compareBytes a b = 1 ∧ Op.bytesLess a b = false ∧ (a == b) = false) := by
  have hne : Lib.compareBytes a b ≠ 0 → (a == b) = false := fun h => beq_eq_false_iff_ne.2 (fun e => h (by rw [e]; exact wo_bytes.refl b))
  have hlt : ¬ Lib.compareBytes a b < 0 → Op.bytesLess a b = false := fun h => by
    cases hb : Op.bytesLess a b with
    | false => rfl
    | true => exact absurd ((bl_lt a b).1 hb) h
  rcases bytes_vals a b with h | h | h
  · exact .inl ⟨h, (bl_lt a b).2 (by omega), hne (by omega)⟩
  · exact .inr (.inl ⟨bytes_zero h, h, hlt (by omega)⟩)
  · exact .inr (.inr ⟨h, hlt (by omega), hne (by omega)⟩)

set_option maxRecDepth 100000 in
set_option maxHeartbeats 4000000 in
theorem rcompare_any (w : World) (ak an bk bn : Int) (sa sb : List UInt8) (ab bb : Bool) :
    Calls Tryz.prog 66 #[.agg #[.int .i64 ak, .int .i64 an, .string (strOf sa), .bool ab], .agg #[.int .i64 bk, .int .i64 bn, .string (strOf sb), .bool bb]] w
      fun e w' => e = .returned (.int .i64 (cmpV ⟨ak, an, sa, ab⟩ ⟨bk, bn, sb, bb⟩)) ∧ Grew w w' := by
  by_cases hk : ak = bk
  · subst hk
    by_cases h1 : ak = 1
    · subst h1
      have e : cmpV ⟨1, an, sa, ab⟩ ⟨1, bn, sb, bb⟩ = Lib.compareInt an bn := rfl
      rw [e]
      clear e
      rcases Int.lt_trichotomy an bn with h | h | h
      · have e : Lib.compareInt an bn = -1 := by unfold Lib.compareInt; rw [if_pos h]
        rw [e]
        have d1 : decide (an < bn) = true := decide_eq_true h
        have d2 : decide (bn < an) = false := decide_eq_false (by omega)
        clear e h
        go_enter Tryz.func66, Tryz.ntmps66
        go_wp2
        go_ret
        exact ⟨rfl, ((Grew.refl w).alloc _).alloc _⟩
      · subst h
        have e : Lib.compareInt an an = 0 := wo_int.refl an
        rw [e]
        clear e
        go_enter Tryz.func66, Tryz.ntmps66
        go_wp2
        go_ret
        exact ⟨rfl, ((Grew.refl w).alloc _).alloc _⟩
      · have e : Lib.compareInt an bn = 1 := by unfold Lib.compareInt; rw [if_neg (by omega), if_pos h]
        rw [e]
        have d1 : decide (an < bn) = false := decide_eq_false (by omega)
        have d2 : decide (bn < an) = true := decide_eq_true h
        clear e h
        go_enter Tryz.func66, Tryz.ntmps66
        go_wp2
        go_ret
        exact ⟨rfl, ((Grew.refl w).alloc _).alloc _⟩
    · have d1 := beq_int_ne h1
      by_cases h2 : ak = 2
      · subst h2
        have e : cmpV ⟨2, an, sa, ab⟩ ⟨2, bn, sb, bb⟩ = Lib.compareBytes sa sb := rfl
        rw [e]
        clear e d1 h1
        rcases bytes_cases sa sb with ⟨e, d1, d2⟩ | ⟨h, e, d1⟩ | ⟨e, d1, d2⟩
        · rw [e]
          clear e
          go_enter Tryz.func66, Tryz.ntmps66
          go_wp2
          go_ret
          exact ⟨rfl, ((Grew.refl w).alloc _).alloc _⟩
        · subst h
          rw [e]
          have d2 : (sa == sa) = true := beq_self_eq_true sa
          clear e
          go_enter Tryz.func66, Tryz.ntmps66
          go_wp2
          go_ret
          exact ⟨rfl, ((Grew.refl w).alloc _).alloc _⟩
        · rw [e]
          clear e
          go_enter Tryz.func66, Tryz.ntmps66
          go_wp2
          go_ret
          exact ⟨rfl, ((Grew.refl w).alloc _).alloc _⟩
      · have d2 := beq_int_ne h2
        by_cases h3 : ak = 3
        · subst h3
          have e : cmpV ⟨3, an, sa, ab⟩ ⟨3, bn, sb, bb⟩ = cmpB ab bb := rfl
          rw [e]
          clear e d1 h1 d2 h2
          cases ab <;> cases bb
          all_goals
            go_enter Tryz.func66, Tryz.ntmps66
            go_wp2
            go_ret
            exact ⟨rfl, ((Grew.refl w).alloc _).alloc _⟩
        · have d3 := beq_int_ne h3
          have e : cmpV ⟨ak, an, sa, ab⟩ ⟨ak, bn, sb, bb⟩ = 0 := by unfold cmpV; rw [if_pos rfl, if_neg h1, if_neg h2, if_neg h3]
          rw [e]
          clear e h1 h2 h3
          go_enter Tryz.func66, Tryz.ntmps66
          go_wp2
          go_ret
          exact ⟨rfl, ((Grew.refl w).alloc _).alloc _⟩
  · have e : cmpV ⟨ak, an, sa, ab⟩ ⟨bk, bn, sb, bb⟩ = Lib.compareInt ak bk := by unfold cmpV; rw [if_neg hk]
    rw [e]
    have d1 : (ak != bk) = true := by simp [hk]
    clear e
    rcases Int.lt_or_gt_of_ne hk with h | h
    · have e : Lib.compareInt ak bk = -1 := by unfold Lib.compareInt; rw [if_pos h]
      rw [e]
      have d2 : decide (ak < bk) = true := decide_eq_true h
      clear e h hk
      go_enter Tryz.func66, Tryz.ntmps66
      go_wp2
      go_ret
      exact ⟨rfl, ((Grew.refl w).alloc _).alloc _⟩
    · have e : Lib.compareInt ak bk = 1 := by unfold Lib.compareInt; rw [if_neg (by omega), if_pos h]
      rw [e]
      have d2 : decide (ak < bk) = false := decide_eq_false (by omega)
      clear e h hk
      go_enter Tryz.func66, Tryz.ntmps66
      go_wp2
      go_ret
      exact ⟨rfl, ((Grew.refl w).alloc _).alloc _⟩

end Go.Proofs.YtcgflkfbjnpdiaaGreat

namespace Go.Proofs.YtcgflkfbjnpdiaaGreat
open Go.RowKit

/-- A constraint's box: its seven cells. -/
structure CBox (W : World) (B : Nat) (c : C) (sa : Option Addr) (sc : Nat) : Prop where
  b : W.heap[B]? = some (.cells #[.string (strOf c.name), .int .i64 c.op, .int .i64 c.v.k, .int .i64 c.v.n, .string (strOf c.v.s), .bool c.v.b, .slice sa c.set.length sc] 37 (0, 0))
  s : SetR W (.slice sa c.set.length sc) c.set
theorem CBox.ext {W W' : World} {B : Nat} {c : C} {sa : Option Addr} {sc : Nat} (h : CBox W B c sa sc) (hx : Ext W W') : CBox W' B c sa sc :=
  ⟨by rw [hx.block B (Array.getElem?_eq_some_iff.1 h.b).1]; exact h.b, h.s.ext hx⟩
theorem CBox.cell {W : World} {B : Nat} {c : C} {sa : Option Addr} {sc : Nat} (h : CBox W B c sa sc) :
    W.cell? ⟨B, 0, none⟩ = some (.string (strOf c.name)) ∧ W.cell? ⟨B, 1, none⟩ = some (.int .i64 c.op) ∧ W.cell? ⟨B, 2, none⟩ = some (.int .i64 c.v.k) ∧ W.cell? ⟨B, 3, none⟩ = some (.int .i64 c.v.n) ∧ W.cell? ⟨B, 4, none⟩ = some (.string (strOf c.v.s)) ∧ W.cell? ⟨B, 5, none⟩ = some (.bool c.v.b) ∧ W.cell? ⟨B, 6, none⟩ = some (.slice sa c.set.length sc) :=
  ⟨cell_of_row W B 0 _ _ _ h.b, cell_of_row W B 1 _ _ _ h.b, cell_of_row W B 2 _ _ _ h.b, cell_of_row W B 3 _ _ _ h.b, cell_of_row W B 4 _ _ _ h.b, cell_of_row W B 5 _ _ _ h.b, cell_of_row W B 6 _ _ _ h.b⟩

theorem hasp_any (a b : List UInt8) (w : World) : Calls Tryz.prog 143 #[.string (strOf a), .string (strOf b)] w fun e w' => e = .returned (.bool (Lib.hasPrefix a b)) ∧ w = w' :=
  (Tryz.strings_HasPrefix (strOf a) (strOf b) w).mono fun _ _ ⟨he, hw⟩ => ⟨he, hw.symm⟩

theorem ent98 : ∀ args w, (callFunc 134 args).run Tryz.prog w = .ok (.enter 134 args) w := enters_of Tryz.func134 (by kernel_rfl) rfl
theorem ent99 : ∀ args w, (callFunc 135 args).run Tryz.prog w = .ok (.enter 135 args) w := enters_of Tryz.func135 (by kernel_rfl) rfl
theorem ent106 : ∀ args w, (callFunc 142 args).run Tryz.prog w = .ok (.enter 142 args) w := enters_of Tryz.func142 (by kernel_rfl) rfl
theorem ent108 : ∀ args w, (callFunc 144 args).run Tryz.prog w = .ok (.enter 144 args) w := enters_of Tryz.func144 (by kernel_rfl) rfl
theorem ent109 : ∀ args w, (callFunc 145 args).run Tryz.prog w = .ok (.enter 145 args) w := enters_of Tryz.func145 (by kernel_rfl) rfl
theorem ent110 : ∀ args w, (callFunc 146 args).run Tryz.prog w = .ok (.enter 146 args) w := enters_of Tryz.func146 (by kernel_rfl) rfl

/-- A test of a comparison. -/
def tst (q : Nat) (n : Int) : Bool := if q = 136 then decide (n = 0) else if q = 137 then !decide (n = 0) else if q = 138 then decide (n < 0) else if q = 139 then decide (n ≤ 0) else if q = 140 then decide (0 < n) else decide (0 ≤ n)
theorem beq_dec (n : Int) : (n == 0) = decide (n = 0) := by by_cases h : n = 0 <;> simp [h]
theorem tst_any (q : Nat) (hq : q = 136 ∨ q = 137 ∨ q = 138 ∨ q = 139 ∨ q = 140 ∨ q = 141) (n : Int) (w : World) : Calls Tryz.prog q #[.int .i64 n] w fun e w' => e = .returned (.bool (tst q n)) ∧ w = w' := by
  rcases hq with rfl | rfl | rfl | rfl | rfl | rfl
  · go_enter Tryz.func136, Tryz.ntmps136
    go_wp2
    go_ret
    exact ⟨by show _ = Ending.returned (.bool (decide (n = 0))); rw [← beq_dec]; rfl, rfl⟩
  · go_enter Tryz.func137, Tryz.ntmps137
    go_wp2
    go_ret
    exact ⟨by show _ = Ending.returned (.bool (!decide (n = 0))); rw [← beq_dec]; rfl, rfl⟩
  · go_enter Tryz.func138, Tryz.ntmps138
    go_wp2
    go_ret
    exact ⟨rfl, rfl⟩
  · go_enter Tryz.func139, Tryz.ntmps139
    go_wp2
    go_ret
    exact ⟨rfl, rfl⟩
  · go_enter Tryz.func140, Tryz.ntmps140
    go_wp2
    go_ret
    exact ⟨rfl, rfl⟩
  · go_enter Tryz.func141, Tryz.ntmps141
    go_wp2
    go_ret
    exact ⟨rfl, rfl⟩
theorem ent_tst (q : Nat) (hq : q = 136 ∨ q = 137 ∨ q = 138 ∨ q = 139 ∨ q = 140 ∨ q = 141) : ∀ args w, (callFunc q args).run Tryz.prog w = .ok (.enter q args) w := by
  rcases hq with rfl | rfl | rfl | rfl | rfl | rfl
  · exact enters_of Tryz.func136 (by kernel_rfl) rfl
  · exact enters_of Tryz.func137 (by kernel_rfl) rfl
  · exact enters_of Tryz.func138 (by kernel_rfl) rfl
  · exact enters_of Tryz.func139 (by kernel_rfl) rfl
  · exact enters_of Tryz.func140 (by kernel_rfl) rfl
  · exact enters_of Tryz.func141 (by kernel_rfl) rfl

set_option maxRecDepth 100000 in
set_option maxHeartbeats 2000000 in
/-- The comparing closure. -/
theorem asks98_any (w : World) (B F q : Nat) (c : C) (sa : Option Addr) (sc : Nat) (hb : CBox w B c sa sc) (hf : w.cell? ⟨F, 0, none⟩ = some (.func (.func q) #[] #[])) (hq : q = 136 ∨ q = 137 ∨ q = 138 ∨ q = 139 ∨ q = 140 ∨ q = 141) (k n : Int) (s : List UInt8) (b : Bool) :
    Calls Tryz.prog 134 #[.agg #[.int .i64 k, .int .i64 n, .string (strOf s), .bool b], .pointer (some ⟨B, 0, none⟩), .pointer (some ⟨F, 0, none⟩)] w
      fun e w' => e = .returned (.bool (decide (k = c.v.k) && tst q (cmpV ⟨k, n, s, b⟩ c.v))) ∧ Ext w w' := by
  have hx0 : Ext w (w.alloc (.cells #[.int .i64 k, .int .i64 n, .string (strOf s), .bool b] 34)) := (Ext.refl w).alloc _
  have hN : (w.alloc (.cells #[.int .i64 k, .int .i64 n, .string (strOf s), .bool b] 34)).heap[w.heap.size]? = some (.cells #[.int .i64 k, .int .i64 n, .string (strOf s), .bool b] 34 (0, 0)) := heap_alloc_new _ _
  have n0 := cell_of_row _ _ 0 _ _ _ hN
  have n1 := cell_of_row _ _ 1 _ _ _ hN
  have n2 := cell_of_row _ _ 2 _ _ _ hN
  have n3 := cell_of_row _ _ 3 _ _ _ hN
  obtain ⟨c0, c1, c2, c3, c4, c5, c6⟩ := (hb.ext hx0).cell
  have hf0 := hx0.cell hf
  have eq_ := ent_tst q hq
  by_cases hk : k = c.v.k
  · have e : (decide (k = c.v.k) && tst q (cmpV ⟨k, n, s, b⟩ c.v)) = tst q (cmpV ⟨k, n, s, b⟩ ⟨c.v.k, c.v.n, c.v.s, c.v.b⟩) := by rw [decide_eq_true hk]; rfl
    rw [e]
    clear e
    have hd : (k == c.v.k) = true := beq_iff_eq.2 hk
    clear hk hN c0 c1 c6
    go_enter Tryz.func134, Tryz.ntmps134
    go_upto_region 1 with fail
    generalize w.alloc (.cells #[.int .i64 k, .int .i64 n, .string (strOf s), .bool b] 34) = wa at *
    have hxd : Ext wa wa.drew := (Ext.refl wa).drew
    have m0 := hxd.cell n0
    have m1 := hxd.cell n1
    have m2 := hxd.cell n2
    have m3 := hxd.cell n3
    have d2 := hxd.cell c2
    have d3 := hxd.cell c3
    have d4 := hxd.cell c4
    have d5 := hxd.cell c5
    have df := hxd.cell hf0
    go_region_law (first | (go_simp; go_at_call 22; refine (compare_any _ _ _ _ _ _ _ _ _).mono ?_; rintro e w2 ⟨rfl, hx2⟩; have df2 := hx2.1.cell df) | (go_simp; go_at_fn q; refine (tst_any q hq _ _).mono ?_; rintro e w3 ⟨rfl, rfl⟩))
    all_goals
      go_wp2_with fail
      go_ret
      exact ⟨rfl, hx0.trans (hxd.trans hx2.1)⟩
  · have e : (decide (k = c.v.k) && tst q (cmpV ⟨k, n, s, b⟩ c.v)) = false := by rw [decide_eq_false hk]; rfl
    rw [e]
    clear e
    have hd : (k == c.v.k) = false := beq_eq_false_iff_ne.2 hk
    clear hk hN c0 c1 c6
    go_enter Tryz.func134, Tryz.ntmps134
    go_upto_region 1 with fail
    generalize w.alloc (.cells #[.int .i64 k, .int .i64 n, .string (strOf s), .bool b] 34) = wa at *
    go_quiet (fail)
    go_wp2_with fail
    go_ret
    exact ⟨rfl, hx0.drewN _⟩

set_option maxRecDepth 100000 in
set_option maxHeartbeats 2000000 in
/-- The prefix's closure. -/
theorem asks106_any (w : World) (B : Nat) (c : C) (sa : Option Addr) (sc : Nat) (hb : CBox w B c sa sc) (k n : Int) (s : List UInt8) (b : Bool) :
    Calls Tryz.prog 142 #[.agg #[.int .i64 k, .int .i64 n, .string (strOf s), .bool b], .pointer (some ⟨B, 0, none⟩)] w
      fun e w' => e = .returned (.bool (decide (k = 2) && (decide (c.v.k = 2) && Lib.hasPrefix s c.v.s))) ∧ Ext w w' := by
  have hx0 : Ext w (w.alloc (.cells #[.int .i64 k, .int .i64 n, .string (strOf s), .bool b] 34)) := (Ext.refl w).alloc _
  obtain ⟨c0, c1, c2, c3, c4, c5, c6⟩ := (hb.ext hx0).cell
  by_cases hk : k = 2
  · subst hk
    by_cases hk2 : c.v.k = 2
    · rw [hk2] at c2
      have e : (decide ((2 : Int) = 2) && (decide (c.v.k = 2) && Lib.hasPrefix s c.v.s)) = Lib.hasPrefix s c.v.s := by rw [decide_eq_true rfl, decide_eq_true hk2]; rfl
      rw [e]
      clear e hk2
      generalize c.v.s = t at *
      go_enter Tryz.func142, Tryz.ntmps142
      go_wp2_with (go_at_call 143; refine (hasp_any _ _ _).mono ?_; rintro e w' ⟨rfl, rfl⟩)
      go_ret
      exact ⟨rfl, hx0⟩
    · have e : (decide ((2 : Int) = 2) && (decide (c.v.k = 2) && Lib.hasPrefix s c.v.s)) = false := by rw [decide_eq_false hk2]; rfl
      rw [e]
      have hd : (c.v.k == 2) = false := beq_eq_false_iff_ne.2 hk2
      clear e hk2
      go_enter Tryz.func142, Tryz.ntmps142
      go_wp2_with fail
      go_ret
      exact ⟨rfl, hx0⟩
  · have e : (decide (k = 2) && (decide (c.v.k = 2) && Lib.hasPrefix s c.v.s)) = false := by rw [decide_eq_false hk]; rfl
    rw [e]
    have hd : (k == 2) = false := beq_eq_false_iff_ne.2 hk
    clear e hk
    go_enter Tryz.func142, Tryz.ntmps142
    go_wp2_with fail
    go_ret
    exact ⟨rfl, hx0⟩

set_option maxRecDepth 100000 in
set_option maxHeartbeats 2000000 in
/-- One of a set: the inner closure. -/
theorem asks109_any (w : World) (B : Nat) (v : V) (h0 : w.heap[B]? = some (.cells #[.int .i64 v.k, .int .i64 v.n, .string (strOf v.s), .bool v.b] 34 (0, 0))) (x : V) :
    Calls Tryz.prog 145 #[.agg #[.int .i64 x.k, .int .i64 x.n, .string (strOf x.s), .bool x.b], .pointer (some ⟨B, 0, none⟩)] w
      fun e w' => e = .returned (.bool (decide (cmpV v x = 0))) ∧ Ext w w' := by
  have hx0 : Ext w (w.alloc (.cells #[.int .i64 x.k, .int .i64 x.n, .string (strOf x.s), .bool x.b] 34)) := (Ext.refl w).alloc _
  have c0 := hx0.cell (cell_of_row w B 0 _ _ _ h0)
  have c1 := hx0.cell (cell_of_row w B 1 _ _ _ h0)
  have c2 := hx0.cell (cell_of_row w B 2 _ _ _ h0)
  have c3 := hx0.cell (cell_of_row w B 3 _ _ _ h0)
  have hres := Lib.hid (beq_dec (cmpV v x))
  have hcmp := fun W => compare_any W v.k v.n x.k x.n v.s x.s v.b x.b
  clear h0
  change ∀ W, Calls Tryz.prog 22 _ W fun e w' => e = .returned (.int .i64 (cmpV v x)) ∧ Grew W w' at hcmp
  generalize cmpV v x = r at *
  go_enter Tryz.func145, Tryz.ntmps145
  go_wp2_with (go_at_call 22; refine (hcmp _).mono ?_; rintro e w' ⟨rfl, hx⟩)
  go_ret
  exact ⟨by rw [← hres.out]; rfl, hx0.trans hx.1⟩

set_option maxRecDepth 100000 in
set_option maxHeartbeats 2000000 in
/-- One of a set. -/
theorem asks108_any (w : World) (B : Nat) (c : C) (sa : Option Addr) (sc : Nat) (hb : CBox w B c sa sc) (v : V) :
    Calls Tryz.prog 144 #[.agg #[.int .i64 v.k, .int .i64 v.n, .string (strOf v.s), .bool v.b], .pointer (some ⟨B, 0, none⟩)] w
      fun e w' => e = .returned (.bool (c.set.any fun x => decide (cmpV v x = 0))) ∧ Ext w w' := by
  have hx0 : Ext w (w.alloc (.cells #[.int .i64 v.k, .int .i64 v.n, .string (strOf v.s), .bool v.b] 34)) := (Ext.refl w).alloc _
  have hN : (w.alloc (.cells #[.int .i64 v.k, .int .i64 v.n, .string (strOf v.s), .bool v.b] 34)).heap[w.heap.size]? = some (.cells #[.int .i64 v.k, .int .i64 v.n, .string (strOf v.s), .bool v.b] 34 (0, 0)) := heap_alloc_new _ _
  obtain ⟨c0, c1, c2, c3, c4, c5, c6⟩ := (hb.ext hx0).cell
  have hs := hb.s.ext hx0
  have hcon := hasV_any _ _ _ hs 145 #[.pointer (some ⟨w.heap.size, 0, none⟩)] (fun x => decide (cmpV v x = 0)) ent109 (fun W x hx _ => asks109_any W w.heap.size v (by rw [hx.block _ (Array.getElem?_eq_some_iff.1 hN).1]; exact hN) x)
  clear hN hb hs c0 c1 c2 c3 c4 c5
  generalize (c.set.any fun x => decide (cmpV v x = 0)) = r at *
  go_enter Tryz.func144, Tryz.ntmps144
  go_wp2_with (go_at_call 31; refine hcon.mono ?_; rintro e w' ⟨rfl, hx⟩)
  go_ret
  exact ⟨rfl, hx0.trans hx⟩

/-- What pred.asks gives: a function that tells whether the constraint holds. -/
def AskEnd (w : World) (c : C) (e : Ending) (W : World) : Prop :=
  ∃ (g : Nat) (cb : Array Value), e = .returned (.func (.func g) #[] cb) ∧ (∀ args w, (callFunc g args).run Tryz.prog w = .ok (.enter g args) w) ∧ Ext w W ∧
    ∀ (W' : World) (v : V), Ext W W' → Calls Tryz.prog g (#[.agg #[.int .i64 v.k, .int .i64 v.n, .string (strOf v.s), .bool v.b]] ++ cb) W' fun e W2 => e = .returned (.bool (holdsC c v)) ∧ Ext W' W2

theorem holds_tst {c : C} {v : V} {q : Nat} (h : c.op = 2 ∧ q = 136 ∨ c.op = 3 ∧ q = 137 ∨ c.op = 4 ∧ q = 138 ∨ c.op = 5 ∧ q = 139 ∨ c.op = 6 ∧ q = 140 ∨ c.op = 7 ∧ q = 141) : holdsC c v = (decide (v.k = c.v.k) && tst q (cmpV v c.v)) := by
  unfold holdsC tst
  rcases h with ⟨h, rfl⟩ | ⟨h, rfl⟩ | ⟨h, rfl⟩ | ⟨h, rfl⟩ | ⟨h, rfl⟩ | ⟨h, rfl⟩ <;> rw [h] <;> by_cases hk : v.k = c.v.k <;> simp [hk]
theorem holds_pre {c : C} {v : V} (h : c.op = 8) : holdsC c v = (decide (v.k = 2) && (decide (c.v.k = 2) && Lib.hasPrefix v.s c.v.s)) := by
  unfold holdsC Lib.hasPrefix
  rw [h]
  by_cases h1 : v.k = 2
  · by_cases h2 : c.v.k = 2
    · simp [h1, h2]
    · have : ¬ v.k = c.v.k := by omega
      simp [h2]
      intro e; omega
  · by_cases h2 : v.k = c.v.k
    · simp only [if_pos h2]; rw [← h2]; simp [h1]
    · simp [h1, h2]

end Go.Proofs.YtcgflkfbjnpdiaaGreat
