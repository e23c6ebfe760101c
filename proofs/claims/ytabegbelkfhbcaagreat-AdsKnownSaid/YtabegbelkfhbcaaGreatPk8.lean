/- Appending to a row of the call's own: whose block the answer is. (Of any program.)
Spans without others: minus.
Compaction, element by element: what slices.Compact does in its loop.
clear at the end of a row of the call's own.
What slices.Compact's inner loop keeps; cells of a row of the call's own that may be written; cells of zero. (Of any program.)
What slices.DeleteFunc's loop keeps. (Of any program.)
Compaction by what a function says of the elements: as slices.CompactFunc does it. No program is in sight.
slices.DeleteFunc at spans.
Cuts: past.
Regions where they lie: Empty, whole. -/
import Derived.RegionTactic
import Derived.ChangeAlike
import Derived.Lib.SliceRun
import Derived.Deep.MidRow
import Derived.Deep.CutBlock
import Derived.Lib.Hide
import Derived.Deep.QuietTactic
import Derived.BigQuiet
import Derived.LoopTactic
import Derived.WalkSpells
import Derived.Lib.ConvBytes
import Derived.Test.YtabegbelkfhbcaaGreatPk1
import Derived.Test.YtabegbelkfhbcaaGreatPk7
import Derived.Test.YtabegbelkfhbcaaGreatPk4
namespace Go.Proofs.YtabegbelkfhbcaaGreat
open Go.RowKit

section
variable {P : Program}
theorem run_append_whose {w : World} (base : Nat) (t ty e : TypeId) (i : TypeInfo) (z : Value) (size bytes : Nat) (ht : P.underlying t = some (.slice e)) (hi : P.info? e = some i) (hz : i.zero = some z)
    (hsize : i.size = size) (hby : i.bytes = bytes) (hzs : z.cells.size = size) (hsz : 0 < size) (v : Value) (n : Nat) (xs : List Value) (hown : w.ownsRow base e size v n xs)
    (a : Addr) (m c : Nat) (news : List Value) (hl : news.length = m * size) (hnews : ∀ j u, news[j]? = some u → w.cell? (a.add j) = some u) (h1 : ∀ u ∈ news, u.oneCell' = true) (hm : 0 < m)
    (h63 : n + m ≤ maxLen) (hbytes : (n + m) * bytes ≤ 140737488355328) (hbase : base ≤ w.heap.size) :
    ∃ v' w', (Builtin.append_ #[t, t] ty #[v, .slice (some a) m c]).run P w = .ok v' w' ∧ w'.ownsRow base e size v' (n + m) (xs ++ news) ∧ w.grownBy w' v.ownBlock ∧ (v'.ownBlock = v.ownBlock ∨ v'.ownBlock = some w.heap.size) := by
  obtain ⟨v', w', hr, ho, hg, _⟩ := run_append_own (P := P) (w := w) base t ty e i z size bytes ht hi hz hsize hby hzs hsz v n xs hown a m c news hl hnews h1 h63 hbytes hbase
  refine ⟨v', w', hr, ho, hg, ?_⟩
  subst hsize
  have hsmall : n + m ≤ 9223372036854775807 := by simp only [maxLen] at h63; omega
  rcases hown.2 with ⟨rfl, rfl⟩ | ⟨g, cap, cur, rfl, hbg, hgh, hnc, hcm, hcs, htake⟩
  · have hr2 := run_append_nil (P := P) w t ty e i z ht hi hz a m c news hl hnews hm (by omega) (by rw [hby]; simp only [Nat.zero_add] at hbytes; omega)
    rw [hr2] at hr
    cases hr
    exact .inr rfl
  · by_cases hroom : n + m ≤ cap
    · have hfit : n * i.size + news.length ≤ cur.size := by rw [hl, hcs, ← Nat.add_mul]; exact Nat.mul_le_mul_right _ hroom
      have hr2 := run_append_room (P := P) w t ty e i ht hi g n cap cur hgh a m c news hl hnews h1 hroom hfit
      rw [hr2] at hr
      cases hr
      exact .inl rfl
    · have holds : ∀ j u, xs[j]? = some u → w.cell? ((⟨g, 0, none⟩ : Addr).add j) = some u := hown.cells (g := g) rfl
      have hr2 := run_append_grow (P := P) w t ty e i z ht hi hz ⟨g, 0, none⟩ n cap xs hown.1 holds a m c news hl hnews (by omega) (by omega) (growslice_fits (by omega) (by rw [hby]; exact hbytes))
      rw [hr2] at hr
      cases hr
      exact .inr rfl

/-- 'append(s, x...)' behind memory of the call's own, and whose block the answer is. -/
theorem wpList_append_whose {ops : Array Oper} {Q : Exit → Act → World → Prop} {a : Act} {w : World} {rest : List Oper} {o : Oper}
    (t e : TypeId) (s x : Operand) (ho : o.op = .call { callee := .builtin .append, args := #[s, x], argTypes := #[t, t] })
    (base : Nat) (z : Value) (size bytes : Nat) (ht : P.underlying t = some (.slice e)) (hi : (P.info? e).map (fun i => (i.zero, i.size, i.bytes)) = some (some z, size, bytes))
    (hzs : z.cells.size = size) (hsz : 0 < size)
    (hw : Region.wanted o (yielded ops a.tmps) = true)
    (v : Value) (n : Nat) (xs : List Value) (hs : a.eval s = v) (hown : w.ownsRow base e size v n xs)
    (m : Nat) (news : List Value) (hx : Row w size (a.eval x) m news) (h1 : ∀ u ∈ news, u.oneCell' = true) (hm : 0 < m)
    (hbytes : (n + m) * bytes ≤ 140737488355328) (h63 : n + m ≤ maxLen) (hbase : base ≤ w.heap.size)
    (h : ∀ v' w', w'.ownsRow base e size v' (n + m) (xs ++ news) → w.grownBy w' v.ownBlock → (v'.ownBlock = v.ownBlock ∨ v'.ownBlock = some w.heap.size) → wpList P ops Q rest (a.put o.dst v') w') : wpList P ops Q (o :: rest) a w := by
  obtain ⟨i, hi1, hi2, hi3, hi4⟩ := info_parts hi
  obtain ⟨hl, ad, cap, hv, hc, hmx, hnil, hspot, hcell⟩ := hx
  cases ad with
  | none => have := hnil rfl; omega
  | some p =>
    have hps : p.spot = none := hspot p rfl (by omega)
    have hadd : ∀ j, p.add j = ⟨p.block, p.off + j, none⟩ := fun j => by
      obtain ⟨pb', po', ps⟩ := p
      simp only at hps; subst hps
      unfold Addr.add; split <;> simp_all
    obtain ⟨v', w', hr, ho', hg, hq⟩ := run_append_whose (P := P) (w := w) base t o.type e i z size bytes ht hi1 hi2 hi3 hi4 hzs hsz v n xs hown p m cap news hl (fun j u hj => by
      obtain ⟨p', hp', hcl⟩ := hcell j u hj
      simp only [Option.some.injEq] at hp'; subst hp'
      rw [hadd]; exact hcl) h1 hm h63 hbytes hbase
    rw [← hv] at hr
    refine wpList_val hw ?_ (h v' w' ho' hg hq)
    simp only [execOp, ho, resolve, invoke, builtin, Sem.run_bind, Sem.run_pure, Result.andThen_ok, List.map_toArray, List.map_cons, List.map_nil, hs, hr]

theorem row_kept {w w' : World} {size n : Nat} {v : Value} {xs : List Value} {row : Option Nat} (h : Row w size v n xs) (hg : w.grownBy w' row) (hne : ∀ B o k c, v = .slice (some ⟨B, o, none⟩) k c → some B ≠ row) : Row w' size v n xs := by
  obtain ⟨h1, a, cap, rfl, h3, h4, h5, h6, h7⟩ := h
  refine ⟨h1, a, cap, rfl, h3, h4, h5, h6, fun j u hj => ?_⟩
  obtain ⟨p, rfl, hc⟩ := h7 j u hj
  refine ⟨p, rfl, hg.cell hc ?_⟩
  by_cases h0 : 0 < cap
  · have hs := h6 p rfl h0
    obtain ⟨B, o, sp⟩ := p
    simp only at hs
    subst hs
    exact hne B o _ _ rfl
  · exfalso
    have hjl : j < xs.length := by
      rcases Nat.lt_or_ge j xs.length with h' | h'
      · exact h'
      · rw [List.getElem?_eq_none h'] at hj; cases hj
    have hn : n = 0 := by omega
    rw [hn, Nat.zero_mul] at h1
    omega
end
end Go.Proofs.YtabegbelkfhbcaaGreat

namespace Go.Proofs.YtabegbelkfhbcaaGreat
open Go.RowKit Go.Sort

theorem info101t : (Tryz.prog.info? 115).map (fun i => (i.zero, i.size, i.bytes)) = some (some (.agg #[.string ⟨#[]⟩, .bool false, .string ⟨#[]⟩, .bool false]), 4, 48) := by kernel_rfl

/-- A part of a row or struct is stored. -/
theorem wpList_store_part {P : Program} {ops : Array Oper} {Q : Exit → Act → World → Prop} {a : Act} {w : World} {rest : List Oper} {o : Oper}
    (ty : TypeId) (x y : Operand) (ho : o.op = .store ty x y) (hw : Region.wanted o (yielded ops a.tmps) = true)
    (g off : Nat) (hx : a.eval x = .pointer (some ⟨g, off, none⟩)) (cs : Array Value) (hy : a.eval y = .agg cs) (c : Array Value) (t : TypeId) (R : Array Value)
    (hg : w.heap[g]? = some (.cells c t (0, 0))) (hsz : off + cs.size ≤ c.size) (hi : (P.info? ty).map (·.size) = some cs.size) (h1 : ∀ v ∈ cs.toList, v.oneCell' = true)
    (hR : (c.toList.take off ++ cs.toList ++ c.toList.drop (off + cs.size)).toArray = R)
    (h : wpList P ops Q rest (a.put o.dst undef) (w.setRow g R)) : wpList P ops Q (o :: rest) a w := by
  have hst := run_storeCells_at (P := P) g off t cs.toList 0 c w hg (by simpa using hsz) h1
  simp only [Nat.add_zero, Array.length_toList] at hst
  rw [hR] at hst
  have hr : (execOp a.eval o).run P w = .ok .skip (w.setRow g R) := by
    cases hq : P.info? ty with
    | none => simp [hq] at hi
    | some i =>
      have hs : cs.size = i.size := by simp [hq] at hi; omega
      simp [execOp, ho, hx, hy, Instr.storeAt, Instr.sureAddr, storeVar, sizeOf, typeInfo, hq, Value.cells, hs, hst]
  simp only [wpList, hw, if_true]
  refine .inl ?_
  unfold Oper.wp
  rw [hr]
  exact h

theorem flat_take_le {α β : Type} (f : α → List β) (l : List α) (k : Nat) : ((l.take k).flatMap f).length ≤ (l.flatMap f).length := by
  conv => rhs; rw [← List.take_append_drop k l, List.flatMap_append, List.length_append]
  exact Nat.le_add_right _ _
theorem spRow (w : World) (x : Sp) : Row (w.alloc (.cells (spC x).toArray 115)) 4 (.slice (some ⟨w.heap.size, 0, none⟩) 1 1) 1 (spC x) :=
  Row.of_own (World.ownsRow_lit (base := w.heap.size) (e := 115) (size := 4) w (spC x).toArray 1 (Nat.le_refl _) (by decide) rfl)
theorem sp_lit (w : World) (l : List Sp) (hm : l.length ≤ maxLen) : SpR (w.alloc (.cells (l.flatMap spC).toArray 115)) (.slice (some ⟨w.heap.size, 0, none⟩) l.length l.length) l :=
  Row.of_own (World.ownsRow_lit (base := w.heap.size) (e := 115) (size := 4) w (l.flatMap spC).toArray l.length (Nat.le_refl _) hm (by simp only [List.size_toArray]; exact flat_len spC 4 spC_len l))

set_option maxRecDepth 100000 in
set_option maxHeartbeats 8000000 in
theorem minus_any (w : World) (v1 v2 : Value) (l m : List Sp) (h1 : SpR w v1 l) (h2 : SpR w v2 m) (hb : ∀ k, k ≤ m.length → (minusL l (m.take k)).length ≤ 1000000) :
    Calls Tryz.prog 131 #[v1, v2] w fun e w' => ∃ v, e = .returned v ∧ SpR w' v (minusL l m) ∧ Ext w w' := by
  obtain ⟨a1, c1, rfl, _, hm1⟩ := Row.shape h1
  obtain ⟨a2, c2, rfl, _, hm2⟩ := Row.shape h2
  unfold maxLen at hm1 hm2
  have H1 := Lib.hid h1
  have H2 := Lib.hid h2
  have HBD := Lib.hid hb
  clear h1 h2 hb
  obtain ⟨n, hn⟩ : ∃ n, n = m.length := ⟨_, rfl⟩
  have HN := Lib.hid hn
  rw [← hn] at H2 ⊢
  clear hn
  go_enter Tryz.func131, Tryz.ntmps131
  go_wp2_with fail
  go_loopw [0, 6, 7, 9, 10, 11, 13, 16] (fun v _ _ _ _ _ _ i wr => ∃ k : Nat, k ≤ n ∧ i = .int .i64 k ∧ Hid (SpR wr v (minusL l (m.take k))) ∧ Ext w wr) (fun _ _ _ _ _ _ _ i _ => n - (intOf i).toNat)
  case atStart => exact ⟨0, Nat.zero_le _, rfl, H1.out, Ext.refl w⟩
  case round =>
    obtain ⟨k, hk, rfl, hsp, hx⟩ := hrel
    by_cases hlt : k < n
    · have hI : decide ((k : Int) < (n : Int)) = true := decide_eq_true (by omega)
      have k1 : k < m.length := by have := HN.out; omega
      obtain ⟨B2, o2, rfl, f0, f1, f2, f3⟩ := SpR.at (H2.out.ext hx) k1
      have hstep : minusL l (m.take (k + 1)) = (minusL l (m.take k)).flatMap fun s => minus1 s m[k] := by
        rw [List.take_succ_eq_append_getElem k1]; unfold minusL; rw [List.foldl_append]; rfl
      have hbk := HBD.out (k + 1) (by have := HN.out; omega)
      rw [hstep] at hbk
      have HST := Lib.hid hstep
      have HBK := Lib.hid hbk
      have hbl := HBD.out k (by have := HN.out; omega)
      clear hstep hbk
      generalize m[k] = out at *
      obtain ⟨lk, hlk⟩ : ∃ lk, lk = minusL l (m.take k) := ⟨_, rfl⟩
      rw [← hlk] at hsp HST HBK hbl
      clear hlk
      obtain ⟨al, cl, rfl, hcl, hml⟩ := Row.shape hsp.out
      unfold maxLen at hml
      obtain ⟨n3, hn3⟩ : ∃ n3, n3 = lk.length := ⟨_, rfl⟩
      have HN3 := Lib.hid hn3
      rw [← hn3] at hsp hbl ⊢ hcl
      clear hn3
      have hxW : Ext wr (wr.alloc (.cells #[.string (strOf out.lo.a), .bool out.lo.e, .string (strOf out.hi.a), .bool out.hi.e] 115)) := (Ext.refl wr).alloc _
      have hBo := heap_alloc_new wr (.cells #[.string (strOf out.lo.a), .bool out.lo.e, .string (strOf out.hi.a), .bool out.hi.e] 115)
      go_wp2_with fail
      generalize wr.alloc (.cells #[.string (strOf out.lo.a), .bool out.lo.e, .string (strOf out.hi.a), .bool out.hi.e] 115) = W at *
      obtain ⟨wo, hwo⟩ : ∃ wo : World, wo = wr := ⟨_, rfl⟩
      subst hwo
      have HBO := Lib.hid hBo
      clear f0 f1 f2 f3 hBo
      go_loopw [7, 9, 10, 11, 13, 22] (fun st _ _ _ _ i wr => ∃ (j : Nat) (pre : List Sp), j ≤ n3 ∧ i = .int .i64 j ∧ Hid (pre = (lk.take j).flatMap fun s => minus1 s out) ∧ Hid (wr.ownsRow W.heap.size 115 4 st pre.length (pre.flatMap spC)) ∧ Ext W wr) (fun _ _ _ _ _ i _ => n3 - (intOf i).toNat)
      case atStart => exact ⟨0, [], Nat.zero_le _, rfl, rfl, ⟨rfl, .inl ⟨rfl, rfl⟩⟩, Ext.refl _⟩
      case round =>
        obtain ⟨j, pre, hj, rfl, hpre, hown, hy⟩ := hrel
        by_cases hjl : j < n3
        · have hI2 : decide ((j : Int) < (n3 : Int)) = true := decide_eq_true (by omega)
          have j1 : j < lk.length := by have := HN3.out; omega
          obtain ⟨B3, o3, rfl, g0, g1, g2, g3⟩ := SpR.at (hsp.out.ext (hxW.trans hy)) (by have := HN3.out; omega)
          have hnxt : (lk.take (j + 1)).flatMap (fun s => minus1 s out) = pre ++ minus1 lk[j] out := by
            rw [List.take_succ_eq_append_getElem j1, List.flatMap_append, List.flatMap_singleton, ← hpre.out]
          have hlen : pre.length + (minus1 lk[j] out).length ≤ 1000000 := by
            have h1 := flat_take_le (fun s => minus1 s out) lk (j + 1)
            rw [hnxt, List.length_append] at h1
            exact Nat.le_trans h1 HBK.out
          have HNXT := Lib.hid hnxt
          clear hnxt
          generalize lk[j] = s at *
          have hBs := heap_alloc_new wr (.cells #[.string (strOf s.lo.a), .bool s.lo.e, .string (strOf s.hi.a), .bool s.hi.e] 115)
          have hxs : Ext wr (wr.alloc (.cells #[.string (strOf s.lo.a), .bool s.lo.e, .string (strOf s.hi.a), .bool s.hi.e] 115)) := (Ext.refl wr).alloc _
          have hss : (wr.alloc (.cells #[.string (strOf s.lo.a), .bool s.lo.e, .string (strOf s.hi.a), .bool s.hi.e] 115)).heap.size = wr.heap.size + 1 := World.size_alloc _ _
          have s0 := cell_of_row _ _ 0 _ _ _ hBs
          have s1 := cell_of_row _ _ 1 _ _ _ hBs
          have s2 := cell_of_row _ _ 2 _ _ _ hBs
          have s3 := cell_of_row _ _ 3 _ _ _ hBs
          have HBS := Lib.hid hBs
          clear hBs
          go_upto_region 8 with fail
          generalize wr.alloc (.cells #[.string (strOf s.lo.a), .bool s.lo.e, .string (strOf s.hi.a), .bool s.hi.e] 115) = ws at *
          go_cut [10, 11] from 26 to 35 (fun v10 v11 wx => ∃ (b c : Nat) (wy : World), wy = wx ∧ v10 = .pointer (some ⟨b, 0, none⟩) ∧ v11 = .pointer (some ⟨c, 0, none⟩) ∧ b ≠ c ∧ ws.heap.size ≤ b ∧ ws.heap.size ≤ c ∧ wy.heap[b]? = some (.cells #[.string (strOf s.lo.a), .bool s.lo.e, .string (strOf s.hi.a), .bool s.hi.e] 115 (0, 0)) ∧ wy.heap[c]? = some (.cells #[.string (strOf s.lo.a), .bool s.lo.e, .string (strOf s.hi.a), .bool s.hi.e] 115 (0, 0)) ∧ Ext ws wy)
          case first =>
            have hb1 : ((ws.alloc (.cells #[.string (strOf s.lo.a), .bool s.lo.e, .string (strOf s.hi.a), .bool s.hi.e] 115)).alloc (.cells #[.string (strOf s.lo.a), .bool s.lo.e, .string (strOf s.hi.a), .bool s.hi.e] 115)).heap[wr.heap.size + 1]? = some (.cells #[.string (strOf s.lo.a), .bool s.lo.e, .string (strOf s.hi.a), .bool s.hi.e] 115 (0, 0)) := by
              have h := heap_alloc_new ws (.cells #[.string (strOf s.lo.a), .bool s.lo.e, .string (strOf s.hi.a), .bool s.hi.e] 115)
              rw [hss] at h
              rw [((Ext.refl _).alloc (.cells #[.string (strOf s.lo.a), .bool s.lo.e, .string (strOf s.hi.a), .bool s.hi.e] 115)).block _ (by rw [World.size_alloc, hss]; omega)]
              exact h
            have hb2 : ((ws.alloc (.cells #[.string (strOf s.lo.a), .bool s.lo.e, .string (strOf s.hi.a), .bool s.hi.e] 115)).alloc (.cells #[.string (strOf s.lo.a), .bool s.lo.e, .string (strOf s.hi.a), .bool s.hi.e] 115)).heap[wr.heap.size + 1 + 1]? = some (.cells #[.string (strOf s.lo.a), .bool s.lo.e, .string (strOf s.hi.a), .bool s.hi.e] 115 (0, 0)) := by
              have h := heap_alloc_new (ws.alloc (.cells #[.string (strOf s.lo.a), .bool s.lo.e, .string (strOf s.hi.a), .bool s.hi.e] 115)) (.cells #[.string (strOf s.lo.a), .bool s.lo.e, .string (strOf s.hi.a), .bool s.hi.e] 115)
              rw [World.size_alloc, hss] at h
              exact h
            have hxe : Ext ws ((ws.alloc (.cells #[.string (strOf s.lo.a), .bool s.lo.e, .string (strOf s.hi.a), .bool s.hi.e] 115)).alloc (.cells #[.string (strOf s.lo.a), .bool s.lo.e, .string (strOf s.hi.a), .bool s.hi.e] 115)).drew := (((Ext.refl ws).alloc _).alloc _).drew
            have hsz1 : ws.heap.size ≤ wr.heap.size + 1 := by omega
            have hsz2 : ws.heap.size ≤ wr.heap.size + 1 + 1 := by omega
            have H1B := Lib.hid hb1
            have H2B := Lib.hid hb2
            have HXE := Lib.hid hxe
            clear HST HBK hpre hown HBO HN3 HN H1 HBD hsp g0 g1 g2 g3 HNXT hb1 hb2 hxe HBS
            go_region
            · go_wp2_with fail
              go_meet
              exact ⟨wr.heap.size + 1, wr.heap.size + 1 + 1, _, rfl, rfl, rfl, by omega, hsz1, hsz2, H1B.out, H2B.out, HXE.out⟩
            · go_wp2_with fail
              go_meet
              exact ⟨wr.heap.size + 1 + 1, wr.heap.size + 1, _, rfl, rfl, rfl, by omega, hsz2, hsz1, H2B.out, H1B.out, HXE.out⟩
          case rest =>
            obtain ⟨b, c, wy, rfl, rfl, rfl, hbc, hbs, hcs, hBb, hBc, hys⟩ := hcut
            have HBb := Lib.hid hBb
            have HBc := Lib.hid hBc
            have hwo : wo.heap.size < ws.heap.size := by have := hxs.size; have := hy.size; have := (Array.getElem?_eq_some_iff.1 HBO.out).1; omega
            have HBo2 := Lib.hid (((hy.trans (hxs.trans hys)).block _ (Array.getElem?_eq_some_iff.1 HBO.out).1).trans HBO.out)
            have HBs2 := Lib.hid ((hys.block _ (Array.getElem?_eq_some_iff.1 HBS.out).1).trans HBS.out)
            clear hBb hBc s0 s1 s2 s3 g0 g1 g2 g3
            generalize hAq : Cut.lt out.lo s.hi = A at *
            generalize hBq : Cut.lt s.lo out.hi = Bq at *
            have hA := Lib.hid hAq
            have hB := Lib.hid hBq
            clear hAq hBq
            have b2 := cell_of_row _ _ 2 _ _ _ HBb.out
            have b3 := cell_of_row _ _ 3 _ _ _ HBb.out
            have o0 := cell_of_row _ _ 0 _ _ _ HBo2.out
            have o1 := cell_of_row _ _ 1 _ _ _ HBo2.out
            go_upto_if 40 with (go_at_call 153; refine (less_any _ out.lo s.hi).mono ?_; rw [hA.out]; rintro e y1 ⟨rfl, hy1⟩)
            have HB1 := Lib.hid ((hy1.block _ (Array.getElem?_eq_some_iff.1 HBb.out).1).trans HBb.out)
            have HC1 := Lib.hid ((hy1.block _ (Array.getElem?_eq_some_iff.1 HBc.out).1).trans HBc.out)
            have HO1 := Lib.hid ((hy1.block _ (Array.getElem?_eq_some_iff.1 HBo2.out).1).trans HBo2.out)
            have HS1 := Lib.hid ((hy1.block _ (Array.getElem?_eq_some_iff.1 HBs2.out).1).trans HBs2.out)
            have hx1 := hys.trans hy1
            have hsz1 : wr.heap.size < ws.heap.size := by omega
            clear b2 b3 o0 o1 hy1 HBb HBc HBo2 HBs2 hys
            go_cut [40] from 41 to 43 (fun _ wx => ∃ wz, wz = wx ∧ wz.heap[b]? = some (.cells #[.string (strOf s.lo.a), .bool s.lo.e, .string (strOf (if A then out.lo else s.hi).a), .bool (if A then out.lo else s.hi).e] 115 (0, 0)) ∧ wz.heap[c]? = some (.cells #[.string (strOf s.lo.a), .bool s.lo.e, .string (strOf s.hi.a), .bool s.hi.e] 115 (0, 0)) ∧ wz.heap[wo.heap.size]? = some (.cells #[.string (strOf out.lo.a), .bool out.lo.e, .string (strOf out.hi.a), .bool out.hi.e] 115 (0, 0)) ∧ wz.heap[wr.heap.size]? = some (.cells #[.string (strOf s.lo.a), .bool s.lo.e, .string (strOf s.hi.a), .bool s.hi.e] 115 (0, 0)) ∧ Ext ws wz)
            case first =>
              clear HST HBK hpre hown HBO HN3 HN H1 HBD hsp hA hB
              have o0 := cell_of_row _ _ 0 _ _ _ HO1.out
              have o1 := cell_of_row _ _ 1 _ _ _ HO1.out
              cases A
              · go_wp2_with fail
                go_meet
                exact ⟨_, rfl, HB1.out, HC1.out, HO1.out, HS1.out, hx1⟩
              · go_wp2_with (refine wpList_store_part 113 (.tmp 43) (.tmp 42) rfl rfl b 2 rfl #[.string (strOf out.lo.a), .bool out.lo.e] rfl _ 115 #[.string (strOf s.lo.a), .bool s.lo.e, .string (strOf out.lo.a), .bool out.lo.e] HB1.out (by simp) info96t (by simp [Value.oneCell']) rfl ?_)
                go_meet
                exact ⟨_, rfl, setRow_heap _ _ _ _ _ _ HB1.out, (setRow_other _ b c _ (Ne.symm hbc)).trans HC1.out, (setRow_other _ b wo.heap.size _ (by omega)).trans HO1.out, (setRow_other _ b wr.heap.size _ (by omega)).trans HS1.out, hx1.setRow hbs _⟩
            case rest =>
              obtain ⟨y3, rfl, hb3, hc3, ho3, hs3, hx3⟩ := hcut
              have HB3 := Lib.hid hb3
              have HC3 := Lib.hid hc3
              have HO3 := Lib.hid ho3
              have HS3 := Lib.hid hs3
              have c0 := cell_of_row _ _ 0 _ _ _ hc3
              have c1' := cell_of_row _ _ 1 _ _ _ hc3
              have o2' := cell_of_row _ _ 2 _ _ _ ho3
              have o3' := cell_of_row _ _ 3 _ _ _ ho3
              clear hb3 hc3 ho3 hs3 HB1 HC1 HO1 HS1 hx1
              go_upto_if 48 with (go_at_call 153; refine (less_any _ s.lo out.hi).mono ?_; rw [hB.out]; rintro e y4 ⟨rfl, hy4⟩)
              have HB4 := Lib.hid ((hy4.block _ (Array.getElem?_eq_some_iff.1 HB3.out).1).trans HB3.out)
              have HC4 := Lib.hid ((hy4.block _ (Array.getElem?_eq_some_iff.1 HC3.out).1).trans HC3.out)
              have HO4 := Lib.hid ((hy4.block _ (Array.getElem?_eq_some_iff.1 HO3.out).1).trans HO3.out)
              have HS4 := Lib.hid ((hy4.block _ (Array.getElem?_eq_some_iff.1 HS3.out).1).trans HS3.out)
              have hx4 := hx3.trans hy4
              clear c0 c1' o2' o3' hy4 HB3 HC3 HO3 HS3 hx3
              go_cut [48] from 49 to 51 (fun _ wx => ∃ wz, wz = wx ∧ wz.heap[b]? = some (.cells #[.string (strOf s.lo.a), .bool s.lo.e, .string (strOf (if A then out.lo else s.hi).a), .bool (if A then out.lo else s.hi).e] 115 (0, 0)) ∧ wz.heap[c]? = some (.cells #[.string (strOf (if Bq then out.hi else s.lo).a), .bool (if Bq then out.hi else s.lo).e, .string (strOf s.hi.a), .bool s.hi.e] 115 (0, 0)) ∧ wz.heap[wo.heap.size]? = some (.cells #[.string (strOf out.lo.a), .bool out.lo.e, .string (strOf out.hi.a), .bool out.hi.e] 115 (0, 0)) ∧ wz.heap[wr.heap.size]? = some (.cells #[.string (strOf s.lo.a), .bool s.lo.e, .string (strOf s.hi.a), .bool s.hi.e] 115 (0, 0)) ∧ Ext ws wz)
              case first =>
                clear HST HBK hpre hown HBO HN3 HN H1 HBD hsp hA hB
                have o2' := cell_of_row _ _ 2 _ _ _ HO4.out
                have o3' := cell_of_row _ _ 3 _ _ _ HO4.out
                cases Bq
                · go_wp2_with fail
                  go_meet
                  exact ⟨_, rfl, HB4.out, HC4.out, HO4.out, HS4.out, hx4⟩
                · go_wp2_with (refine wpList_store_part 113 (.tmp 51) (.tmp 50) rfl rfl c 0 rfl #[.string (strOf out.hi.a), .bool out.hi.e] rfl _ 115 #[.string (strOf out.hi.a), .bool out.hi.e, .string (strOf s.hi.a), .bool s.hi.e] HC4.out (by simp) info96t (by simp [Value.oneCell']) rfl ?_)
                  go_meet
                  exact ⟨_, rfl, (setRow_other _ c b _ hbc).trans HB4.out, setRow_heap _ _ _ _ _ _ HC4.out, (setRow_other _ c wo.heap.size _ (by omega)).trans HO4.out, (setRow_other _ c wr.heap.size _ (by omega)).trans HS4.out, hx4.setRow hcs _⟩
              case rest =>
                obtain ⟨y5, rfl, hb5, hc5, ho5, hs5, hx5⟩ := hcut
                have HB5 := Lib.hid hb5
                have HC5 := Lib.hid hc5
                have HS5 := Lib.hid hs5
                have HO5 := Lib.hid ho5
                have hWs : Ext W ws := hy.trans hxs
                have hx6 := hWs.trans hx5
                have hown5 := Lib.hid (own_laterB hown.out (hxs.trans hx5))
                clear hb5 hc5 hs5 ho5 HB4 HC4 HO4 HS4 hx4
                have o0 := cell_of_row _ _ 0 _ _ _ HO5.out
                have o1 := cell_of_row _ _ 1 _ _ _ HO5.out
                have q2 := cell_of_row _ _ 2 _ _ _ HS5.out
                have q3 := cell_of_row _ _ 3 _ _ _ HS5.out
                cases A
                · have hm1s : minus1 s out = [s] := by unfold minus1; rw [hA.out]; rfl
                  go_wp2_with fail
                  refine (less_any _ out.lo s.hi).mono ?_
                  rw [hA.out]
                  rintro e y6 ⟨rfl, hy6⟩
                  have HSY := Lib.hid ((hy6.block _ (Array.getElem?_eq_some_iff.1 HS5.out).1).trans HS5.out)
                  have r0 := cell_of_row _ _ 0 _ _ _ HSY.out
                  have r1 := cell_of_row _ _ 1 _ _ _ HSY.out
                  have r2 := cell_of_row _ _ 2 _ _ _ HSY.out
                  have r3 := cell_of_row _ _ 3 _ _ _ HSY.out
                  have hx7 := hx6.trans hy6
                  have ho7 := own_laterB hown5.out (hy6.alloc (.cells (spC s).toArray 115))
                  have hx8 := hx7.alloc (.cells (spC s).toArray 115)
                  have HRO := Lib.hid (spRow y6 s)
                  have hone := spC_one [s]
                  rw [List.flatMap_singleton] at hone
                  have HONE := Lib.hid hone
                  have HO7 := Lib.hid ho7
                  have HX8 := Lib.hid hx8
                  have hl1 : (minus1 s out).length = 1 := by rw [hm1s]; rfl
                  clear hone ho7 hx8
                  go_wp2_with (at_builtin; refine wpList_append_row 80 115 (.tmp 66) (.tmp 68) rfl W.heap.size _ 4 48 Tryz.underlying80 info101t rfl (by decide) rfl _ pre.length (pre.flatMap spC) rfl HO7.out 1 (spC s) HRO.out HONE.out (by omega) (by unfold maxLen; omega) HX8.out.size ?_; intro v7 w7 hown7 hgrow; have HO9 := Lib.hid hown7; have HG := Lib.hid hgrow; clear hown7 hgrow)
                  go_roundw
                  case rel =>
                    refine ⟨j + 1, pre ++ [s], hjl, by go_num, ?_, ?_, HX8.out.grown_none HG.out (own_base HO7.out)⟩
                    · show _ = _
                      rw [HNXT.out, hm1s]
                    · show World.ownsRow _ _ _ _ _ _ _
                      rw [List.length_append, List.length_singleton, List.flatMap_append, List.flatMap_singleton]
                      exact HO9.out
                  case measure => simp [intOf]; omega
                · cases Bq
                  · have hm1s : minus1 s out = [s] := by unfold minus1; rw [hA.out, hB.out]; rfl
                    have q0 := cell_of_row _ _ 0 _ _ _ HS5.out
                    have q1 := cell_of_row _ _ 1 _ _ _ HS5.out
                    go_wp2_with fail
                    refine (less_any _ out.lo s.hi).mono ?_
                    rw [hA.out]
                    rintro e y6' ⟨rfl, hy6'⟩
                    have o2' := hy6'.cell (cell_of_row _ _ 2 _ _ _ HO5.out)
                    have o3' := hy6'.cell (cell_of_row _ _ 3 _ _ _ HO5.out)
                    have q0 := hy6'.cell q0
                    have q1 := hy6'.cell q1
                    go_wp2_with fail
                    refine (less_any _ s.lo out.hi).mono ?_
                    rw [hB.out]
                    rintro e y6 ⟨rfl, hy6⟩
                    have hy6 := hy6'.trans hy6
                    clear o2' o3' q0 q1
                    have HSY := Lib.hid ((hy6.block _ (Array.getElem?_eq_some_iff.1 HS5.out).1).trans HS5.out)
                    have r0 := cell_of_row _ _ 0 _ _ _ HSY.out
                    have r1 := cell_of_row _ _ 1 _ _ _ HSY.out
                    have r2 := cell_of_row _ _ 2 _ _ _ HSY.out
                    have r3 := cell_of_row _ _ 3 _ _ _ HSY.out
                    have hx7 := hx6.trans hy6
                    have ho7 := own_laterB hown5.out (hy6.alloc (.cells (spC s).toArray 115))
                    have hx8 := hx7.alloc (.cells (spC s).toArray 115)
                    have HRO := Lib.hid (spRow y6 s)
                    have hone := spC_one [s]
                    rw [List.flatMap_singleton] at hone
                    have HONE := Lib.hid hone
                    have HO7 := Lib.hid ho7
                    have HX8 := Lib.hid hx8
                    have hl1 : (minus1 s out).length = 1 := by rw [hm1s]; rfl
                    clear hone ho7 hx8
                    go_wp2_with (at_builtin; refine wpList_append_row 80 115 (.tmp 66) (.tmp 68) rfl W.heap.size _ 4 48 Tryz.underlying80 info101t rfl (by decide) rfl _ pre.length (pre.flatMap spC) rfl HO7.out 1 (spC s) HRO.out HONE.out (by omega) (by unfold maxLen; omega) HX8.out.size ?_; intro v7 w7 hown7 hgrow; have HO9 := Lib.hid hown7; have HG := Lib.hid hgrow; clear hown7 hgrow)
                    go_roundw
                    case rel =>
                      refine ⟨j + 1, pre ++ [s], hjl, by go_num, ?_, ?_, HX8.out.grown_none HG.out (own_base HO7.out)⟩
                      · show _ = _
                        rw [HNXT.out, hm1s]
                      · show World.ownsRow _ _ _ _ _ _ _
                        rw [List.length_append, List.length_singleton, List.flatMap_append, List.flatMap_singleton]
                        exact HO9.out
                    case measure => simp [intOf]; omega
                  · have hm1s : minus1 s out = fullS [⟨s.lo, out.lo⟩, ⟨out.hi, s.hi⟩] := by unfold minus1; rw [hA.out, hB.out]; rfl
                    have HM1 := Lib.hid hm1s
                    clear hm1s
                    have q0 := cell_of_row _ _ 0 _ _ _ HS5.out
                    have q1 := cell_of_row _ _ 1 _ _ _ HS5.out
                    go_wp2_with fail
                    refine (less_any _ out.lo s.hi).mono ?_
                    rw [hA.out]
                    rintro e y6' ⟨rfl, hy6'⟩
                    have o2' := hy6'.cell (cell_of_row _ _ 2 _ _ _ HO5.out)
                    have o3' := hy6'.cell (cell_of_row _ _ 3 _ _ _ HO5.out)
                    have q0 := hy6'.cell q0
                    have q1 := hy6'.cell q1
                    go_wp2_with fail
                    refine (less_any _ s.lo out.hi).mono ?_
                    rw [hB.out]
                    rintro e y6 ⟨rfl, hy6⟩
                    have hy6 := hy6'.trans hy6
                    clear o2' o3' q0 q1
                    have HBY := Lib.hid ((hy6.block _ (Array.getElem?_eq_some_iff.1 HB5.out).1).trans HB5.out)
                    have HCY := Lib.hid ((hy6.block _ (Array.getElem?_eq_some_iff.1 HC5.out).1).trans HC5.out)
                    have b0 := cell_of_row _ _ 0 _ _ _ HBY.out
                    have b1 := cell_of_row _ _ 1 _ _ _ HBY.out
                    have b2 := cell_of_row _ _ 2 _ _ _ HBY.out
                    have b3 := cell_of_row _ _ 3 _ _ _ HBY.out
                    have c0 := cell_of_row _ _ 0 _ _ _ HCY.out
                    have c1' := cell_of_row _ _ 1 _ _ _ HCY.out
                    have c2' := cell_of_row _ _ 2 _ _ _ HCY.out
                    have c3 := cell_of_row _ _ 3 _ _ _ HCY.out
                    have hx7 := hx6.trans hy6
                    have hlit : SpR (y6.alloc (.cells #[.string (strOf s.lo.a), .bool s.lo.e, .string (strOf out.lo.a), .bool out.lo.e, .string (strOf out.hi.a), .bool out.hi.e, .string (strOf s.hi.a), .bool s.hi.e] 115)) (.slice (some ⟨y6.heap.size, 0, none⟩) 2 2) [⟨s.lo, out.lo⟩, ⟨out.hi, s.hi⟩] := sp_lit y6 [⟨s.lo, out.lo⟩, ⟨out.hi, s.hi⟩] (by show (2 : Nat) ≤ maxLen; decide)
                    have hx8 := hx7.alloc (.cells #[.string (strOf s.lo.a), .bool s.lo.e, .string (strOf out.lo.a), .bool out.lo.e, .string (strOf out.hi.a), .bool out.hi.e, .string (strOf s.hi.a), .bool s.hi.e] 115)
                    have HO8 := Lib.hid (own_laterB hown5.out (hy6.alloc (.cells #[.string (strOf s.lo.a), .bool s.lo.e, .string (strOf out.lo.a), .bool out.lo.e, .string (strOf out.hi.a), .bool out.hi.e, .string (strOf s.hi.a), .bool s.hi.e] 115)))
                    have HLIT := Lib.hid hlit
                    have hle0 : pre.length ≤ 1000000 := by omega
                    have HNB : Hid (u7.ownBlock ≠ some y6.heap.size) := by
                      show _ ≠ _
                      intro e
                      have h1 := (hown5.out.lt _ e).2
                      have h2 := hy6.size
                      omega
                    have hg7 : y6.heap.size < (y6.alloc (.cells #[.string (strOf s.lo.a), .bool s.lo.e, .string (strOf out.lo.a), .bool out.lo.e, .string (strOf out.hi.a), .bool out.hi.e, .string (strOf s.hi.a), .bool s.hi.e] 115)).heap.size := by rw [World.size_alloc]; omega
                    clear hlit hx7 hy6 HBY HCY
                    go_wp2_with fail
                    generalize y6.alloc (.cells #[.string (strOf s.lo.a), .bool s.lo.e, .string (strOf out.lo.a), .bool out.lo.e, .string (strOf out.hi.a), .bool out.hi.e, .string (strOf s.hi.a), .bool s.hi.e] 115) = y7 at *
                    generalize y6.heap.size = g7 at *
                    clear b0 b1 b2 b3 c0 c1' c2' c3
                    go_loopw [7, 13, 74] (fun st _ i wr => ∃ (q : Nat) (pre2 : List Sp), q ≤ 2 ∧ i = .int .i64 q ∧ pre2.length ≤ pre.length + q ∧ Hid (pre2 = pre ++ fullS (([⟨s.lo, out.lo⟩, ⟨out.hi, s.hi⟩] : List Sp).take q)) ∧ Hid (wr.ownsRow W.heap.size 115 4 st pre2.length (pre2.flatMap spC)) ∧ Hid (SpR wr (.slice (some ⟨g7, 0, none⟩) 2 2) [⟨s.lo, out.lo⟩, ⟨out.hi, s.hi⟩]) ∧ Hid (st.ownBlock ≠ some g7) ∧ g7 < wr.heap.size ∧ Ext W wr) (fun _ _ i _ => 2 - (intOf i).toNat)
                    case atStart => exact ⟨0, pre, Nat.zero_le _, rfl, Nat.le_refl _, (by show pre = pre ++ fullS []; exact (List.append_nil pre).symm), HO8.out, HLIT.out, HNB.out, hg7, hx8⟩
                    case round =>
                      obtain ⟨q, pre2, hq, rfl, hlp, hp2, ho2, hlt7, hnb, hg7w, hz⟩ := hrel
                      by_cases hq2 : q < 2
                      · have hI3 : decide ((q : Int) < 2) = true := decide_eq_true (by omega)
                        have qq : q < ([⟨s.lo, out.lo⟩, ⟨out.hi, s.hi⟩] : List Sp).length := hq2
                        obtain ⟨B7, o7, e7, z0, z1, z2, z3⟩ := SpR.at hlt7.out qq
                        cases e7
                        have hnx : fullS (([⟨s.lo, out.lo⟩, ⟨out.hi, s.hi⟩] : List Sp).take (q + 1)) = fullS (([⟨s.lo, out.lo⟩, ⟨out.hi, s.hi⟩] : List Sp).take q) ++ fullS [([⟨s.lo, out.lo⟩, ⟨out.hi, s.hi⟩] : List Sp)[q]] := by
                          unfold fullS
                          rw [List.take_succ_eq_append_getElem qq, List.filter_append]
                        have HNX := Lib.hid hnx
                        clear hnx
                        generalize ([⟨s.lo, out.lo⟩, ⟨out.hi, s.hi⟩] : List Sp)[q] = x at *
                        simp only [Nat.zero_add] at z0 z1 z2 z3
                        have hxx : Ext wr (wr.alloc (.cells #[.string (strOf x.lo.a), .bool x.lo.e, .string (strOf x.hi.a), .bool x.hi.e] 115)) := (Ext.refl wr).alloc _
                        have hBx := heap_alloc_new wr (.cells #[.string (strOf x.lo.a), .bool x.lo.e, .string (strOf x.hi.a), .bool x.hi.e] 115)
                        have x0' := cell_of_row _ _ 0 _ _ _ hBx
                        have x1' := cell_of_row _ _ 1 _ _ _ hBx
                        have x2' := cell_of_row _ _ 2 _ _ _ hBx
                        have x3' := cell_of_row _ _ 3 _ _ _ hBx
                        have HBX := Lib.hid hBx
                        clear hBx
                        obtain ⟨F, hF⟩ : ∃ F, F = Cut.lt x.lo x.hi := ⟨_, rfl⟩
                        have HF := Lib.hid hF
                        clear hF
                        go_wp2_with fail
                        generalize wr.alloc (.cells #[.string (strOf x.lo.a), .bool x.lo.e, .string (strOf x.hi.a), .bool x.hi.e] 115) = wx at *
                        refine (less_any _ x.lo x.hi).mono ?_
                        rw [← HF.out]
                        rintro e y8 ⟨rfl, hy8⟩
                        have hxy := hxx.trans hy8
                        clear z0 z1 z2 z3 x0' x1' x2' x3'
                        cases F
                        · have hf : fullS [x] = [] := by unfold fullS; simp [← HF.out]
                          have HFN := Lib.hid hf
                          have HO9 := Lib.hid (own_laterB ho2.out hxy)
                          have hzz := hz.trans hxy
                          have HL9 := Lib.hid (hlt7.out.ext hxy)
                          have hg9 := Nat.lt_of_lt_of_le hg7w hxy.size
                          clear hf hy8 hxx
                          go_wp2_with fail
                          go_roundw
                          case rel =>
                            refine ⟨q + 1, pre2, hq2, by go_num, by omega, ?_, HO9.out, HL9.out, hnb.out, hg9, hzz⟩
                            show _ = _
                            rw [HNX.out, HFN.out, List.append_nil]; exact hp2.out
                          case measure => simp [intOf]; omega
                        · have hf : fullS [x] = [x] := by unfold fullS; simp [← HF.out]
                          have HFN := Lib.hid hf
                          have HBX2 := Lib.hid ((hy8.block _ (Array.getElem?_eq_some_iff.1 HBX.out).1).trans HBX.out)
                          have r0 := cell_of_row _ _ 0 _ _ _ HBX2.out
                          have r1 := cell_of_row _ _ 1 _ _ _ HBX2.out
                          have r2 := cell_of_row _ _ 2 _ _ _ HBX2.out
                          have r3 := cell_of_row _ _ 3 _ _ _ HBX2.out
                          have ho9 := own_laterB ho2.out (hxy.alloc (.cells (spC x).toArray 115))
                          have hzz := hz.trans (hxy.alloc (.cells (spC x).toArray 115))
                          have HRO := Lib.hid (spRow y8 x)
                          have hone := spC_one [x]
                          rw [List.flatMap_singleton] at hone
                          have HONE := Lib.hid hone
                          have HO9 := Lib.hid ho9
                          have HZZ := Lib.hid hzz
                          have hbase := hzz.size
                          have HL9 := Lib.hid (hlt7.out.ext (hxy.alloc (.cells (spC x).toArray 115)))
                          have hg9 := Nat.lt_of_lt_of_le hg7w (hxy.alloc (.cells (spC x).toArray 115)).size
                          have HBASE := Lib.hid hbase
                          clear hf hone ho9 hzz hbase hy8 hxx
                          go_wp2_with (at_builtin; refine wpList_append_whose 80 115 (.tmp 83) (.tmp 85) rfl W.heap.size _ 4 48 Tryz.underlying80 info101t rfl (by decide) rfl _ pre2.length (pre2.flatMap spC) rfl HO9.out 1 (spC x) HRO.out HONE.out (by decide) (by omega) (by unfold maxLen; omega) HBASE.out ?_; intro v7 w7 hown7 hgrow hwho; have HO10 := Lib.hid hown7; have HG := Lib.hid hgrow; have HWHO := Lib.hid hwho; clear hown7 hgrow hwho)
                          go_roundw
                          case rel =>
                            refine ⟨q + 1, pre2 ++ [x], hq2, by go_num, by rw [List.length_append, List.length_singleton]; omega, ?_, ?_, ?_, ?_, ?_, ?_⟩
                            · show _ = _
                              rw [HNX.out, HFN.out, ← List.append_assoc, ← hp2.out]
                            · show World.ownsRow _ _ _ _ _ _ _
                              rw [List.length_append, List.length_singleton, List.flatMap_append, List.flatMap_singleton]
                              exact HO10.out
                            · show SpR _ _ _
                              exact row_kept HL9.out HG.out (fun B o k c e he => by cases e; exact hnb.out he.symm)
                            · show _ ≠ _
                              rcases HWHO.out with e | e
                              · rw [e]; exact hnb.out
                              · rw [e]; intro e2; exact (Nat.ne_of_gt hg9) (Option.some.inj e2)
                            · exact Nat.lt_of_lt_of_le hg9 HG.out.size
                            · exact HZZ.out.grown_none HG.out (own_base HO9.out)
                          case measure => simp [intOf]; omega
                      · obtain rfl : q = 2 := by omega
                        have hI3 : decide (((2 : Nat) : Int) < 2) = false := decide_eq_false (by omega)
                        have hpe : pre2 = pre ++ minus1 s out := by rw [HM1.out]; exact hp2.out
                        have HPE := Lib.hid hpe
                        have hfin := hz
                        clear hpe
                        go_wp2_with fail
                        go_roundw
                        case rel => exact ⟨j + 1, pre2, hjl, by go_num, (by show _ = _; rw [HNXT.out]; exact HPE.out), ho2.out, hfin⟩
                        case measure => simp [intOf]; omega
        · obtain rfl : j = n3 := by omega
          have hI2 : decide ((j : Int) < (j : Int)) = false := decide_eq_false (by omega)
          have hpe : pre = minusL l (m.take (k + 1)) := by
            rw [HST.out]
            have h := hpre.out
            rw [List.take_of_length_le (by rw [← HN3.out]; exact Nat.le_refl _)] at h
            exact h
          have hsr := Row.of_own hown.out
          have HSR : Hid (SpR wr u7 (minusL l (m.take (k + 1)))) := by rw [← hpe]; exact hsr
          have hfin := hx.trans (hxW.trans hy)
          clear hpe hsr
          go_wp2_with fail
          go_roundw
          case rel => exact ⟨k + 1, hlt, by go_num, HSR.out, hfin⟩
          case measure => simp [intOf]; omega
    · obtain rfl : k = n := by omega
      have hI : decide ((k : Int) < (k : Int)) = false := decide_eq_false (by omega)
      have HSR : Hid (SpR wr u0 (minusL l m)) := by
        have h := hsp.out
        rw [List.take_of_length_le (by rw [← HN.out]; exact Nat.le_refl _)] at h
        exact h
      go_wp2_with fail
      go_ret
      exact ⟨_, rfl, HSR.out, hx⟩
end Go.Proofs.YtabegbelkfhbcaaGreat

namespace Go.Proofs.YtabegbelkfhbcaaGreat

section
variable {α : Type} [DecidableEq α]
/-- Equal neighbours, one kept. -/
def compE (l : List α) : List α := compL (fun a b => decide (a = b)) l
theorem compE_nil : compE ([] : List α) = [] := compL_nil _
theorem compE_one (x : α) : compE [x] = [x] := compL_one _ x
theorem compE_cons2 (x y : α) (r : List α) : compE (x :: y :: r) = if x = y then compE (x :: r) else x :: compE (y :: r) := by
  unfold compE
  rw [compL_cons2]
  by_cases h : x = y
  · rw [if_pos h, if_pos (decide_eq_true h)]
  · rw [if_neg h, if_neg (by simpa using h)]
theorem compE_snoc : ∀ (n : Nat) (m : List α), m.length = n → ∀ x y : α, compE (m ++ [x, y]) = if x = y then compE (m ++ [x]) else compE (m ++ [x]) ++ [y]
  | _, [], _, x, y => by
    rw [List.nil_append, List.nil_append, compE_cons2, compE_one, compE_one]
    by_cases h : x = y
    · rw [if_pos h, if_pos h]
    · rw [if_neg h, if_neg h]; rfl
  | _, [a], _, x, y => by
    show compE (a :: x :: [y]) = if x = y then compE (a :: x :: []) else compE (a :: x :: []) ++ [y]
    rw [compE_cons2, compE_cons2 a x []]
    by_cases hax : a = x
    · subst hax
      rw [if_pos rfl, if_pos rfl, compE_cons2, compE_one, compE_one]
      by_cases h : a = y
      · rw [if_pos h, if_pos h]
      · rw [if_neg h, if_neg h]; rfl
    · rw [if_neg hax, if_neg hax, compE_cons2, compE_one, compE_one]
      by_cases h : x = y
      · rw [if_pos h, if_pos h]
      · rw [if_neg h, if_neg h]; rfl
  | n + 1, a :: b :: m, h, x, y => by
    show compE (a :: b :: (m ++ [x, y])) = if x = y then compE (a :: b :: (m ++ [x])) else compE (a :: b :: (m ++ [x])) ++ [y]
    rw [compE_cons2, compE_cons2]
    have hlen : (a :: m).length = n := by simp at h ⊢; omega
    have hlen2 : (b :: m).length = n := by simp at h ⊢; omega
    by_cases hab : a = b
    · rw [if_pos hab, if_pos hab]
      exact compE_snoc n (a :: m) hlen x y
    · rw [if_neg hab, if_neg hab]
      have := compE_snoc n (b :: m) hlen2 x y
      rw [List.cons_append, List.cons_append] at this
      rw [this]
      by_cases h : x = y
      · rw [if_pos h, if_pos h]
      · rw [if_neg h, if_neg h]; rfl
/-- One more element read. -/
theorem compE_take {l : List α} {n : Nat} (h : n + 1 < l.length) : compE (l.take (n + 2)) = if l[n + 1] = l[n] then compE (l.take (n + 1)) else compE (l.take (n + 1)) ++ [l[n + 1]] := by
  have e1 : l.take (n + 1) = l.take n ++ [l[n]] := by rw [List.take_succ_eq_append_getElem (by omega)]
  have e2 : l.take (n + 2) = l.take n ++ [l[n], l[n + 1]] := by
    rw [List.take_succ_eq_append_getElem h, e1, List.append_assoc]; rfl
  rw [e2, e1, compE_snoc _ _ rfl]
  by_cases hh : l[n] = l[n + 1]
  · rw [if_pos hh, if_pos hh.symm]
  · rw [if_neg hh, if_neg (fun e => hh e.symm)]
theorem compE_len : ∀ (n : Nat) (l : List α), l.length ≤ n → (compE l).length ≤ l.length
  | _, [], _ => by rw [compE_nil]; exact Nat.le_refl _
  | _, [x], _ => by rw [compE_one]; exact Nat.le_refl _
  | n + 1, x :: y :: r, h => by
    rw [compE_cons2]
    split
    · have := compE_len n (x :: r) (by simp at h ⊢; omega)
      simp only [List.length_cons] at this ⊢; omega
    · have := compE_len n (y :: r) (by simp at h ⊢; omega)
      simp only [List.length_cons] at this ⊢; omega
end
end Go.Proofs.YtabegbelkfhbcaaGreat

namespace Go.Proofs.YtabegbelkfhbcaaGreat
open Go.RowKit Go.Sort

theorem own_cut_set {w : World} {base g n cap k i : Nat} {e : TypeId} {xs : List Value} (h : w.ownsRow base e k (.slice (some ⟨g, 0, none⟩) n cap) n xs) (hi : i ≤ n) (vs : List Value) (hv : i * k + vs.length ≤ n * k) :
    (w.setCells g (i * k) vs).ownsRow base e k (.slice (some ⟨g, 0, none⟩) i cap) i (xs.take (i * k)) ∧ w.grownBy (w.setCells g (i * k) vs) (some g) := by
  obtain ⟨cur, hg, hb, hn, hm, hs, hlt, hH⟩ := own_holds h
  have hl := h.1
  have h1 := setCells_putRow w g 0 vs (i * k) xs.toArray (by simpa [hl] using hv)
  rw [putRow_self id w g 0 _ hH, Nat.zero_add] at h1
  have hik : i * k ≤ n * k := Nat.mul_le_mul_right _ hi
  have hys : (setMany xs.toArray (i * k) vs).toList.length = xs.length := by rw [Array.length_toList, size_setMany, List.size_toArray]
  have e2 : putRow id w g 0 (setMany xs.toArray (i * k) vs) = grow (putRow id (Sort.ahead w 0) g 0 (setMany xs.toArray (i * k) vs).toList.toArray) #[] := by rw [grow_empty, Sort.ahead_zero, Array.toArray_toList]
  have hp := own_put (m := 0) (os := #[]) h hys
  rw [h1, e2]
  refine ⟨?_, grownBy_row _⟩
  obtain ⟨cur', hg', hb', hn', hm', hs', _, _⟩ := own_holds hp
  refine ⟨by rw [List.length_take]; omega, .inr ⟨g, cap, cur', rfl, hb', hg', by omega, hm', hs', ?_⟩⟩
  rcases hp.2 with ⟨h0, _⟩ | ⟨g2, cap2, cur2, e0, _, hg2, _, _, _, ht2⟩
  · cases h0
  · injection e0 with e1 _ e3
    injection e1 with e1
    injection e1 with e1
    subst e1; subst e3
    have ec : cur' = cur2 := by rw [hg'] at hg2; cases hg2; rfl
    subst ec
    have e5 : cur'.toList.take (i * k) = (cur'.toList.take (n * k)).take (i * k) := by rw [List.take_take, Nat.min_eq_left hik]
    rw [e5, ht2]
    apply List.ext_getElem?
    intro t
    by_cases ht : t < i * k
    · rw [List.getElem?_take_of_lt ht, List.getElem?_take_of_lt ht, Array.getElem?_toList]
      have htx : t < xs.length := by omega
      have hg3 := get_setMany vs (i * k) xs.toArray t (by simpa using htx)
      rw [if_neg (by omega)] at hg3
      rw [getElem!_pos _ t (by simpa using htx), getElem!_pos _ t (by simpa using htx)] at hg3
      rw [Array.getElem?_eq_getElem (by simpa using htx), List.getElem?_eq_getElem htx, hg3]
      simp
    · rw [List.getElem?_take_eq_none (by omega), List.getElem?_take_eq_none (by omega)]

variable {P : Program}
theorem run_clear_many (w : World) (t e ty : TypeId) (z : Value) (vs : List Value) (ht : P.underlying t = some (.slice e)) (hv : ∀ w, (zeroValue e).run P w = .ok z w) (b o n c : Nat) (hn : 0 < n)
    (hz : (Builtin.zeroCells z.cells n).toList = vs) (h1 : ∀ v ∈ vs, v.oneCell' = true)
    (hc : ∀ j, j < vs.length → (w.cell? ⟨b, o + j, none⟩).isSome = true) (hf : ∀ j, j < vs.length → w.frozen? ⟨b, o + j, none⟩ = false) :
    (Builtin.clear_ #[t] ty #[.slice (some ⟨b, o, none⟩) n c]).run P w = .ok (.tuple #[]) (w.setCells b o vs) := by
  have hst := run_storeCells_cells (P := P) b o vs 0 w (by simpa using hc) (by simpa using hf) h1
  simp only [Nat.add_zero] at hst
  obtain ⟨m, rfl⟩ : ∃ m, n = m + 1 := ⟨n - 1, by omega⟩
  simp [Builtin.clear_, run_underlying ht, hv, hz, hst]
end Go.Proofs.YtabegbelkfhbcaaGreat

namespace Go.Proofs.YtabegbelkfhbcaaGreat
open Go.RowKit Go.Sort

section
variable {α : Type} [DecidableEq α]
/-- i elements have been read, k are kept at the row's head; what has not been read stands. -/
structure CompInv (l r : List α) (k i : Nat) : Prop where
  len : r.length = l.length
  pos : 1 ≤ k
  le : k + 1 ≤ i
  hi : i ≤ l.length
  tk : r.take k = compE (l.take i)
  dr : r.drop (i - 1) = l.drop (i - 1)
theorem CompInv.start {l : List α} {m : Nat} (h : m + 1 < l.length) (hc : compE (l.take (m + 1)) = l.take (m + 1)) (e : l[m + 1] = l[m]) : CompInv l l (m + 1) (m + 2) := by
  refine ⟨rfl, by omega, by omega, by omega, ?_, rfl⟩
  rw [compE_take h, if_pos e, hc]
theorem CompInv.at {l r : List α} {k i : Nat} (h : CompInv l r k i) (hi : i < l.length) : ∃ (h1 : i < r.length) (h2 : i - 1 < r.length), r[i] = l[i] ∧ r[i - 1] = l[i - 1]'(by omega) := by
  have hp := h.pos
  have hl := h.le
  have hn := h.len
  refine ⟨by omega, by omega, ?_, ?_⟩
  · have := congrArg (fun x => x[1]?) h.dr
    simp only [List.getElem?_drop] at this
    have e : i - 1 + 1 = i := by omega
    rw [e, List.getElem?_eq_getElem (by omega), List.getElem?_eq_getElem hi] at this
    exact Option.some.inj this
  · have := congrArg (fun x => x[0]?) h.dr
    simp only [List.getElem?_drop, Nat.add_zero] at this
    rw [List.getElem?_eq_getElem (by omega), List.getElem?_eq_getElem (by omega)] at this
    exact Option.some.inj this
theorem CompInv.drop {l r : List α} {k i : Nat} (h : CompInv l r k i) : r.drop i = l.drop i := by
  have := congrArg (fun x => x.drop 1) h.dr
  have hl := h.le
  have hp := h.pos
  simp only [List.drop_drop] at this
  have e : i - 1 + 1 = i := by omega
  rw [e] at this
  exact this
theorem comp_read {l : List α} {i : Nat} (h1 : 1 ≤ i) (hi : i < l.length) : compE (l.take (i + 1)) = if l[i] = l[i - 1] then compE (l.take i) else compE (l.take i) ++ [l[i]] := by
  obtain ⟨m, rfl⟩ : ∃ m, i = m + 1 := ⟨i - 1, by omega⟩
  exact compE_take hi
theorem CompInv.same {l r : List α} {k i : Nat} (h : CompInv l r k i) (hi : i < l.length) (e : l[i] = l[i - 1]) : CompInv l r k (i + 1) := by
  have hp := h.pos
  have hl := h.le
  refine ⟨h.len, hp, by omega, hi, ?_, ?_⟩
  · rw [comp_read (by omega) hi, if_pos e]; exact h.tk
  · exact h.drop
theorem CompInv.next {l r : List α} {k i : Nat} (h : CompInv l r k i) (hi : i < l.length) (e : l[i] ≠ l[i - 1]) : CompInv l (r.set k l[i]) (k + 1) (i + 1) := by
  have hp := h.pos
  have hl := h.le
  have hn := h.len
  refine ⟨by rw [List.length_set]; exact hn, by omega, by omega, hi, ?_, ?_⟩
  · rw [comp_read (by omega) hi, if_neg e, ← h.tk]
    have hk : k < r.length := by omega
    rw [List.take_succ_eq_append_getElem (by rw [List.length_set]; exact hk), List.getElem_set_self, List.take_set_of_le (Nat.le_refl k)]
  · show (r.set k l[i]).drop i = l.drop i
    rw [List.drop_set_of_lt (by omega)]
    exact h.drop
theorem CompInv.done {l r : List α} {k : Nat} (h : CompInv l r k l.length) : r.take k = compE l ∧ (compE l).length = k := by
  have := h.tk
  rw [List.take_length] at this
  refine ⟨this, ?_⟩
  rw [← this, List.length_take]
  have := h.le; have := h.len
  omega
end
theorem own_there {w : World} {base g n cap k : Nat} {e : TypeId} {xs : List Value} (h : w.ownsRow base e k (.slice (some ⟨g, 0, none⟩) n cap) n xs) (i m : Nat) (hi : i * k + m ≤ n * k) : w.there g (i * k) m := by
  obtain ⟨cur, hg, hb, hn, hm, hs, hlt, hH⟩ := own_holds h
  have hl := h.1
  intro j hj
  have := hH (i * k + j) (by simp [hl]; omega)
  rw [Nat.zero_add] at this
  exact ⟨by rw [this.1]; rfl, this.2⟩
theorem zero_one {z : Array Value} {n : Nat} (h : ∀ v ∈ z.toList, v.oneCell' = true) : ∀ v ∈ (Builtin.zeroCells z n).toList, v.oneCell' = true := by
  intro v hv
  unfold Builtin.zeroCells at hv
  rw [Array.toList_map, List.mem_map] at hv
  obtain ⟨i, hi, rfl⟩ := hv
  rcases Nat.eq_zero_or_pos z.size with h0 | h0
  · simp [h0] at hi
  · have hm : i % z.size < z.size := Nat.mod_lt _ h0
    rw [getElem!_pos z _ hm]
    exact h _ (by simp)
theorem zero_len (z : Array Value) (n : Nat) : (Builtin.zeroCells z n).toList.length = n * z.size := by rw [Array.length_toList, size_zeroCells]
variable {P : Program}
/-- 'clear(s[i:])' over a row of the call's own. -/
theorem run_clear_tail {w : World} {base g n cap k : Nat} {e : TypeId} {xs : List Value} (h : w.ownsRow base e k (.slice (some ⟨g, 0, none⟩) n cap) n xs) (t : TypeId) (z : Value) (hz : z.cells.size = k) (hz1 : ∀ v ∈ z.cells.toList, v.oneCell' = true)
    (ht : P.underlying t = some (.slice e)) (hv : ∀ w, (zeroValue e).run P w = .ok z w) (i c : Nat) (hi : i < n) (ty : TypeId) :
    (Builtin.clear_ #[t] ty #[.slice (some ⟨g, i * k, none⟩) (n - i) c]).run P w = .ok (.tuple #[]) (w.setCells g (i * k) (Builtin.zeroCells z.cells (n - i)).toList) := by
  have hlen : (Builtin.zeroCells z.cells (n - i)).toList.length = (n - i) * k := by rw [zero_len, hz]
  have hth := own_there h i ((n - i) * k) (by rw [← Nat.add_mul]; exact Nat.mul_le_mul_right _ (by omega))
  exact run_clear_many w t e ty z _ ht hv g (i * k) (n - i) c (by omega) rfl (zero_one hz1) (fun j hj => (hth j (by rw [← hlen]; exact hj)).1) (fun j hj => (hth j (by rw [← hlen]; exact hj)).2)
theorem own_clear_tail {w : World} {base g n cap k i : Nat} {e : TypeId} {xs : List Value} (h : w.ownsRow base e k (.slice (some ⟨g, 0, none⟩) n cap) n xs) (hi : i ≤ n) (z : Value) (hz : z.cells.size = k) :
    (w.setCells g (i * k) (Builtin.zeroCells z.cells (n - i)).toList).ownsRow base e k (.slice (some ⟨g, 0, none⟩) i cap) i (xs.take (i * k)) ∧ w.grownBy (w.setCells g (i * k) (Builtin.zeroCells z.cells (n - i)).toList) (some g) := by
  refine own_cut_set h hi _ ?_
  rw [zero_len, hz, ← Nat.add_mul]
  exact Nat.mul_le_mul_right _ (by omega)
end Go.Proofs.YtabegbelkfhbcaaGreat

namespace Go.Proofs.YtabegbelkfhbcaaGreat
open Go.RowKit Go.Sort

section
variable {α : Type} (p : α → Bool)
/-- i elements have been looked at, k are kept at the row's head; what has not been looked at stands. -/
structure DelInv (l r : List α) (k i : Nat) : Prop where
  len : r.length = l.length
  le : k + 1 ≤ i
  hi : i ≤ l.length
  tk : r.take k = (l.take i).filter fun x => !p x
  dr : r.drop i = l.drop i
theorem filter_take {l : List α} {i : Nat} (hi : i < l.length) : (l.take (i + 1)).filter (fun x => !p x) = if p l[i] then (l.take i).filter (fun x => !p x) else (l.take i).filter (fun x => !p x) ++ [l[i]] := by
  rw [List.take_succ_eq_append_getElem hi, List.filter_append]
  cases h : p l[i] <;> simp [h]
theorem DelInv.start {l : List α} {k : Nat} (h : k < l.length) (hc : ∀ x ∈ l.take k, p x = false) (e : p l[k] = true) : DelInv p l l k (k + 1) := by
  refine ⟨rfl, Nat.le_refl _, h, ?_, rfl⟩
  rw [filter_take p h, if_pos e]
  exact (List.filter_eq_self.2 fun x hx => by rw [hc x hx]; rfl).symm
variable {p}
theorem DelInv.at {l r : List α} {k i : Nat} (h : DelInv p l r k i) (hi : i < l.length) : ∃ h1 : i < r.length, r[i] = l[i] := by
  have hn := h.len
  refine ⟨by omega, ?_⟩
  have := congrArg (fun x => x[0]?) h.dr
  simp only [List.getElem?_drop, Nat.add_zero] at this
  rw [List.getElem?_eq_getElem (by omega), List.getElem?_eq_getElem (by omega)] at this
  exact Option.some.inj this
theorem DelInv.drop {l r : List α} {k i : Nat} (h : DelInv p l r k i) : r.drop (i + 1) = l.drop (i + 1) := by
  have := congrArg (fun x => x.drop 1) h.dr
  simp only [List.drop_drop] at this
  exact this
theorem DelInv.skip {l r : List α} {k i : Nat} (h : DelInv p l r k i) (hi : i < l.length) (e : p l[i] = true) : DelInv p l r k (i + 1) := by
  have hl := h.le
  refine ⟨h.len, by omega, hi, ?_, h.drop⟩
  rw [filter_take p hi, if_pos e]; exact h.tk
theorem DelInv.keep {l r : List α} {k i : Nat} (h : DelInv p l r k i) (hi : i < l.length) (e : p l[i] = false) : DelInv p l (r.set k l[i]) (k + 1) (i + 1) := by
  have hl := h.le
  have hn := h.len
  refine ⟨by rw [List.length_set]; exact hn, by omega, hi, ?_, ?_⟩
  · rw [filter_take p hi, if_neg (by rw [e]; decide), ← h.tk]
    have hk : k < r.length := by omega
    rw [List.take_succ_eq_append_getElem (by rw [List.length_set]; exact hk), List.getElem_set_self, List.take_set_of_le (Nat.le_refl k)]
  · rw [List.drop_set_of_lt (by omega)]
    exact h.drop
theorem DelInv.done {l r : List α} {k : Nat} (h : DelInv p l r k l.length) : r.take k = l.filter (fun x => !p x) ∧ (l.filter fun x => !p x).length = k := by
  have := h.tk
  rw [List.take_length] at this
  refine ⟨this, ?_⟩
  rw [← this, List.length_take]
  have := h.le; have := h.len; have := h.hi
  omega
theorem idx_start {l : List α} {i : Nat} (h : l.findIdx? p = some i) : ∃ hi : i < l.length, p l[i] = true ∧ ∀ x ∈ l.take i, p x = false := by
  obtain ⟨hi, h1, h2⟩ := List.findIdx?_eq_some_iff_getElem.1 h
  refine ⟨hi, h1, fun x hx => ?_⟩
  obtain ⟨j, hj, rfl⟩ := List.getElem_of_mem hx
  have hj2 : j < i := by simp at hj; omega
  rw [List.getElem_take]
  simpa using h2 j hj2
theorem del_none {l : List α} (h : l.findIdx? p = none) : l.filter (fun x => !p x) = l := by
  rw [List.filter_eq_self]
  intro x hx
  have := List.findIdx?_eq_none_iff.1 h x hx
  simpa using this
end
end Go.Proofs.YtabegbelkfhbcaaGreat

namespace Go.Proofs.YtabegbelkfhbcaaGreat

section
variable {α β : Type} [DecidableEq β] (f : α → β)
/-- Equal neighbours, one kept. -/
def compF (l : List α) : List α := compL (fun a b => decide (f a = f b)) l
variable {f}
theorem compF_nil : compF f ([] : List α) = [] := compL_nil _
theorem compF_one (x : α) : compF f [x] = [x] := compL_one _ x
theorem compF_cons2 (x y : α) (r : List α) : compF f (x :: y :: r) = if f x = f y then compF f (x :: r) else x :: compF f (y :: r) := by
  unfold compF
  rw [compL_cons2]
  by_cases h : f x = f y
  · rw [if_pos h, if_pos (decide_eq_true h)]
  · rw [if_neg h, if_neg (by simpa using h)]
theorem compF_snoc : ∀ (n : Nat) (m : List α), m.length = n → ∀ x y : α, compF f (m ++ [x, y]) = if f x = f y then compF f (m ++ [x]) else compF f (m ++ [x]) ++ [y]
  | _, [], _, x, y => by
    rw [List.nil_append, List.nil_append, compF_cons2, compF_one, compF_one]
    by_cases h : f x = f y
    · rw [if_pos h, if_pos h]
    · rw [if_neg h, if_neg h]; rfl
  | _, [a], _, x, y => by
    show compF f (a :: x :: [y]) = if f x = f y then compF f (a :: x :: []) else compF f (a :: x :: []) ++ [y]
    rw [compF_cons2, compF_cons2 a x []]
    by_cases hax : f a = f x
    · rw [if_pos hax, if_pos hax, compF_cons2, compF_one, compF_one, hax]
      by_cases h : f x = f y
      · rw [if_pos h, if_pos h]
      · rw [if_neg h, if_neg h]; rfl
    · rw [if_neg hax, if_neg hax, compF_cons2, compF_one, compF_one]
      by_cases h : f x = f y
      · rw [if_pos h, if_pos h]
      · rw [if_neg h, if_neg h]; rfl
  | n + 1, a :: b :: m, h, x, y => by
    show compF f (a :: b :: (m ++ [x, y])) = if f x = f y then compF f (a :: b :: (m ++ [x])) else compF f (a :: b :: (m ++ [x])) ++ [y]
    rw [compF_cons2, compF_cons2]
    have hlen : (a :: m).length = n := by simp at h ⊢; omega
    have hlen2 : (b :: m).length = n := by simp at h ⊢; omega
    by_cases hab : f a = f b
    · rw [if_pos hab, if_pos hab]
      exact compF_snoc n (a :: m) hlen x y
    · rw [if_neg hab, if_neg hab]
      have := compF_snoc n (b :: m) hlen2 x y
      rw [List.cons_append, List.cons_append] at this
      rw [this]
      by_cases h : f x = f y
      · rw [if_pos h, if_pos h]
      · rw [if_neg h, if_neg h]; rfl
/-- One more element read. -/
theorem compF_take {l : List α} {n : Nat} (h : n + 1 < l.length) : compF f (l.take (n + 2)) = if f l[n + 1] = f l[n] then compF f (l.take (n + 1)) else compF f (l.take (n + 1)) ++ [l[n + 1]] := by
  have e1 : l.take (n + 1) = l.take n ++ [l[n]] := by rw [List.take_succ_eq_append_getElem (by omega)]
  have e2 : l.take (n + 2) = l.take n ++ [l[n], l[n + 1]] := by
    rw [List.take_succ_eq_append_getElem h, e1, List.append_assoc]; rfl
  rw [e2, e1, compF_snoc _ _ rfl]
  by_cases hh : f l[n] = f l[n + 1]
  · rw [if_pos hh, if_pos hh.symm]
  · rw [if_neg hh, if_neg (fun e => hh e.symm)]
theorem compF_len : ∀ (n : Nat) (l : List α), l.length ≤ n → (compF f l).length ≤ l.length
  | _, [], _ => by rw [compF_nil]; exact Nat.le_refl _
  | _, [x], _ => by rw [compF_one]; exact Nat.le_refl _
  | n + 1, x :: y :: r, h => by
    rw [compF_cons2]
    split
    · have := compF_len n (x :: r) (by simp at h ⊢; omega)
      simp only [List.length_cons] at this ⊢; omega
    · have := compF_len n (y :: r) (by simp at h ⊢; omega)
      simp only [List.length_cons] at this ⊢; omega
variable (f) in
/-- i elements have been read, k are kept at the row's head; what has not been read stands. -/
structure CompInvF (l r : List α) (k i : Nat) : Prop where
  len : r.length = l.length
  pos : 1 ≤ k
  le : k + 1 ≤ i
  hi : i ≤ l.length
  tk : r.take k = compF f (l.take i)
  dr : r.drop (i - 1) = l.drop (i - 1)
theorem CompInvF.start {l : List α} {m : Nat} (h : m + 1 < l.length) (hc : compF f (l.take (m + 1)) = l.take (m + 1)) (e : f l[m + 1] = f l[m]) : CompInvF f l l (m + 1) (m + 2) := by
  refine ⟨rfl, by omega, by omega, by omega, ?_, rfl⟩
  rw [compF_take h, if_pos e, hc]
theorem CompInvF.at {l r : List α} {k i : Nat} (h : CompInvF f l r k i) (hi : i < l.length) : ∃ (h1 : i < r.length) (h2 : i - 1 < r.length), r[i] = l[i] ∧ r[i - 1] = l[i - 1]'(by omega) := by
  have hp := h.pos
  have hl := h.le
  have hn := h.len
  refine ⟨by omega, by omega, ?_, ?_⟩
  · have := congrArg (fun x => x[1]?) h.dr
    simp only [List.getElem?_drop] at this
    have e : i - 1 + 1 = i := by omega
    rw [e, List.getElem?_eq_getElem (by omega), List.getElem?_eq_getElem hi] at this
    exact Option.some.inj this
  · have := congrArg (fun x => x[0]?) h.dr
    simp only [List.getElem?_drop, Nat.add_zero] at this
    rw [List.getElem?_eq_getElem (by omega), List.getElem?_eq_getElem (by omega)] at this
    exact Option.some.inj this
theorem CompInvF.drop {l r : List α} {k i : Nat} (h : CompInvF f l r k i) : r.drop i = l.drop i := by
  have := congrArg (fun x => x.drop 1) h.dr
  have hl := h.le
  have hp := h.pos
  simp only [List.drop_drop] at this
  have e : i - 1 + 1 = i := by omega
  rw [e] at this
  exact this
theorem compF_read {l : List α} {i : Nat} (h1 : 1 ≤ i) (hi : i < l.length) : compF f (l.take (i + 1)) = if f l[i] = f l[i - 1] then compF f (l.take i) else compF f (l.take i) ++ [l[i]] := by
  obtain ⟨m, rfl⟩ : ∃ m, i = m + 1 := ⟨i - 1, by omega⟩
  exact compF_take hi
theorem CompInvF.same {l r : List α} {k i : Nat} (h : CompInvF f l r k i) (hi : i < l.length) (e : f l[i] = f l[i - 1]) : CompInvF f l r k (i + 1) := by
  have hp := h.pos
  have hl := h.le
  refine ⟨h.len, hp, by omega, hi, ?_, ?_⟩
  · rw [compF_read (by omega) hi, if_pos e]; exact h.tk
  · exact h.drop
theorem CompInvF.next {l r : List α} {k i : Nat} (h : CompInvF f l r k i) (hi : i < l.length) (e : f l[i] ≠ f l[i - 1]) : CompInvF f l (r.set k l[i]) (k + 1) (i + 1) := by
  have hp := h.pos
  have hl := h.le
  have hn := h.len
  refine ⟨by rw [List.length_set]; exact hn, by omega, by omega, hi, ?_, ?_⟩
  · rw [compF_read (by omega) hi, if_neg e, ← h.tk]
    have hk : k < r.length := by omega
    rw [List.take_succ_eq_append_getElem (by rw [List.length_set]; exact hk), List.getElem_set_self, List.take_set_of_le (Nat.le_refl k)]
  · show (r.set k l[i]).drop i = l.drop i
    rw [List.drop_set_of_lt (by omega)]
    exact h.drop
theorem CompInvF.done {l r : List α} {k : Nat} (h : CompInvF f l r k l.length) : r.take k = compF f l ∧ (compF f l).length = k := by
  have := h.tk
  rw [List.take_length] at this
  refine ⟨this, ?_⟩
  rw [← this, List.length_take]
  have := h.le; have := h.len
  omega
end
end Go.Proofs.YtabegbelkfhbcaaGreat

namespace Go.Proofs.YtabegbelkfhbcaaGreat
open Go.RowKit Go.Sort

theorem size101 : (Tryz.prog.info? 115).map (·.size) = some 4 := by kernel_rfl
theorem zero101 : ∀ w, (zeroValue 115).run Tryz.prog w = .ok (.agg #[.string ⟨#[]⟩, .bool false, .string ⟨#[]⟩, .bool false]) w := fun _ => by kernel_rfl
theorem grown_refl (w : World) (row : Option Nat) : w.grownBy w row := ⟨rfl, rfl, rfl, Nat.le_refl _, fun _ _ _ => rfl⟩
theorem sp_at {W : World} {g n cap : Nat} {l : List Sp} (h : Row W 4 (.slice (some ⟨g, 0, none⟩) n cap) n (l.flatMap spC)) {k : Nat} (hk : k < l.length) (hn : k < n) :
    W.cell? ⟨g, k * 4, none⟩ = some (.string (strOf l[k].lo.a)) ∧ W.cell? ⟨g, k * 4 + 1, none⟩ = some (.bool l[k].lo.e) ∧ W.cell? ⟨g, k * 4 + 2, none⟩ = some (.string (strOf l[k].hi.a)) ∧ W.cell? ⟨g, k * 4 + 3, none⟩ = some (.bool l[k].hi.e) := by
  have gg := fun j hj => flat_get spC 4 spC_len l k hk j hj
  have q := fun j u hj (e : (spC l[k])[j]? = some u) => Row.cellAt h ((gg j hj).trans e) (by omega)
  simp only [Nat.zero_add] at q
  exact ⟨q 0 _ (by decide) rfl, q 1 _ (by decide) rfl, q 2 _ (by decide) rfl, q 3 _ (by decide) rfl⟩

set_option maxRecDepth 100000 in
set_option maxHeartbeats 8000000 in
theorem deleteSp_any (w : World) (base : Nat) (v : Value) (l : List Sp) (ho : w.ownsRow base 115 4 v l.length (l.flatMap spC)) (hl : l.length ≤ 1000000) (G : Nat) (cb : Array Value) (p : Sp → Bool)
    (eg : ∀ args w, (callFunc G args).run Tryz.prog w = .ok (.enter G args) w)
    (hc : ∀ (W : World) (x : Sp), w.grownBy W v.ownBlock → x ∈ l → Calls Tryz.prog G (#[.agg #[.string (strOf x.lo.a), .bool x.lo.e, .string (strOf x.hi.a), .bool x.hi.e]] ++ cb) W fun e W' => e = .returned (.bool (p x)) ∧ Ext W W') :
    Calls Tryz.prog 151 #[v, .func (.func G) #[] cb] w fun e w' => ∃ v', e = .returned v' ∧ w'.ownsRow base 115 4 v' (l.filter fun x => !p x).length ((l.filter fun x => !p x).flatMap spC) ∧ w.grownBy w' v.ownBlock := by
  have hidx := idxSp_any w v l (Row.of_own ho) G cb p eg (fun W x hx hm => hc W x (grown_ext (grown_refl w _) hx) hm)
  obtain ⟨ix, hix⟩ : ∃ ix, ix = idxP p l := ⟨_, rfl⟩
  rw [← hix] at hidx
  cases hf : l.findIdx? p with
  | none =>
    have hix1 : ix = -1 := by rw [hix]; unfold idxP; rw [hf]
    subst hix1
    have hres := del_none hf
    have HR := Lib.hid hres
    have HO := Lib.hid ho
    have HI := Lib.hid hidx
    obtain ⟨a, cap, rfl, hc2, hm⟩ := Row.shape (Row.of_own ho)
    clear hix hres ho hidx hc hf eg
    generalize hnn : l.length = n at *
    have HNN := Lib.hid hnn
    clear hnn
    go_enter Tryz.func151, Tryz.ntmps151
    go_wp2_with (go_at_call 159; refine HI.out.mono ?_; rintro e w1 ⟨rfl, hx1⟩)
    go_ret
    refine ⟨_, rfl, ?_, grown_ext (grown_refl w _) hx1⟩
    rw [HR.out, HNN.out]
    exact own_ext HO.out hx1
  | some i =>
    obtain ⟨hi, hpi, hpre⟩ := idx_start hf
    have hix1 : ix = i := by rw [hix]; unfold idxP; rw [hf]
    subst hix1
    have hst := DelInv.start p hi hpre hpi
    rcases ho.2 with ⟨_, e0⟩ | ⟨g, cap, cur, rfl, hb, hg, hn, hm, hs, ht⟩
    · omega
    clear cur hg hs ht hb
    unfold maxLen at hm
    have hne : ((i : Int) == -1) = false := beq_eq_false_iff_ne.2 (by omega)
    have HO := Lib.hid ho
    have HI := Lib.hid hidx
    have HST := Lib.hid hst
    have HC := Lib.hid hc
    clear hidx hst hc hix hf hpre hpi ho
    generalize hN : l.length = n at *
    have HN := Lib.hid hN
    clear hN
    go_enter Tryz.func151, Tryz.ntmps151
    go_wp2_with (go_at_call 159; refine HI.out.mono ?_; rintro e w1 ⟨rfl, hx1⟩)
    go_loopw [5, 6] (fun ii jj wr => ∃ (k j : Nat) (r : List Sp), ii = .int .i64 k ∧ jj = .int .i64 j ∧ k + 1 ≤ j ∧ j ≤ n ∧ Hid (DelInv p l r k j) ∧ Hid (wr.ownsRow base 115 4 (.slice (some ⟨g, 0, none⟩) n cap) n (r.flatMap spC)) ∧ Hid (w.grownBy wr (some g))) (fun _ jj _ => n - (intOf jj).toNat)
    case atStart => exact ⟨i, i + 1, l, rfl, by go_num, Nat.le_refl _, by omega, HST, own_ext HO.out hx1, grown_ext (grown_refl w _) hx1⟩
    case round =>
      obtain ⟨k, j, r, rfl, rfl, hkj, hj, hinv, hown, hgr⟩ := hrel
      by_cases hlt : j < n
      · have hI : decide ((j : Int) < (n : Int)) = true := decide_eq_true (by omega)
        have hjl : j < l.length := by rw [HN.out]; exact hlt
        obtain ⟨r1, er⟩ := hinv.out.at hjl
        have hrl : r.length = n := by rw [hinv.out.len, HN.out]
        obtain ⟨f0, f1, f2, f3⟩ := sp_at (Row.of_own hown.out) r1 hlt
        rw [er] at f0 f1 f2 f3
        have hmem : l[j] ∈ l := List.getElem_mem hjl
        have hsk := fun h => hinv.out.skip hjl h
        have hke := fun h => hinv.out.keep hjl h
        have HSK := Lib.hid hsk
        have HKE := Lib.hid hke
        clear hsk hke er r1 hinv
        generalize l[j] = x at *
        have hcall := HC.out (wr.alloc (.cells #[.string (strOf x.lo.a), .bool x.lo.e, .string (strOf x.hi.a), .bool x.hi.e] 115)) x (grown_ext hgr.out ((Ext.refl wr).alloc _)) hmem
        obtain ⟨hxa, hX⟩ := boxes1 wr (.cells #[.string (strOf x.lo.a), .bool x.lo.e, .string (strOf x.hi.a), .bool x.hi.e] 115)
        have x0 := cell_of_row _ _ 0 _ _ _ hX
        have x1 := cell_of_row _ _ 1 _ _ _ hX
        have x2 := cell_of_row _ _ 2 _ _ _ hX
        have x3 := cell_of_row _ _ 3 _ _ _ hX
        have hown1 := Lib.hid (own_ext hown.out hxa)
        have hgr1 := Lib.hid (grown_ext hgr.out hxa)
        have HCALL := Lib.hid hcall
        clear hcall hX hmem
        cases hE : p x with
        | true =>
          have HE := Lib.hid hE
          have hinv2 := Lib.hid (HSK.out hE)
          clear hE HSK HKE
          go_wp2_with (go_at_fn G; refine HCALL.out.mono ?_; rw [HE.out]; rintro e w2 ⟨rfl, hx2⟩)
          go_roundw
          case rel => exact ⟨k, j + 1, r, rfl, by go_num, by omega, hlt, hinv2, own_ext hown1.out hx2, grown_ext hgr1.out hx2⟩
          case measure => simp [intOf]; omega
        | false =>
          have HE := Lib.hid hE
          have hinv2 := Lib.hid (HKE.out hE)
          clear hE HSK HKE
          have hkr : k < r.length := by omega
          have hkn : k < n := by omega
          go_upto_region 9 with (go_at_fn G; refine HCALL.out.mono ?_; rw [HE.out]; rintro e w2 ⟨rfl, hx2⟩)
          have hown2 := own_ext hown1.out hx2
          have hth := own_there hown2 k 4 (by omega)
          have hset3 := own_set spC spC_len hown2 k hkr x
          have y0 := hx2.cell x0
          have y1 := hx2.cell x1
          have y2 := hx2.cell x2
          have y3 := hx2.cell x3
          have hgr2 := Lib.hid (grown_ext hgr1.out hx2)
          obtain ⟨wz, hwz⟩ : ∃ wz, w2.setCells g (k * 4) (spC x) = wz := ⟨_, rfl⟩
          rw [hwz] at hset3
          have HWZ := Lib.hid hwz
          have HS3 := Lib.hid hset3.1
          have HG3 := Lib.hid hset3.2
          clear hwz hset3 hown2 hx2 x0 x1 x2 x3
          go_wp2_with (refine wpList_store_mid rfl 115 (.tmp 33) (.tmp 32) rfl g (k * 4) #[.string (strOf x.lo.a), .bool x.lo.e, .string (strOf x.hi.a), .bool x.hi.e] rfl rfl hth size101 (by simp [Value.oneCell']) ?_; rw [show w2.setCells g (k * 4) (#[.string (strOf x.lo.a), .bool x.lo.e, .string (strOf x.hi.a), .bool x.hi.e] : Array Value).toList = wz from HWZ.out])
          go_roundw
          case rel => exact ⟨k + 1, j + 1, r.set k x, by go_num, by go_num, by omega, hlt, hinv2, HS3.out, hgr2.out.trans HG3.out⟩
          case measure => simp [intOf]; omega
      · obtain rfl : j = n := by omega
        have hI : decide ((j : Int) < (j : Int)) = false := decide_eq_false (by omega)
        have hdone := hinv.out
        rw [← HN.out] at hdone
        obtain ⟨ht, hlen⟩ := hdone.done
        have hkn : k < j := by omega
        have hkc : ¬ cap = k := by omega
        have hkc2 : k ≤ cap := by omega
        have hcl := run_clear_tail hown.out 80 (.agg #[.string ⟨#[]⟩, .bool false, .string ⟨#[]⟩, .bool false]) rfl (by simp [Value.cells, Value.oneCell']) Tryz.underlying80 zero101 k (cap - k) hkn
        have hfin := own_clear_tail hown.out (Nat.le_of_lt hkn) (.agg #[.string ⟨#[]⟩, .bool false, .string ⟨#[]⟩, .bool false]) rfl
        have hres : Hid ((r.flatMap spC).take (k * 4) = (l.filter fun x => !p x).flatMap spC) := by show _ = _; rw [flat_take spC 4 spC_len, ht]
        have HL := Lib.hid hlen
        have HF := Lib.hid hfin
        generalize wr.setCells g (k * 4) (Builtin.zeroCells (Value.agg #[.string ⟨#[]⟩, .bool false, .string ⟨#[]⟩, .bool false]).cells (j - k)).toList = wz at *
        clear ht hlen hfin hinv hdone
        go_wp2_with fail
        go_ret
        refine ⟨_, rfl, ?_, hgr.out.trans HF.out.2⟩
        rw [HL.out, ← hres.out]
        exact HF.out.1
end Go.Proofs.YtabegbelkfhbcaaGreat

namespace Go.Proofs.YtabegbelkfhbcaaGreat
open Go.RowKit

theorem strOf_sz (l : List UInt8) : (strOf l).size = l.length := by rw [← ba_len]; rfl
theorem conv_str (w : World) (l : List UInt8) (hl : l.length ≤ maxLen) : ∃ cap W C, (convert 9 189 (.string (strOf l))).run Tryz.prog w = .ok (.slice (some ⟨w.heap.size, 0, none⟩) l.length cap) W ∧ W.heap[w.heap.size]? = some (.cells C 5 (C.size, C.size + 1)) ∧ l.length ≤ C.size ∧ l.length ≤ cap ∧ cap ≤ maxLen ∧ (∀ j (h : j < l.length), C[j]? = some (.int .u8 (l[j].toNat : Int))) ∧ Ext w W := by
  have hr := Lib.run_convert_string_bytes (P := Tryz.prog) w 9 189 5 (strOf l) Tryz.underlying9 Tryz.underlying189 Tryz.underlying5
  have hn := Lib.bytesWorld_at_new w 5 (strOf l)
  have hc : ∀ j (h : j < l.length), (Lib.bytesCells w 5 (strOf l))[j]? = some (.int .u8 (l[j].toNat : Int)) := fun j h => by
    have := Lib.bytesWorld_cell w 5 (strOf l) j (by rw [strOf_sz]; exact h)
    rw [cell_of_row _ _ _ _ _ _ hn] at this
    rw [this]
    simp [strOf, List.getD, h]
  have hge := grownCap_ge w (strOf l).size 0 5
  rw [strOf_sz] at hr hge
  refine ⟨_, _, _, hr, hn, ?_, hge, grownCap_le_maxLen _ _ _ _ hl, hc, ?_⟩
  · simp only [Lib.bytesCells, Array.size_append, Array.size_map]
    show l.length ≤ l.toArray.size + _
    simp
  · refine ⟨rfl, rfl, rfl, ?_, fun k hk => Lib.bytesWorld_at_old w 5 (strOf l) k hk⟩
    rw [Lib.bytesWorld_size]; exact Nat.le_succ _
theorem setCell_blk (w : World) (b i : Nat) (v : Value) (c : Array Value) (t : TypeId) (fr : Nat × Nat) (h : w.heap[b]? = some (.cells c t fr)) : (w.setCell ⟨b, i, none⟩ v).heap[b]? = some (.cells (c.setIfInBounds i v) t fr) := by
  unfold World.setCell
  simp [Array.getElem?_modify, h]
theorem setCell_oth (w : World) (a : Addr) (v : Value) (k : Nat) (h : k ≠ a.block) : (w.setCell a v).heap[k]? = w.heap[k]? := by
  show (w.heap.modify a.block _)[k]? = w.heap[k]?
  rw [Array.getElem?_modify, if_neg (fun e => h e.symm)]
theorem past_snoc (l : List UInt8) (c : UInt8) : pastF (l ++ [c]) = if c = 255 then pastF l else ⟨l ++ [c + 1], false⟩ := by
  unfold pastF
  rw [List.reverse_append, List.reverse_singleton, List.singleton_append, pastR, List.reverse_reverse]

set_option maxRecDepth 100000 in
set_option maxHeartbeats 4000000 in
theorem past_any (w : World) (s : List UInt8) (hs : s.length ≤ 140737488355328) : Calls Tryz.prog 150 #[.string (strOf s)] w fun e w' => e = .returned (.agg #[.string (strOf (pastF s).a), .bool (pastF s).e]) ∧ Ext w w' := by
  obtain ⟨hx0, hT⟩ := boxes1 w (.cells #[.string ⟨#[]⟩, .bool false] 113)
  obtain ⟨cap, W, C, hconv, hB, hsC, hcap, hcm, hcell, hx1⟩ := conv_str (w.alloc (.cells #[.string ⟨#[]⟩, .bool false] 113)) s (by unfold maxLen; omega)
  rw [World.size_alloc] at hconv hB
  have hT1 := Lib.hid (block_later hT hx1)
  have hxw := hx0.trans hx1
  have HB := Lib.hid hB
  have HCELL := Lib.hid hcell
  obtain ⟨N, hN⟩ : ∃ N, N = s.length := ⟨_, rfl⟩
  rw [← hN] at hs hsC hcap hconv
  have HN := Lib.hid hN
  have hCZ : C.size ≤ C.size := Nat.le_refl _
  unfold maxLen at hcm
  clear hT hB hcell hx1 hx0 hN
  go_enter Tryz.func150, Tryz.ntmps150
  go_wp2_with fail
  clear hconv
  go_loop [3] (fun t => ∃ n : Nat, n ≤ N ∧ t = .slice (some ⟨w.heap.size + 1, 0, none⟩) n cap ∧ Hid (pastF s = pastF (s.take n))) (fun t => match t with | .slice _ n _ => n | _ => 0)
  case atStart => exact ⟨N, Nat.le_refl _, rfl, by show _ = _; rw [HN.out, List.take_length]⟩
  case round =>
    obtain ⟨n, hn, rfl, hp⟩ := hrel
    by_cases h0 : n = 0
    · subst h0
      have hp0 : pastF s = endC := by rw [hp.out]; rfl
      have HP0 := Lib.hid hp0
      clear hp hp0
      go_wp2_with fail
      refine (end_any W).mono ?_
      rintro e w2 ⟨rfl, hx2⟩
      have hT2 := Lib.hid (block_later hT1.out hx2)
      go_wp2_with (refine wpList_store_whole 113 (.tmp 2) (.tmp 26) rfl rfl w.heap.size rfl #[.string ⟨#[]⟩, .bool true] rfl _ 113 hT2.out rfl info113s (by simp [Value.oneCell']) ?_)
      have hq := setRow_heap _ _ _ #[.string ⟨#[]⟩, .bool true] _ _ hT2.out
      have r0 := cell_of_row _ _ 0 _ _ _ hq
      have r1 := cell_of_row _ _ 1 _ _ _ hq
      refine bodyPost_ret (v := .agg #[.string ⟨#[]⟩, .bool true]) (by simp [results, Tryz.results150, go_sem, r0, r1]) rfl ⟨by rw [HP0.out]; rfl, (hxw.trans hx2).setRow (Nat.le_refl _) _⟩
    · obtain ⟨m, rfl⟩ : ∃ m, n = m + 1 := ⟨n - 1, by omega⟩
      have hm : m < s.length := by have := HN.out; omega
      have hcm2 : W.cell? ⟨w.heap.size + 1, m, none⟩ = some (.int .u8 (s[m].toNat : Int)) := by
        rw [cell_of_row _ _ _ _ _ _ HB.out]; exact HCELL.out m hm
      have hps : pastF s = if s[m] = 255 then pastF (s.take m) else ⟨s.take m ++ [s[m] + 1], false⟩ := by
        rw [hp.out, List.take_succ_eq_append_getElem hm, past_snoc]
      have hgt : decide (0 < ((m + 1 : Nat) : Int)) = true := decide_eq_true (by omega)
      have hgt2 : decide ((0 : Int) < (m : Int) + 1) = true := decide_eq_true (by omega)
      clear hp h0
      by_cases hc : s[m] = 255
      · rw [if_pos hc] at hps
        have HP := Lib.hid hps
        rw [hc] at hcm2
        clear hps hc
        go_wp2_with fail
        go_round
        case rel => exact ⟨m, by omega, rfl, HP.out⟩
        case measure => simp
      · rw [if_neg hc] at hps
        have hlt : s[m].toNat < 255 := by
          have h1 : s[m].toNat < 256 := s[m].toNat_lt
          have h2 : s[m].toNat ≠ 255 := fun e => hc (UInt8.toNat_inj.1 e)
          omega
        have hplus : ((s[m] + 1).toNat : Int) = (s[m].toNat : Int) + 1 := by
          rw [UInt8.toNat_add]
          have : (1 : UInt8).toNat = 1 := rfl
          rw [this]; omega
        have hd : ((s[m].toNat : Int) == 255) = false := beq_eq_false_iff_ne.2 (by omega)
        have hlt2 : (s[m].toNat : Int) < 255 := by omega
        have hge2 : (0 : Int) ≤ (s[m].toNat : Int) := by omega
        have fz : W.frozen? ⟨w.heap.size + 1, m, none⟩ = false := by simp [World.frozen?, HB.out]; omega
        have hbytes : Bytes (W.setCell ⟨w.heap.size + 1, m, none⟩ (.int .u8 ((s[m].toNat : Int) + 1))) (.slice (some ⟨w.heap.size + 1, 0, none⟩) (m + 1) cap) (s.take m ++ [s[m] + 1]) := by
          have hlen : (s.take m ++ [s[m] + 1]).length = m + 1 := by rw [List.length_append, List.length_take]; simp; omega
          unfold Bytes
          rw [hlen]
          refine ⟨by rw [List.length_map, hlen, Nat.mul_one], _, _, rfl, by omega, by unfold maxLen; exact hcm, by simp, fun p hp _ => by cases hp; rfl, fun j u hj => ⟨_, rfl, ?_⟩⟩
          simp only [Nat.zero_add]
          have hbk := setCell_blk W (w.heap.size + 1) m (.int .u8 ((s[m].toNat : Int) + 1)) _ _ _ HB.out
          rw [cell_of_row _ _ _ _ _ _ hbk]
          rw [List.getElem?_map] at hj
          rcases Nat.lt_or_ge j m with hjm | hjm
          · rw [List.getElem?_append_left (by rw [List.length_take]; omega), List.getElem?_take, if_pos hjm, List.getElem?_eq_getElem (by omega)] at hj
            rw [Array.getElem?_setIfInBounds_ne (by omega), HCELL.out j (by omega)]
            exact hj
          · have hjl : j < m + 1 := by
              rcases Nat.lt_or_ge j (m + 1) with h | h
              · exact h
              · rw [List.getElem?_eq_none (by rw [hlen]; exact h)] at hj; cases hj
            obtain rfl : j = m := by omega
            rw [Array.getElem?_setIfInBounds_self_of_lt (by omega)]
            rw [List.getElem?_append_right (by rw [List.length_take]; omega), List.length_take, Nat.min_eq_left (by omega), Nat.sub_self] at hj
            simp only [List.getElem?_cons_zero, Option.map_some, Option.some.injEq] at hj
            rw [← hj, hplus]
        have hcv := run_bytes_str (P := Tryz.prog) (W.setCell ⟨w.heap.size + 1, m, none⟩ (.int .u8 ((s[m].toNat : Int) + 1))) 189 9 5 Tryz.underlying189 Tryz.underlying5 Tryz.underlying9 hbytes
        have hT2 := Lib.hid ((setCell_oth W ⟨w.heap.size + 1, m, none⟩ (.int .u8 ((s[m].toNat : Int) + 1)) w.heap.size (by simp)).trans hT1.out)
        have hx2 := hxw.setCell (p := ⟨w.heap.size + 1, m, none⟩) (by simp) (.int .u8 ((s[m].toNat : Int) + 1))
        have HP := Lib.hid hps
        clear hps hc hplus hbytes hxw
        generalize s.take m ++ [s[m] + 1] = R at *
        generalize (s[m].toNat : Int) = c at *
        generalize hW2 : W.setCell ⟨w.heap.size + 1, m, none⟩ (.int .u8 (c + 1)) = W2 at *
        have HW2 := Lib.hid hW2
        clear hW2
        go_upto_region 7 with fail
        rw [HW2.out]
        go_wp2_with (refine wpList_store_whole 113 (.tmp 2) (.tmp 37) rfl rfl w.heap.size rfl #[.string (strOf R), .bool false] rfl _ 113 hT2.out rfl info113s (by simp [Value.oneCell']) ?_)
        have hq := setRow_heap _ _ _ #[.string (strOf R), .bool false] _ _ hT2.out
        have r0 := cell_of_row _ _ 0 _ _ _ hq
        have r1 := cell_of_row _ _ 1 _ _ _ hq
        refine bodyPost_ret (v := .agg #[.string (strOf R), .bool false]) (by simp [results, Tryz.results150, go_sem, r0, r1]) rfl ⟨by rw [HP.out], hx2.setRow (Nat.le_refl _) _⟩
end Go.Proofs.YtabegbelkfhbcaaGreat

namespace Go.Proofs.YtabegbelkfhbcaaGreat
open Go.RowKit

/-- A region as a value. -/
structure RgR (W : World) (v : Value) (r : Rg) : Prop where
  mk ::
  ex : ∃ (a1 : Option Addr) (c1 : Nat) (a2 : Option Addr) (c2 : Nat) (a3 : Option Addr) (c3 : Nat), v = .agg #[.slice a1 r.i.length c1, .slice a2 r.s.length c2, .slice a3 r.b.length c3, .bool r.odd] ∧ SpR W (.slice a1 r.i.length c1) r.i ∧ SpR W (.slice a2 r.s.length c2) r.s ∧ SpR W (.slice a3 r.b.length c3) r.b
theorem RgR.ext {W W' : World} {v : Value} {r : Rg} (h : RgR W v r) (hx : Ext W W') : RgR W' v r := by
  obtain ⟨a1, c1, a2, c2, a3, c3, e, h1, h2, h3⟩ := h.ex
  exact ⟨a1, c1, a2, c2, a3, c3, e, h1.ext hx, h2.ext hx, h3.ext hx⟩
theorem RgR.of {W : World} {h1 h2 h3 : Value} {r : Rg} (k1 : SpR W h1 r.i) (k2 : SpR W h2 r.s) (k3 : SpR W h3 r.b) : RgR W (.agg #[h1, h2, h3, .bool r.odd]) r := by
  obtain ⟨a1, c1, rfl, _, _⟩ := Row.shape k1
  obtain ⟨a2, c2, rfl, _, _⟩ := Row.shape k2
  obtain ⟨a3, c3, rfl, _, _⟩ := Row.shape k3
  exact ⟨a1, c1, a2, c2, a3, c3, rfl, k1, k2, k3⟩

set_option maxRecDepth 100000 in
set_option maxHeartbeats 4000000 in
theorem empty_any (w : World) (v : Value) (r : Rg) (h : RgR w v r) : Calls Tryz.prog 76 #[v] w fun e w' => e = .returned (.bool r.empty) ∧ Ext w w' := by
  obtain ⟨a1, c1, a2, c2, a3, c3, rfl, h1, h2, h3⟩ := h.ex
  obtain ⟨_, _, e1, hl1, hm1⟩ := Row.shape h1
  obtain ⟨_, _, e2, hl2, hm2⟩ := Row.shape h2
  obtain ⟨_, _, e3, hl3, hm3⟩ := Row.shape h3
  simp only [Value.slice.injEq, true_and] at e1 e2 e3
  obtain ⟨rfl, rfl⟩ := e1
  obtain ⟨rfl, rfl⟩ := e2
  obtain ⟨rfl, rfl⟩ := e3
  unfold maxLen at hm1 hm2 hm3
  have hx0 : Ext w (w.alloc (.cells #[.slice a1 r.i.length c1, .slice a2 r.s.length c2, .slice a3 r.b.length c3, .bool r.odd] 83)) := (Ext.refl w).alloc _
  have hB := heap_alloc_new w (.cells #[.slice a1 r.i.length c1, .slice a2 r.s.length c2, .slice a3 r.b.length c3, .bool r.odd] 83)
  have q0 := cell_of_row _ _ 0 _ _ _ hB
  have q1 := cell_of_row _ _ 1 _ _ _ hB
  have q2 := cell_of_row _ _ 2 _ _ _ hB
  have q3 := cell_of_row _ _ 3 _ _ _ hB
  have hsl : SlR (w.alloc (.cells #[.slice a1 r.i.length c1, .slice a2 r.s.length c2, .slice a3 r.b.length c3, .bool r.odd] 83)) (.slice (some ⟨w.heap.size, 0, none⟩) 3 3) [(a1, r.i.length, c1), (a2, r.s.length, c2), (a3, r.b.length, c3)] := by
    refine ⟨rfl, _, _, rfl, Nat.le_refl _, by decide, by simp, by simp, fun j u hj => ⟨_, rfl, ?_⟩⟩
    match j, hj with
    | 0, hj => cases hj; exact q0
    | 1, hj => cases hj; exact q1
    | 2, hj => cases hj; exact q2
  have hcon := hasSl_any _ _ _ hsl 118 #[] (fun x => decide (0 < x.2.1)) ent81 (fun W x hx hm => by
    refine len81_any W x.1 x.2.1 x.2.2 ?_
    simp only [List.mem_cons, List.not_mem_nil, or_false] at hm
    rcases hm with rfl | rfl | rfl <;> simp only <;> omega)
  have hres : r.empty = (!r.odd && !(([(a1, r.i.length, c1), (a2, r.s.length, c2), (a3, r.b.length, c3)] : List (Option Addr × Nat × Nat)).any fun x => decide (0 < x.2.1))) := by
    unfold Rg.empty
    simp only [List.any_cons, List.any_nil, Bool.or_false, Bool.or_assoc]
  rw [hres]
  have HC := Lib.hid hcon
  clear hcon hres hsl hB h1 h2 h3 h hl1 hl2 hl3 hm1 hm2 hm3
  generalize (([(a1, r.i.length, c1), (a2, r.s.length, c2), (a3, r.b.length, c3)] : List (Option Addr × Nat × Nat)).any fun x => decide (0 < x.2.1)) = B at *
  generalize r.odd = od at *
  generalize r.i.length = n1 at *
  generalize r.s.length = n2 at *
  generalize r.b.length = n3 at *
  cases od
  · go_enter Tryz.func76, Tryz.ntmps76
    go_wp2_with (go_at_call 117; refine HC.out.mono ?_; rintro e w' ⟨rfl, hx⟩)
    go_ret
    exact ⟨rfl, hx0.trans hx⟩
  · go_enter Tryz.func76, Tryz.ntmps76
    go_wp2_with fail
    go_ret
    exact ⟨rfl, hx0⟩
end Go.Proofs.YtabegbelkfhbcaaGreat
