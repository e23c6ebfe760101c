/- Rows of the call's own: later, kept, apart. (Of any program.)
What the rows of values and of constraints are, by the type table.
Rows of one's own: small laws of worlds that grow.
The reference's set (pneumaticref04): values in order, each once.
Splice: a delivery's ends; a splicer in memory: State, Next, Lit, Ask.
Splice: Number, Ask, the orders of Row.
Appending to a row of the call's own: whose block the answer is. (Of any program.)
Splice: items, gaps, deliveries, plainly and where they lie; slices.Clone at gaps, items, attributes.
PLAIN: rows sorted stably by a number: what stays, exchanges of two elements and of two parts, merges. -/
import Derived.Test.YtaklnpjpndkccaaGreatProg
import Derived.KernelRfl
import Derived.WalkKit
import Derived.OwnWalk
import Derived.Deep.CutBlock
import Derived.Lib.Hide
import Derived.Shelf.SlSortCmp.InsertionK
import Derived.Sort.LotA
import Derived.Test.YtaklnpjpndkccaaGreatPk1
import Derived.Test.YtaklnpjpndkccaaGreatPk2
namespace Go.Proofs.YtaklnpjpndkccaaGreat
open Go.RowKit

theorem own_ext {w w' : World} {base size n : Nat} {e : TypeId} {v : Value} {xs : List Value} (h : w.ownsRow base e size v n xs) (hx : Ext w w') : w'.ownsRow base e size v n xs := by
  refine ⟨h.1, ?_⟩
  rcases h.2 with h0 | ⟨g, cap, cur, e0, hb, hg, hn, hm, hs, ht⟩
  · exact .inl h0
  · exact .inr ⟨g, cap, cur, e0, hb, by rw [hx.block g (Array.getElem?_eq_some_iff.1 hg).1]; exact hg, hn, hm, hs, ht⟩
theorem grown_ext {w w' w2 : World} {row : Option Nat} (h : w.grownBy w' row) (hx : Ext w' w2) : w.grownBy w2 row :=
  ⟨hx.os.trans h.os, hx.tape.trans h.tape, hx.output.trans h.output, Nat.le_trans h.size hx.size, fun k hk hne => (hx.block k (Nat.lt_of_lt_of_le hk h.size)).trans (h.block k hk hne)⟩
theorem own_keep {w w' : World} {base size n : Nat} {e : TypeId} {v : Value} {xs : List Value} {row : Option Nat} (h : w.ownsRow base e size v n xs) (hg : w.grownBy w' row) (hne : ∀ k, v.ownBlock = some k → row ≠ some k) : w'.ownsRow base e size v n xs := by
  refine ⟨h.1, ?_⟩
  rcases h.2 with h0 | ⟨g, cap, cur, rfl, hb, hgg, hn, hm, hs, ht⟩
  · exact .inl h0
  · exact .inr ⟨g, cap, cur, rfl, hb, by rw [hg.block g (Array.getElem?_eq_some_iff.1 hgg).1 (fun e => hne g rfl e.symm)]; exact hgg, hn, hm, hs, ht⟩
theorem own_low {w : World} {base b2 size n : Nat} {e : TypeId} {v : Value} {xs : List Value} (h : w.ownsRow base e size v n xs) (hb : b2 ≤ base) : w.ownsRow b2 e size v n xs := by
  refine ⟨h.1, ?_⟩
  rcases h.2 with h0 | ⟨g, cap, cur, rfl, hb', hgg, hn, hm, hs, ht⟩
  · exact .inl h0
  · exact .inr ⟨g, cap, cur, rfl, Nat.le_trans hb hb', hgg, hn, hm, hs, ht⟩
/-- Rows of two types lie apart. -/
theorem own_apart {w : World} {base b2 size s2 n m : Nat} {e e2 : TypeId} {v u : Value} {xs ys : List Value} (h : w.ownsRow base e size v n xs) (k : w.ownsRow b2 e2 s2 u m ys) (he : e ≠ e2) : ∀ q, u.ownBlock = some q → v.ownBlock ≠ some q := by
  intro q hq hv
  rcases h.2 with ⟨rfl, _⟩ | ⟨g, cap, cur, rfl, _, hg, _⟩
  · simp [Value.ownBlock] at hv
  · rcases k.2 with ⟨rfl, _⟩ | ⟨g2, cap2, cur2, rfl, _, hg2, _⟩
    · simp [Value.ownBlock] at hq
    · simp only [Value.ownBlock, Option.some.injEq] at hq hv
      subst hq
      subst hv
      rw [hg] at hg2
      cases hg2
      exact he rfl
theorem own_ne {w : World} {base size n b : Nat} {e t : TypeId} {v : Value} {xs : List Value} {c : Array Value} {fr : Nat × Nat} (h : w.ownsRow base e size v n xs) (hb : w.heap[b]? = some (.cells c t fr)) (he : e ≠ t) : v.ownBlock ≠ some b := by
  intro hv
  rcases h.2 with ⟨rfl, _⟩ | ⟨g, cap, cur, rfl, _, hg, _⟩
  · simp [Value.ownBlock] at hv
  · simp only [Value.ownBlock, Option.some.injEq] at hv
    subst hv
    rw [hg] at hb
    cases hb
    exact he rfl
/-- A row of two worlds' own: what was made later lies apart from what was there. -/
theorem own_later {w w' : World} {b size n : Nat} {e : TypeId} {v : Value} {xs : List Value} (h : w.ownsRow b e size v n xs) {k : Nat} (hk : w'.heap.size ≤ b) (hl : k < w'.heap.size) : v.ownBlock ≠ some k := by
  intro hv
  rcases h.2 with ⟨rfl, _⟩ | ⟨g, cap, cur, rfl, hb, hg, _⟩
  · simp [Value.ownBlock] at hv
  · simp only [Value.ownBlock, Option.some.injEq] at hv
    omega
theorem own_none (w : World) (base : Nat) (e : TypeId) (size : Nat) : w.ownsRow base e size (.slice none 0 0) 0 [] := ⟨by simp, .inl ⟨rfl, rfl⟩⟩
theorem own_len_le {w : World} {base size n : Nat} {e : TypeId} {v : Value} {xs : List Value} (h : w.ownsRow base e size v n xs) : n ≤ maxLen := Row.len_le (Row.of_own h)
theorem own_shape {w : World} {base size n : Nat} {e : TypeId} {v : Value} {xs : List Value} (h : w.ownsRow base e size v n xs) : ∃ a cap, v = .slice a n cap ∧ n ≤ cap ∧ cap ≤ maxLen := by obtain ⟨_, a, cap, h1, h2, h3, _⟩ := Row.of_own h; exact ⟨a, cap, h1, h2, h3⟩
end Go.Proofs.YtaklnpjpndkccaaGreat

namespace Go.Proofs.YtaklnpjpndkccaaGreat
open Go.RowKit

theorem vC_one (l : List V) : ∀ u ∈ l.flatMap vC, u.oneCell' = true := by
  intro u hu
  obtain ⟨x, _, hx⟩ := List.mem_flatMap.1 hu
  simp only [vC, List.mem_cons, List.not_mem_nil, or_false] at hx
  rcases hx with rfl | rfl | rfl | rfl <;> rfl
theorem csC_one (l : List CS) (h : ∀ x ∈ l, x.h.oneCell' = true) : ∀ u ∈ l.flatMap csC, u.oneCell' = true := by
  intro u hu
  obtain ⟨x, hm, hx⟩ := List.mem_flatMap.1 hu
  simp only [csC, List.mem_cons, List.not_mem_nil, or_false] at hx
  rcases hx with rfl | rfl | rfl | rfl | rfl | rfl | rfl
  all_goals first | rfl | exact h x hm

theorem info28t : (Tryz.prog.info? 80).map (fun i => (i.zero, i.size, i.bytes)) = some (some (.agg #[.int .i64 0, .int .i64 0, .string ⟨#[]⟩, .bool false]), 4, 40) := by kernel_rfl
theorem info31t : (Tryz.prog.info? 94).map (fun i => (i.zero, i.size, i.bytes)) = some (some (.agg #[.string ⟨#[]⟩, .int .i64 0, .int .i64 0, .int .i64 0, .string ⟨#[]⟩, .bool false, .slice none 0 0]), 7, 88) := by kernel_rfl

theorem size28 : (Tryz.prog.info? 80).map (·.size) = some 4 := by kernel_rfl
theorem zero28 : ∀ w, (zeroValue 80).run Tryz.prog w = .ok (.agg #[.int .i64 0, .int .i64 0, .string ⟨#[]⟩, .bool false]) w := fun _ => by kernel_rfl
theorem zero31 : ∀ w, (zeroValue 94).run Tryz.prog w = .ok (.agg #[.string ⟨#[]⟩, .int .i64 0, .int .i64 0, .int .i64 0, .string ⟨#[]⟩, .bool false, .slice none 0 0]) w := fun _ => by kernel_rfl
theorem size31 : (Tryz.prog.info? 94).map (·.size) = some 7 := by kernel_rfl
end Go.Proofs.YtaklnpjpndkccaaGreat

namespace Go.Proofs.YtaklnpjpndkccaaGreat
open Go.RowKit

theorem own_row {w : World} {base size n : Nat} {e : TypeId} {v : Value} {xs : List Value} (h : w.ownsRow base e size v n xs) : Row w size v n xs := Row.of_own h
theorem own_drewN {w : World} {base size n : Nat} {e : TypeId} {v : Value} {xs : List Value} (q : Nat) (h : w.ownsRow base e size v n xs) : (w.drewN q).ownsRow base e size v n xs := h
theorem grown_drewN {w w' : World} {row : Option Nat} (q : Nat) (h : w.grownBy w' row) : w.grownBy (w'.drewN q) row := ⟨h.os, h.tape, h.output, h.size, h.block⟩
theorem own_some {w : World} {base size n : Nat} {e : TypeId} {v : Value} {xs : List Value} (h : w.ownsRow base e size v n xs) (hn : 0 < n) : v.ownBlock ≠ none := by
  rcases h.2 with ⟨rfl, e0⟩ | ⟨g, cap, cur, rfl, _⟩
  · omega
  · simp [Value.ownBlock]

end Go.Proofs.YtaklnpjpndkccaaGreat

namespace Go.Proofs.YtaklnpjpndkccaaGreat
open Go.RowKit

theorem sort_take {α : Type} (cf : α → α → Int) (l : List α) (k : Nat) (hk : k < l.length) : sortU cf (l.take (k + 1)) = insU cf l[k] (sortU cf (l.take k)) := by
  rw [List.take_succ_eq_append_getElem hk, sortU_snoc]
theorem vCut {ops : Array Oper} {Q : Exit → Act → World → Prop} {a : Act} {w : World} {rest : List Oper} {o : Oper}
    (x : Operand) (lo hi : Option Operand) (us : List V) (n i j : Nat)
    (ho : o.op = .slice 92 x lo hi none)
    (hw : Region.wanted o (yielded ops a.tmps) = true) (hx : Row w 4 (a.eval x) n (us.flatMap vC))
    (hlo : BoundIs a lo 0 i) (hhi : BoundIs a hi n j) (hij : i ≤ j) (hj : j ≤ n)
    (h : ∀ v, Row w 4 v (j - i) (((us.take j).drop i).flatMap vC) → wpList Tryz.prog ops Q rest (a.put o.dst v) w) : wpList Tryz.prog ops Q (o :: rest) a w := by
  refine wpList_cut 92 80 x lo hi 4 n i j _ ho Tryz.underlying92 (by kernel_rfl) hw hx hlo hhi hij hj fun v hv => h v ?_
  rw [flat_take vC 4 vC_len, flat_drop vC 4 vC_len] at hv
  exact hv
theorem own_lt {w : World} {base size n : Nat} {e : TypeId} {v : Value} {xs : List Value} (h : w.ownsRow base e size v n xs) : ∀ q, v.ownBlock = some q → q < w.heap.size := by
  intro q hq
  rcases h.2 with ⟨rfl, _⟩ | ⟨g, cap, cur, rfl, _, hg, _⟩
  · simp [Value.ownBlock] at hq
  · simp only [Value.ownBlock, Option.some.injEq] at hq
    subst hq
    exact (Array.getElem?_eq_some_iff.1 hg).1
theorem v_row (w : World) (x : V) : Row (w.alloc (.cells (vC x).toArray 80)) 4 (.slice (some ⟨w.heap.size, 0, none⟩) 1 1) 1 (vC x) :=
  Row.of_own (World.ownsRow_lit (base := w.heap.size) (e := 80) (size := 4) w (vC x).toArray 1 (Nat.le_refl _) (by decide) rfl)

set_option maxRecDepth 100000 in
set_option maxHeartbeats 16000000 in
theorem rset_any (w : World) (v : Value) (l : List V) (h : SetR w v l) (hl6 : l.length ≤ 6) :
    Calls Tryz.prog 71 #[v] w fun e w' => ∃ v', e = .returned v' ∧ w'.ownsRow w.heap.size 80 4 v' (sortU cmpV l).length ((sortU cmpV l).flatMap vC) ∧ Ext w w' := by
  obtain ⟨a, cap, rfl, hc, hm⟩ := Row.shape h
  unfold maxLen at hm
  have HS := Lib.hid h
  obtain ⟨n, hn⟩ : ∃ n, n = l.length := ⟨_, rfl⟩
  have HN := Lib.hid hn
  rw [← hn] at hc hl6 ⊢ HS
  clear hn h
  go_enter Tryz.func71, Tryz.ntmps71
  go_wp2_with fail
  go_loopw [3, 4] (fun vo i wr => ∃ k : Nat, k ≤ n ∧ i = .int .i64 k ∧ Hid (wr.ownsRow w.heap.size 80 4 vo (sortU cmpV (l.take k)).length ((sortU cmpV (l.take k)).flatMap vC)) ∧ Hid (Ext w wr)) (fun _ i _ => n - (intOf i).toNat)
  case atStart => exact ⟨0, Nat.zero_le _, rfl, own_none _ _ _ _, Ext.refl _⟩
  case round =>
    obtain ⟨k, hk, rfl, hown, hx⟩ := hrel
    obtain ⟨wo, hwo⟩ : ∃ x : World, x = wr := ⟨_, rfl⟩
    subst hwo
    by_cases hlt : k < n
    · have hI : decide ((k : Int) < (n : Int)) = true := decide_eq_true (by omega)
      have hkN : (k : Int) < (n : Int) := by omega
      have hkl : k < l.length := by have := HN.out; omega
      obtain ⟨B, o, rfl, f0, f1, f2, f3⟩ := SetR.at (SetR.ext HS.out hx.out) hkl
      have hst := sort_take cmpV l k hkl
      have HST := Lib.hid hst
      have hmk : (sortU cmpV (l.take k)).length ≤ k := by have := sortU_len (cf := cmpV) (l.take k); rw [List.length_take] at this; omega
      clear hst
      generalize sortU cmpV (l.take k) = L at *
      generalize l[k] = x at *
      obtain ⟨ao, co, hvo, hco, hmo⟩ := own_shape hown.out
      obtain ⟨m, hm'⟩ : ∃ m, m = L.length := ⟨_, rfl⟩
      have HM := Lib.hid hm'
      rw [hvo, ← hm'] at hown
      rw [hvo, ← hm']
      rw [← hm'] at hmk hco
      have hm6 : m ≤ 6 := by omega
      clear hvo hm'
      unfold maxLen at hmo
      go_upto_block 2 with fail
      go_cut [5] from 13 to 30 (fun v5 wx => ∃ j : Nat, v5 = .int .i64 j ∧ j ≤ m ∧ Hid (∀ q (hq : q < L.length), q < j → cmpV L[q] x < 0) ∧ Hid (∀ hq : j < L.length, ¬ cmpV L[j] x < 0) ∧ Hid (Ext wo wx))
      case first =>
        go_wp2_with fail
        go_loopw [5] (fun i wq => ∃ j : Nat, j ≤ m ∧ i = .int .i64 j ∧ Hid (∀ q (hq : q < L.length), q < j → cmpV L[q] x < 0) ∧ Hid (Ext wo wq)) (fun i _ => m - (intOf i).toNat)
        case atStart => exact ⟨0, Nat.zero_le _, rfl, fun q _ h => absurd h (Nat.not_lt_zero _), Ext.refl _⟩
        case round =>
          obtain ⟨j, hj, rfl, hlow, hxq⟩ := hrel
          by_cases hjm : j < m
          · have hJ : decide ((j : Int) < (m : Int)) = true := decide_eq_true (by omega)
            have hjM : (j : Int) < (m : Int) := by omega
            have hjl : j < L.length := by have := HM.out; omega
            have hso : SetR wr (.slice ao m co) L := by have h := Row.ext (Row.of_own hown.out) hxq.out; unfold SetR; rw [← HM.out]; exact h
            obtain ⟨B1, o1, rfl, g0, g1, g2, g3⟩ := SetR.at hso hjl
            have r0 := hxq.out.cell f0
            have r1 := hxq.out.cell f1
            have r2 := hxq.out.cell f2
            have r3 := hxq.out.cell f3
            have hup : cmpV L[j] x < 0 → ∀ q (hq : q < L.length), q < j + 1 → cmpV L[q] x < 0 := fun e q hq h => by
              by_cases hqj : q = j
              · subst hqj; exact e
              · exact hlow.out q hq (by omega)
            have HUP := Lib.hid hup
            obtain ⟨y, hy⟩ : ∃ y, y = L[j] := ⟨_, rfl⟩
            have HY := Lib.hid hy
            rw [← hy] at g0 g1 g2 g3 HUP
            clear hso hup hy
            have HC := Lib.hid (fun W => rcompare_any W y.k y.n x.k x.n y.s x.s y.b x.b)
            have hcv : cmpV ⟨y.k, y.n, y.s, y.b⟩ ⟨x.k, x.n, x.s, x.b⟩ = cmpV y x := rfl
            rw [hcv] at HC
            clear hcv
            by_cases hneg : cmpV y x < 0
            · have hd : decide (cmpV y x < 0) = true := decide_eq_true hneg
              go_upto_region 6 with fail
              refine wp_region_facts [Fact.eq (.int .i64 j),
                  Fact.eq (.slice (some ⟨B1, o1, none⟩) m co),
                  Fact.eq (.int .i64 m),
                  Fact.eq (.bool true),
                  Fact.eq (.bool true),
                  Fact.eq (.slice (some ⟨B1, o1, none⟩) m co),
                  Fact.eq (.int .i64 j),
                  Fact.eq (.pointer (some ⟨B1, o1 + j * 4, none⟩)),
                  Fact.eq (.agg #[.int .i64 y.k, .int .i64 y.n, .string (strOf y.s), .bool y.b]),
                  Fact.eq (.slice (some ⟨B, o, none⟩) n cap),
                  Fact.eq (.int .i64 k),
                  Fact.eq (.pointer (some ⟨B, o + k * 4, none⟩)),
                  Fact.eq (.agg #[.int .i64 x.k, .int .i64 x.n, .string (strOf x.s), .bool x.b]),
                  Fact.eq (.int .i64 (cmpV y x)),
                  Fact.eq (.bool true),
                  Fact.eq (.bool true)]
                [[], [], [(1, 14)], [(0, 13), (2, 15)], [(3, 16)], [(4, 17)], [(4, 17)], [(5, 18), (6, 19), (4, 17)], [(7, 20), (4, 17)], [(4, 17)], [(4, 17)], [(9, 22), (10, 23), (4, 17)], [(11, 24), (4, 17)], [(8, 21), (12, 25), (4, 17)], [(13, 26), (4, 17)], [(4, 17), (14, 27)]]
                [(0, 13), (1, 14), (2, 15), (3, 16), (4, 17), (5, 18), (6, 19), (7, 20), (8, 21), (9, 22), (10, 23), (11, 24), (12, 25), (13, 26), (14, 27), (15, 28)] (by kernel_rfl) (by kernel_rfl) ?_ ?_
              · refine ⟨?_, ?_, ?_, ?_, ?_, ?_, ?_, ?_, ?_, ?_, ?_, ?_, ?_, ?_, ?_, ?_, trivial⟩
                · intro w1 hx1; change wpList _ _ _ _ _ _; exact ob_move rfl rfl rfl rfl rfl
                · intro w1 hx1; change wpList _ _ _ _ _ _; exact ob_move rfl rfl rfl rfl rfl
                · intro w1 hx1; rintro _ rfl; change wpList _ _ _ _ _ _; go_wp2_with fail; exact ⟨rfl, Ext.refl _, rfl, rfl⟩
                · intro w1 hx1; rintro _ rfl; rintro _ rfl; change wpList _ _ _ _ _ _; go_wp2_with fail; exact ⟨rfl, Ext.refl _, rfl, rfl⟩
                · intro w1 hx1; rintro _ rfl; change wpList _ _ _ _ _ _; exact ob_move rfl rfl rfl rfl rfl
                · intro w1 hx1; rintro _ rfl; change wpList _ _ _ _ _ _; exact ob_move rfl rfl rfl rfl rfl
                · intro w1 hx1; rintro _ rfl; change wpList _ _ _ _ _ _; exact ob_move rfl rfl rfl rfl rfl
                · intro w1 hx1; rintro _ rfl; rintro _ rfl; rintro _ rfl; change wpList _ _ _ _ _ _; go_wp2_with fail; exact ⟨rfl, Ext.refl _, rfl, rfl⟩
                · intro w1 hx1; rintro _ rfl; rintro _ rfl; change wpList _ _ _ _ _ _; have m0 := hx1.cell g0; have m1 := hx1.cell g1; have m2 := hx1.cell g2; have m3 := hx1.cell g3; go_wp2_with fail; exact ⟨rfl, Ext.refl _, rfl, rfl⟩
                · intro w1 hx1; rintro _ rfl; change wpList _ _ _ _ _ _; exact ob_move rfl rfl rfl rfl rfl
                · intro w1 hx1; rintro _ rfl; change wpList _ _ _ _ _ _; exact ob_move rfl rfl rfl rfl rfl
                · intro w1 hx1; rintro _ rfl; rintro _ rfl; rintro _ rfl; change wpList _ _ _ _ _ _; go_wp2_with fail; exact ⟨rfl, Ext.refl _, rfl, rfl⟩
                · intro w1 hx1; rintro _ rfl; rintro _ rfl; change wpList _ _ _ _ _ _; have m0 := hx1.cell r0; have m1 := hx1.cell r1; have m2 := hx1.cell r2; have m3 := hx1.cell r3; go_wp2_with fail; exact ⟨rfl, Ext.refl _, rfl, rfl⟩
                · intro w1 hx1; rintro _ rfl; rintro _ rfl; rintro _ rfl; change wpList _ _ _ _ _ _; go_wp2_with fail; (with_reducible refine (HC.out _).mono ?_); rintro e w7 ⟨rfl, hx2⟩; go_wp2_with fail; exact ⟨rfl, hx2.1, rfl, rfl⟩
                · intro w1 hx1; rintro _ rfl; rintro _ rfl; change wpList _ _ _ _ _ _; go_wp2_with fail; exact ⟨rfl, Ext.refl _, rfl, rfl⟩
                · intro w1 hx1; rintro _ rfl; rintro _ rfl; change wpList _ _ _ _ _ _; exact ob_pick rfl rfl rfl rfl rfl rfl
              · intro w1 hx1; rintro _ rfl; rintro _ rfl; rintro _ rfl; rintro _ rfl; rintro _ rfl; rintro _ rfl; rintro _ rfl; rintro _ rfl; rintro _ rfl; rintro _ rfl; rintro _ rfl; rintro _ rfl; rintro _ rfl; rintro _ rfl; rintro _ rfl; rintro _ rfl; refine depsThen_nil ?_; dsimp only; simp only [Act.put, List.setIfInBounds_toArray, List.set_cons_zero, List.set_cons_succ]
                have HXQ := Lib.hid (hxq.out.trans hx1)
                clear g0 g1 g2 g3 r0 r1 r2 r3 hx1 hxq
                go_wp2_with fail
                go_roundw
                case rel => exact ⟨j + 1, hjm, by go_num, HUP.out hneg, HXQ.out⟩
                case measure => simp [intOf]; omega
            · have hd : decide (cmpV y x < 0) = false := decide_eq_false hneg
              go_upto_region 6 with fail
              refine wp_region_facts [Fact.eq (.int .i64 j),
                  Fact.eq (.slice (some ⟨B1, o1, none⟩) m co),
                  Fact.eq (.int .i64 m),
                  Fact.eq (.bool true),
                  Fact.eq (.bool true),
                  Fact.eq (.slice (some ⟨B1, o1, none⟩) m co),
                  Fact.eq (.int .i64 j),
                  Fact.eq (.pointer (some ⟨B1, o1 + j * 4, none⟩)),
                  Fact.eq (.agg #[.int .i64 y.k, .int .i64 y.n, .string (strOf y.s), .bool y.b]),
                  Fact.eq (.slice (some ⟨B, o, none⟩) n cap),
                  Fact.eq (.int .i64 k),
                  Fact.eq (.pointer (some ⟨B, o + k * 4, none⟩)),
                  Fact.eq (.agg #[.int .i64 x.k, .int .i64 x.n, .string (strOf x.s), .bool x.b]),
                  Fact.eq (.int .i64 (cmpV y x)),
                  Fact.eq (.bool false),
                  Fact.eq (.bool false)]
                [[], [], [(1, 14)], [(0, 13), (2, 15)], [(3, 16)], [(4, 17)], [(4, 17)], [(5, 18), (6, 19), (4, 17)], [(7, 20), (4, 17)], [(4, 17)], [(4, 17)], [(9, 22), (10, 23), (4, 17)], [(11, 24), (4, 17)], [(8, 21), (12, 25), (4, 17)], [(13, 26), (4, 17)], [(4, 17), (14, 27)]]
                [(0, 13), (1, 14), (2, 15), (3, 16), (4, 17), (5, 18), (6, 19), (7, 20), (8, 21), (9, 22), (10, 23), (11, 24), (12, 25), (13, 26), (14, 27), (15, 28)] (by kernel_rfl) (by kernel_rfl) ?_ ?_
              · refine ⟨?_, ?_, ?_, ?_, ?_, ?_, ?_, ?_, ?_, ?_, ?_, ?_, ?_, ?_, ?_, ?_, trivial⟩
                · intro w1 hx1; change wpList _ _ _ _ _ _; exact ob_move rfl rfl rfl rfl rfl
                · intro w1 hx1; change wpList _ _ _ _ _ _; exact ob_move rfl rfl rfl rfl rfl
                · intro w1 hx1; rintro _ rfl; change wpList _ _ _ _ _ _; go_wp2_with fail; exact ⟨rfl, Ext.refl _, rfl, rfl⟩
                · intro w1 hx1; rintro _ rfl; rintro _ rfl; change wpList _ _ _ _ _ _; go_wp2_with fail; exact ⟨rfl, Ext.refl _, rfl, rfl⟩
                · intro w1 hx1; rintro _ rfl; change wpList _ _ _ _ _ _; exact ob_move rfl rfl rfl rfl rfl
                · intro w1 hx1; rintro _ rfl; change wpList _ _ _ _ _ _; exact ob_move rfl rfl rfl rfl rfl
                · intro w1 hx1; rintro _ rfl; change wpList _ _ _ _ _ _; exact ob_move rfl rfl rfl rfl rfl
                · intro w1 hx1; rintro _ rfl; rintro _ rfl; rintro _ rfl; change wpList _ _ _ _ _ _; go_wp2_with fail; exact ⟨rfl, Ext.refl _, rfl, rfl⟩
                · intro w1 hx1; rintro _ rfl; rintro _ rfl; change wpList _ _ _ _ _ _; have m0 := hx1.cell g0; have m1 := hx1.cell g1; have m2 := hx1.cell g2; have m3 := hx1.cell g3; go_wp2_with fail; exact ⟨rfl, Ext.refl _, rfl, rfl⟩
                · intro w1 hx1; rintro _ rfl; change wpList _ _ _ _ _ _; exact ob_move rfl rfl rfl rfl rfl
                · intro w1 hx1; rintro _ rfl; change wpList _ _ _ _ _ _; exact ob_move rfl rfl rfl rfl rfl
                · intro w1 hx1; rintro _ rfl; rintro _ rfl; rintro _ rfl; change wpList _ _ _ _ _ _; go_wp2_with fail; exact ⟨rfl, Ext.refl _, rfl, rfl⟩
                · intro w1 hx1; rintro _ rfl; rintro _ rfl; change wpList _ _ _ _ _ _; have m0 := hx1.cell r0; have m1 := hx1.cell r1; have m2 := hx1.cell r2; have m3 := hx1.cell r3; go_wp2_with fail; exact ⟨rfl, Ext.refl _, rfl, rfl⟩
                · intro w1 hx1; rintro _ rfl; rintro _ rfl; rintro _ rfl; change wpList _ _ _ _ _ _; go_wp2_with fail; (with_reducible refine (HC.out _).mono ?_); rintro e w7 ⟨rfl, hx2⟩; go_wp2_with fail; exact ⟨rfl, hx2.1, rfl, rfl⟩
                · intro w1 hx1; rintro _ rfl; rintro _ rfl; change wpList _ _ _ _ _ _; go_wp2_with fail; exact ⟨rfl, Ext.refl _, rfl, rfl⟩
                · intro w1 hx1; rintro _ rfl; rintro _ rfl; change wpList _ _ _ _ _ _; exact ob_pick rfl rfl rfl rfl rfl rfl
              · intro w1 hx1; rintro _ rfl; rintro _ rfl; rintro _ rfl; rintro _ rfl; rintro _ rfl; rintro _ rfl; rintro _ rfl; rintro _ rfl; rintro _ rfl; rintro _ rfl; rintro _ rfl; rintro _ rfl; rintro _ rfl; rintro _ rfl; rintro _ rfl; rintro _ rfl; refine depsThen_nil ?_; dsimp only; simp only [Act.put, List.setIfInBounds_toArray, List.set_cons_zero, List.set_cons_succ]
                have HXQ := Lib.hid (hxq.out.trans hx1)
                clear g0 g1 g2 g3 r0 r1 r2 r3 hx1 hxq
                go_wp2_with fail
                go_meet
                case rel => exact ⟨j, rfl, hj, hlow.out, fun hq => by rw [← HY.out]; exact hneg, HXQ.out⟩
          · obtain rfl : j = m := by omega
            have hJ : decide ((j : Int) < (j : Int)) = false := decide_eq_false (by omega)
            go_upto_region 6 with fail
            refine wp_region_facts [Fact.eq (.int .i64 j),
                Fact.eq (.slice ao j co),
                Fact.eq (.int .i64 j),
                Fact.eq (.bool false),
                Fact.eq (.bool false),
                Fact.eq undef,
                Fact.eq undef,
                Fact.eq undef,
                Fact.eq undef,
                Fact.eq undef,
                Fact.eq undef,
                Fact.eq undef,
                Fact.eq undef,
                Fact.eq undef,
                Fact.eq undef,
                Fact.eq (.bool false)]
              [[], [], [(1, 14)], [(0, 13), (2, 15)], [(3, 16)], [(4, 17)], [(4, 17)], [(5, 18), (6, 19), (4, 17)], [(7, 20), (4, 17)], [(4, 17)], [(4, 17)], [(9, 22), (10, 23), (4, 17)], [(11, 24), (4, 17)], [(8, 21), (12, 25), (4, 17)], [(13, 26), (4, 17)], [(4, 17), (14, 27)]]
              [(0, 13), (1, 14), (2, 15), (3, 16), (4, 17), (5, 18), (6, 19), (7, 20), (8, 21), (9, 22), (10, 23), (11, 24), (12, 25), (13, 26), (14, 27), (15, 28)] (by kernel_rfl) (by kernel_rfl) ?_ ?_
            · refine ⟨?_, ?_, ?_, ?_, ?_, ?_, ?_, ?_, ?_, ?_, ?_, ?_, ?_, ?_, ?_, ?_, trivial⟩
              · intro w1 hx1; change wpList _ _ _ _ _ _; exact ob_move rfl rfl rfl rfl rfl
              · intro w1 hx1; change wpList _ _ _ _ _ _; exact ob_move rfl rfl rfl rfl rfl
              · intro w1 hx1; rintro _ rfl; change wpList _ _ _ _ _ _; go_wp2_with fail; exact ⟨rfl, Ext.refl _, rfl, rfl⟩
              · intro w1 hx1; rintro _ rfl; rintro _ rfl; change wpList _ _ _ _ _ _; go_wp2_with fail; exact ⟨rfl, Ext.refl _, rfl, rfl⟩
              · intro w1 hx1; rintro _ rfl; change wpList _ _ _ _ _ _; exact ob_move rfl rfl rfl rfl rfl
              · intro w1 hx1; rintro _ rfl; change wpList _ _ _ _ _ _; exact ob_skip rfl rfl rfl rfl
              · intro w1 hx1; rintro _ rfl; change wpList _ _ _ _ _ _; exact ob_skip rfl rfl rfl rfl
              · intro w1 hx1; rintro _ rfl; rintro _ rfl; rintro _ rfl; change wpList _ _ _ _ _ _; exact ob_skip rfl rfl rfl rfl
              · intro w1 hx1; rintro _ rfl; rintro _ rfl; change wpList _ _ _ _ _ _; exact ob_skip rfl rfl rfl rfl
              · intro w1 hx1; rintro _ rfl; change wpList _ _ _ _ _ _; exact ob_skip rfl rfl rfl rfl
              · intro w1 hx1; rintro _ rfl; change wpList _ _ _ _ _ _; exact ob_skip rfl rfl rfl rfl
              · intro w1 hx1; rintro _ rfl; rintro _ rfl; rintro _ rfl; change wpList _ _ _ _ _ _; exact ob_skip rfl rfl rfl rfl
              · intro w1 hx1; rintro _ rfl; rintro _ rfl; change wpList _ _ _ _ _ _; exact ob_skip rfl rfl rfl rfl
              · intro w1 hx1; rintro _ rfl; rintro _ rfl; rintro _ rfl; change wpList _ _ _ _ _ _; exact ob_skip rfl rfl rfl rfl
              · intro w1 hx1; rintro _ rfl; rintro _ rfl; change wpList _ _ _ _ _ _; exact ob_skip rfl rfl rfl rfl
              · intro w1 hx1; rintro _ rfl; rintro _ rfl; change wpList _ _ _ _ _ _; exact ob_pick rfl rfl rfl rfl rfl rfl
            · intro w1 hx1; rintro _ rfl; rintro _ rfl; rintro _ rfl; rintro _ rfl; rintro _ rfl; rintro _ rfl; rintro _ rfl; rintro _ rfl; rintro _ rfl; rintro _ rfl; rintro _ rfl; rintro _ rfl; rintro _ rfl; rintro _ rfl; rintro _ rfl; rintro _ rfl; refine depsThen_nil ?_; dsimp only; simp only [Act.put, List.setIfInBounds_toArray, List.set_cons_zero, List.set_cons_succ]
              have HXQ := Lib.hid (hxq.out.trans hx1)
              go_wp2_with fail
              go_meet
              case rel => exact ⟨j, rfl, Nat.le_refl _, hlow.out, fun hq => absurd hq (by rw [← HM.out]; exact Nat.lt_irrefl _), HXQ.out⟩
      case rest =>
        obtain ⟨j, rfl, hj, hlow, hhi, hxc⟩ := hcut
        by_cases hjm : j < m
        · have hJ : decide ((j : Int) < (m : Int)) = true := decide_eq_true (by omega)
          have hjM : (j : Int) < (m : Int) := by omega
          have hjl : j < L.length := by have := HM.out; omega
          have hso : SetR wc (.slice ao m co) L := by have h := Row.ext (Row.of_own hown.out) hxc.out; unfold SetR; rw [← HM.out]; exact h
          obtain ⟨B1, o1, rfl, g0, g1, g2, g3⟩ := SetR.at hso hjl
          have r0 := hxc.out.cell f0
          have r1 := hxc.out.cell f1
          have r2 := hxc.out.cell f2
          have r3 := hxc.out.cell f3
          obtain ⟨y, hy⟩ : ∃ y, y = L[j] := ⟨_, rfl⟩
          have HY := Lib.hid hy
          have hnl : ¬ cmpV y x < 0 := by rw [hy]; exact hhi.out hjl
          rw [← hy] at g0 g1 g2 g3
          clear hso hy
          have HC := Lib.hid (fun W => rcompare_any W y.k y.n x.k x.n y.s x.s y.b x.b)
          have hcv : cmpV ⟨y.k, y.n, y.s, y.b⟩ ⟨x.k, x.n, x.s, x.b⟩ = cmpV y x := rfl
          rw [hcv] at HC
          clear hcv
          by_cases hz : cmpV y x = 0
          · have hd : (cmpV y x == 0) = true := beq_iff_eq.2 hz
            have hstop : sortU cmpV (l.take (k + 1)) = L := by rw [HST.out]; exact insU_stop cmpV x hjl (fun q hq h => hlow.out q hq h) (by rw [← HY.out]; exact hz)
            have HSTOP := Lib.hid hstop
            clear hz hstop
            go_upto_region 8 with fail
            refine wp_region_facts [Fact.eq (.int .i64 j),
                Fact.eq (.slice (some ⟨B1, o1, none⟩) m co),
                Fact.eq (.int .i64 m),
                Fact.eq (.bool true),
                Fact.eq (.bool true),
                Fact.eq (.slice (some ⟨B1, o1, none⟩) m co),
                Fact.eq (.int .i64 j),
                Fact.eq (.pointer (some ⟨B1, o1 + j * 4, none⟩)),
                Fact.eq (.agg #[.int .i64 y.k, .int .i64 y.n, .string (strOf y.s), .bool y.b]),
                Fact.eq (.slice (some ⟨B, o, none⟩) n cap),
                Fact.eq (.int .i64 k),
                Fact.eq (.pointer (some ⟨B, o + k * 4, none⟩)),
                Fact.eq (.agg #[.int .i64 x.k, .int .i64 x.n, .string (strOf x.s), .bool x.b]),
                Fact.eq (.int .i64 (cmpV y x)),
                Fact.eq (.bool true),
                Fact.eq (.bool true)]
              [[], [], [(1, 32)], [(0, 31), (2, 33)], [(3, 34)], [(4, 35)], [(4, 35)], [(5, 36), (6, 37), (4, 35)], [(7, 38), (4, 35)], [(4, 35)], [(4, 35)], [(9, 40), (10, 41), (4, 35)], [(11, 42), (4, 35)], [(8, 39), (12, 43), (4, 35)], [(13, 44), (4, 35)], [(4, 35), (14, 45)]]
              [(0, 31), (1, 32), (2, 33), (3, 34), (4, 35), (5, 36), (6, 37), (7, 38), (8, 39), (9, 40), (10, 41), (11, 42), (12, 43), (13, 44), (14, 45), (15, 46)] (by kernel_rfl) (by kernel_rfl) ?_ ?_
            · refine ⟨?_, ?_, ?_, ?_, ?_, ?_, ?_, ?_, ?_, ?_, ?_, ?_, ?_, ?_, ?_, ?_, trivial⟩
              · intro w1 hx1; change wpList _ _ _ _ _ _; exact ob_move rfl rfl rfl rfl rfl
              · intro w1 hx1; change wpList _ _ _ _ _ _; exact ob_move rfl rfl rfl rfl rfl
              · intro w1 hx1; rintro _ rfl; change wpList _ _ _ _ _ _; go_wp2_with fail; exact ⟨rfl, Ext.refl _, rfl, rfl⟩
              · intro w1 hx1; rintro _ rfl; rintro _ rfl; change wpList _ _ _ _ _ _; go_wp2_with fail; exact ⟨rfl, Ext.refl _, rfl, rfl⟩
              · intro w1 hx1; rintro _ rfl; change wpList _ _ _ _ _ _; exact ob_move rfl rfl rfl rfl rfl
              · intro w1 hx1; rintro _ rfl; change wpList _ _ _ _ _ _; exact ob_move rfl rfl rfl rfl rfl
              · intro w1 hx1; rintro _ rfl; change wpList _ _ _ _ _ _; exact ob_move rfl rfl rfl rfl rfl
              · intro w1 hx1; rintro _ rfl; rintro _ rfl; rintro _ rfl; change wpList _ _ _ _ _ _; go_wp2_with fail; exact ⟨rfl, Ext.refl _, rfl, rfl⟩
              · intro w1 hx1; rintro _ rfl; rintro _ rfl; change wpList _ _ _ _ _ _; have m0 := hx1.cell g0; have m1 := hx1.cell g1; have m2 := hx1.cell g2; have m3 := hx1.cell g3; go_wp2_with fail; exact ⟨rfl, Ext.refl _, rfl, rfl⟩
              · intro w1 hx1; rintro _ rfl; change wpList _ _ _ _ _ _; exact ob_move rfl rfl rfl rfl rfl
              · intro w1 hx1; rintro _ rfl; change wpList _ _ _ _ _ _; exact ob_move rfl rfl rfl rfl rfl
              · intro w1 hx1; rintro _ rfl; rintro _ rfl; rintro _ rfl; change wpList _ _ _ _ _ _; go_wp2_with fail; exact ⟨rfl, Ext.refl _, rfl, rfl⟩
              · intro w1 hx1; rintro _ rfl; rintro _ rfl; change wpList _ _ _ _ _ _; have m0 := hx1.cell r0; have m1 := hx1.cell r1; have m2 := hx1.cell r2; have m3 := hx1.cell r3; go_wp2_with fail; exact ⟨rfl, Ext.refl _, rfl, rfl⟩
              · intro w1 hx1; rintro _ rfl; rintro _ rfl; rintro _ rfl; change wpList _ _ _ _ _ _; go_wp2_with fail; (with_reducible refine (HC.out _).mono ?_); rintro e w7 ⟨rfl, hx2⟩; go_wp2_with fail; exact ⟨rfl, hx2.1, rfl, rfl⟩
              · intro w1 hx1; rintro _ rfl; rintro _ rfl; change wpList _ _ _ _ _ _; go_wp2_with fail; exact ⟨rfl, Ext.refl _, rfl, rfl⟩
              · intro w1 hx1; rintro _ rfl; rintro _ rfl; change wpList _ _ _ _ _ _; exact ob_pick rfl rfl rfl rfl rfl rfl
            · intro w1 hx1; rintro _ rfl; rintro _ rfl; rintro _ rfl; rintro _ rfl; rintro _ rfl; rintro _ rfl; rintro _ rfl; rintro _ rfl; rintro _ rfl; rintro _ rfl; rintro _ rfl; rintro _ rfl; rintro _ rfl; rintro _ rfl; rintro _ rfl; rintro _ rfl; refine depsThen_nil ?_; dsimp only; simp only [Act.put, List.setIfInBounds_toArray, List.set_cons_zero, List.set_cons_succ]
              have HXQ := Lib.hid ((hx.out.trans hxc.out).trans hx1)
              have HOW := Lib.hid (own_ext hown.out (hxc.out.trans hx1))
              clear g0 g1 g2 g3 r0 r1 r2 r3 hx1 hxc
              go_wp2_with fail
              go_roundw
              case rel => exact ⟨k + 1, hlt, by go_num, by rw [HSTOP.out, ← HM.out]; exact HOW.out, HXQ.out⟩
              case measure => simp [intOf]; omega
          · have hd : (cmpV y x == 0) = false := beq_eq_false_iff_ne.2 hz
            have hhere : sortU cmpV (l.take (k + 1)) = L.take j ++ x :: L.drop j := by rw [HST.out]; exact insU_here cmpV x (Nat.le_of_lt hjl) (fun q hq h => hlow.out q hq h) (fun h => by rw [← HY.out]; omega)
            have HHERE := Lib.hid hhere
            clear hz hhere
            go_upto_region 8 with fail
            refine wp_region_facts [Fact.eq (.int .i64 j),
                Fact.eq (.slice (some ⟨B1, o1, none⟩) m co),
                Fact.eq (.int .i64 m),
                Fact.eq (.bool true),
                Fact.eq (.bool true),
                Fact.eq (.slice (some ⟨B1, o1, none⟩) m co),
                Fact.eq (.int .i64 j),
                Fact.eq (.pointer (some ⟨B1, o1 + j * 4, none⟩)),
                Fact.eq (.agg #[.int .i64 y.k, .int .i64 y.n, .string (strOf y.s), .bool y.b]),
                Fact.eq (.slice (some ⟨B, o, none⟩) n cap),
                Fact.eq (.int .i64 k),
                Fact.eq (.pointer (some ⟨B, o + k * 4, none⟩)),
                Fact.eq (.agg #[.int .i64 x.k, .int .i64 x.n, .string (strOf x.s), .bool x.b]),
                Fact.eq (.int .i64 (cmpV y x)),
                Fact.eq (.bool false),
                Fact.eq (.bool false)]
              [[], [], [(1, 32)], [(0, 31), (2, 33)], [(3, 34)], [(4, 35)], [(4, 35)], [(5, 36), (6, 37), (4, 35)], [(7, 38), (4, 35)], [(4, 35)], [(4, 35)], [(9, 40), (10, 41), (4, 35)], [(11, 42), (4, 35)], [(8, 39), (12, 43), (4, 35)], [(13, 44), (4, 35)], [(4, 35), (14, 45)]]
              [(0, 31), (1, 32), (2, 33), (3, 34), (4, 35), (5, 36), (6, 37), (7, 38), (8, 39), (9, 40), (10, 41), (11, 42), (12, 43), (13, 44), (14, 45), (15, 46)] (by kernel_rfl) (by kernel_rfl) ?_ ?_
            · refine ⟨?_, ?_, ?_, ?_, ?_, ?_, ?_, ?_, ?_, ?_, ?_, ?_, ?_, ?_, ?_, ?_, trivial⟩
              · intro w1 hx1; change wpList _ _ _ _ _ _; exact ob_move rfl rfl rfl rfl rfl
              · intro w1 hx1; change wpList _ _ _ _ _ _; exact ob_move rfl rfl rfl rfl rfl
              · intro w1 hx1; rintro _ rfl; change wpList _ _ _ _ _ _; go_wp2_with fail; exact ⟨rfl, Ext.refl _, rfl, rfl⟩
              · intro w1 hx1; rintro _ rfl; rintro _ rfl; change wpList _ _ _ _ _ _; go_wp2_with fail; exact ⟨rfl, Ext.refl _, rfl, rfl⟩
              · intro w1 hx1; rintro _ rfl; change wpList _ _ _ _ _ _; exact ob_move rfl rfl rfl rfl rfl
              · intro w1 hx1; rintro _ rfl; change wpList _ _ _ _ _ _; exact ob_move rfl rfl rfl rfl rfl
              · intro w1 hx1; rintro _ rfl; change wpList _ _ _ _ _ _; exact ob_move rfl rfl rfl rfl rfl
              · intro w1 hx1; rintro _ rfl; rintro _ rfl; rintro _ rfl; change wpList _ _ _ _ _ _; go_wp2_with fail; exact ⟨rfl, Ext.refl _, rfl, rfl⟩
              · intro w1 hx1; rintro _ rfl; rintro _ rfl; change wpList _ _ _ _ _ _; have m0 := hx1.cell g0; have m1 := hx1.cell g1; have m2 := hx1.cell g2; have m3 := hx1.cell g3; go_wp2_with fail; exact ⟨rfl, Ext.refl _, rfl, rfl⟩
              · intro w1 hx1; rintro _ rfl; change wpList _ _ _ _ _ _; exact ob_move rfl rfl rfl rfl rfl
              · intro w1 hx1; rintro _ rfl; change wpList _ _ _ _ _ _; exact ob_move rfl rfl rfl rfl rfl
              · intro w1 hx1; rintro _ rfl; rintro _ rfl; rintro _ rfl; change wpList _ _ _ _ _ _; go_wp2_with fail; exact ⟨rfl, Ext.refl _, rfl, rfl⟩
              · intro w1 hx1; rintro _ rfl; rintro _ rfl; change wpList _ _ _ _ _ _; have m0 := hx1.cell r0; have m1 := hx1.cell r1; have m2 := hx1.cell r2; have m3 := hx1.cell r3; go_wp2_with fail; exact ⟨rfl, Ext.refl _, rfl, rfl⟩
              · intro w1 hx1; rintro _ rfl; rintro _ rfl; rintro _ rfl; change wpList _ _ _ _ _ _; go_wp2_with fail; (with_reducible refine (HC.out _).mono ?_); rintro e w7 ⟨rfl, hx2⟩; go_wp2_with fail; exact ⟨rfl, hx2.1, rfl, rfl⟩
              · intro w1 hx1; rintro _ rfl; rintro _ rfl; change wpList _ _ _ _ _ _; go_wp2_with fail; exact ⟨rfl, Ext.refl _, rfl, rfl⟩
              · intro w1 hx1; rintro _ rfl; rintro _ rfl; change wpList _ _ _ _ _ _; exact ob_pick rfl rfl rfl rfl rfl rfl
            · intro w1 hx1; rintro _ rfl; rintro _ rfl; rintro _ rfl; rintro _ rfl; rintro _ rfl; rintro _ rfl; rintro _ rfl; rintro _ rfl; rintro _ rfl; rintro _ rfl; rintro _ rfl; rintro _ rfl; rintro _ rfl; rintro _ rfl; rintro _ rfl; rintro _ rfl; refine depsThen_nil ?_; dsimp only; simp only [Act.put, List.setIfInBounds_toArray, List.set_cons_zero, List.set_cons_succ]
              clear g0 g1 g2 g3
              have HXQ := Lib.hid ((hx.out.trans hxc.out).trans hx1)
              have HOW := Lib.hid (own_ext hown.out (hxc.out.trans hx1))
              have s0 := hx1.cell r0
              have s1 := hx1.cell r1
              have s2 := hx1.cell r2
              have s3 := hx1.cell r3
              clear hx1 hxc r0 r1 r2 r3 f0 f1 f2 f3
              go_upto_region 10 with fail
              obtain ⟨w8, hw8⟩ : ∃ z : World, z = w1 := ⟨_, rfl⟩
              subst hw8
              have hbase : w.heap.size ≤ w8.heap.size := HXQ.out.size
              go_upto_region 11 with (first
                | (refine vCut (.tmp 48) none (some (.tmp 49)) L m 0 j rfl rfl (Row.of_own HOW.out) rfl ⟨_, _, rfl, by omega, by omega⟩ (Nat.zero_le _) (by omega) ?_; intro v50 h50; rw [List.drop_zero, Nat.sub_zero] at h50; obtain ⟨a50, c50, rfl, _, _⟩ := Row.shape h50; have H50 := Lib.hid h50; clear h50)
                | (at_builtin; refine wpList_append_row 92 80 (.tmp 47) (.tmp 50) rfl w8.heap.size _ 4 40 Tryz.underlying92 info28t rfl (by decide) rfl (.slice none 0 0) 0 [] rfl (own_none _ _ _ _) j ((L.take j).flatMap vC) H50.out (vC_one _) (by omega) (by unfold maxLen; omega) (Nat.le_refl _) ?_; intro v51 w9 hown9 hg9; have HO9 := Lib.hid hown9; have HX9 := Lib.hid ((Ext.refl w8).grown_none (v := .slice none 0 0) hg9 (fun q hq => by cases hq)); clear hown9 hg9))
              have hown9 : w9.ownsRow w8.heap.size 80 4 v51 j ((L.take j).flatMap vC) := by have h := HO9.out; rw [Nat.zero_add, List.nil_append] at h; exact h
              obtain ⟨a51, c51, rfl, _, _⟩ := own_shape hown9
              have t0 := HX9.out.cell s0
              have t1 := HX9.out.cell s1
              have t2 := HX9.out.cell s2
              have t3 := HX9.out.cell s3
              have hxb : Ext w9 (w9.alloc (.cells (vC x).toArray 80)) := (Ext.refl w9).alloc _
              have HROW := Lib.hid (v_row w9 x)
              have HO10 := Lib.hid (own_ext hown9 hxb)
              have HOWb := Lib.hid (own_ext HOW.out (HX9.out.trans hxb))
              have HX10 := Lib.hid (HX9.out.trans hxb)
              have hb10 : w8.heap.size ≤ (w9.alloc (.cells (vC x).toArray 80)).heap.size := HX10.out.size
              clear hown9 HO9 HX9 hxb H50 s0 s1 s2 s3
              go_upto_region 12 with (at_builtin; refine wpList_append_row 92 80 (.tmp 52) (.tmp 57) rfl w8.heap.size _ 4 40 Tryz.underlying92 info28t rfl (by decide) rfl _ j ((L.take j).flatMap vC) rfl HO10.out 1 (vC x) HROW.out (fun u hu => vC_one [x] u (by rw [List.flatMap_singleton]; exact hu)) (by omega) (by unfold maxLen; omega) hb10 ?_; intro v58 w11 hown11 hg11; have HO11 := Lib.hid hown11; have HG11 := Lib.hid hg11; clear hown11 hg11)
              obtain ⟨a58, c58, rfl, _, _⟩ := own_shape HO11.out
              have hkeep1 : ∀ q, (Value.slice (some ⟨B1, o1, none⟩) m co).ownBlock = some q → (Value.slice a51 j c51).ownBlock ≠ some q := fun q hq => own_later HO10.out (Nat.le_refl _) (own_lt HOW.out q hq)
              have HOWc := Lib.hid (own_keep HOWb.out HG11.out (fun q hq e => hkeep1 q hq e))
              have HX11 := Lib.hid (HX10.out.grown_none HG11.out (own_base HO10.out))
              have hb11 : w8.heap.size ≤ w11.heap.size := HX11.out.size
              clear HO10 HROW HOWb HX10 HG11 hkeep1 t0 t1 t2 t3
              go_upto_region 4 with (first
                | (refine vCut (.tmp 60) (some (.tmp 61)) none L m j m rfl rfl (Row.of_own HOWc.out) ⟨_, _, rfl, by omega, by omega⟩ rfl (by omega) (Nat.le_refl _) ?_; intro v62 h62; obtain ⟨a62, c62, rfl, _, _⟩ := Row.shape h62; have H62 := Lib.hid h62; clear h62)
                | (at_builtin; refine wpList_append_row 92 80 (.tmp 59) (.tmp 62) rfl w8.heap.size _ 4 40 Tryz.underlying92 info28t rfl (by decide) rfl _ (j + 1) ((L.take j).flatMap vC ++ vC x) rfl HO11.out (m - j) (((L.take m).drop j).flatMap vC) H62.out (vC_one _) (by omega) (by unfold maxLen; omega) hb11 ?_; intro v63 w12 hown12 hg12; have HO12 := Lib.hid hown12; have HX12 := Lib.hid (HXQ.out.trans (HX11.out.grown_none hg12 (own_base HO11.out))); clear hown12 hg12))
              have hfin : w12.ownsRow w.heap.size 80 4 v63 (sortU cmpV (l.take (k + 1))).length ((sortU cmpV (l.take (k + 1))).flatMap vC) := by
                have h := own_low HO12.out hbase
                have e1 : L.take m = L := List.take_of_length_le (by rw [← HM.out]; exact Nat.le_refl _)
                rw [e1] at h
                rw [HHERE.out]
                have e2 : (L.take j ++ x :: L.drop j).length = j + 1 + (m - j) := by rw [List.length_append, List.length_cons, List.length_take, List.length_drop, ← HM.out]; omega
                have e3 : (L.take j ++ x :: L.drop j).flatMap vC = (L.take j).flatMap vC ++ vC x ++ (L.drop j).flatMap vC := by rw [List.flatMap_append, List.flatMap_cons, List.append_assoc]
                rw [e2, e3]; first | exact h | (rw [e1]; exact h)
              have HFIN := Lib.hid hfin
              clear hfin HO12 HO11 HOWc HX11 H62
              go_wp2_with fail
              go_roundw
              case rel => exact ⟨k + 1, hlt, by go_num, HFIN.out, HX12.out⟩
              case measure => simp [intOf]; omega
        · obtain rfl : j = m := by omega
          have hJ : decide ((j : Int) < (j : Int)) = false := decide_eq_false (by omega)
          have hhere : sortU cmpV (l.take (k + 1)) = L.take j ++ x :: L.drop j := by rw [HST.out]; exact insU_here cmpV x (by rw [← HM.out]; exact Nat.le_refl _) (fun q hq h => hlow.out q hq h) (fun h => absurd h (by rw [← HM.out]; exact Nat.lt_irrefl _))
          have HHERE := Lib.hid hhere
          clear hhere
          go_upto_region 8 with fail
          refine wp_region_facts [Fact.eq (.int .i64 j),
              Fact.eq (.slice ao j co),
              Fact.eq (.int .i64 j),
              Fact.eq (.bool false),
              Fact.eq (.bool false),
              Fact.eq undef,
              Fact.eq undef,
              Fact.eq undef,
              Fact.eq undef,
              Fact.eq undef,
              Fact.eq undef,
              Fact.eq undef,
              Fact.eq undef,
              Fact.eq undef,
              Fact.eq undef,
              Fact.eq (.bool false)]
            [[], [], [(1, 32)], [(0, 31), (2, 33)], [(3, 34)], [(4, 35)], [(4, 35)], [(5, 36), (6, 37), (4, 35)], [(7, 38), (4, 35)], [(4, 35)], [(4, 35)], [(9, 40), (10, 41), (4, 35)], [(11, 42), (4, 35)], [(8, 39), (12, 43), (4, 35)], [(13, 44), (4, 35)], [(4, 35), (14, 45)]]
            [(0, 31), (1, 32), (2, 33), (3, 34), (4, 35), (5, 36), (6, 37), (7, 38), (8, 39), (9, 40), (10, 41), (11, 42), (12, 43), (13, 44), (14, 45), (15, 46)] (by kernel_rfl) (by kernel_rfl) ?_ ?_
          · refine ⟨?_, ?_, ?_, ?_, ?_, ?_, ?_, ?_, ?_, ?_, ?_, ?_, ?_, ?_, ?_, ?_, trivial⟩
            · intro w1 hx1; change wpList _ _ _ _ _ _; exact ob_move rfl rfl rfl rfl rfl
            · intro w1 hx1; change wpList _ _ _ _ _ _; exact ob_move rfl rfl rfl rfl rfl
            · intro w1 hx1; rintro _ rfl; change wpList _ _ _ _ _ _; go_wp2_with fail; exact ⟨rfl, Ext.refl _, rfl, rfl⟩
            · intro w1 hx1; rintro _ rfl; rintro _ rfl; change wpList _ _ _ _ _ _; go_wp2_with fail; exact ⟨rfl, Ext.refl _, rfl, rfl⟩
            · intro w1 hx1; rintro _ rfl; change wpList _ _ _ _ _ _; exact ob_move rfl rfl rfl rfl rfl
            · intro w1 hx1; rintro _ rfl; change wpList _ _ _ _ _ _; exact ob_skip rfl rfl rfl rfl
            · intro w1 hx1; rintro _ rfl; change wpList _ _ _ _ _ _; exact ob_skip rfl rfl rfl rfl
            · intro w1 hx1; rintro _ rfl; rintro _ rfl; rintro _ rfl; change wpList _ _ _ _ _ _; exact ob_skip rfl rfl rfl rfl
            · intro w1 hx1; rintro _ rfl; rintro _ rfl; change wpList _ _ _ _ _ _; exact ob_skip rfl rfl rfl rfl
            · intro w1 hx1; rintro _ rfl; change wpList _ _ _ _ _ _; exact ob_skip rfl rfl rfl rfl
            · intro w1 hx1; rintro _ rfl; change wpList _ _ _ _ _ _; exact ob_skip rfl rfl rfl rfl
            · intro w1 hx1; rintro _ rfl; rintro _ rfl; rintro _ rfl; change wpList _ _ _ _ _ _; exact ob_skip rfl rfl rfl rfl
            · intro w1 hx1; rintro _ rfl; rintro _ rfl; change wpList _ _ _ _ _ _; exact ob_skip rfl rfl rfl rfl
            · intro w1 hx1; rintro _ rfl; rintro _ rfl; rintro _ rfl; change wpList _ _ _ _ _ _; exact ob_skip rfl rfl rfl rfl
            · intro w1 hx1; rintro _ rfl; rintro _ rfl; change wpList _ _ _ _ _ _; exact ob_skip rfl rfl rfl rfl
            · intro w1 hx1; rintro _ rfl; rintro _ rfl; change wpList _ _ _ _ _ _; exact ob_pick rfl rfl rfl rfl rfl rfl
          · intro w1 hx1; rintro _ rfl; rintro _ rfl; rintro _ rfl; rintro _ rfl; rintro _ rfl; rintro _ rfl; rintro _ rfl; rintro _ rfl; rintro _ rfl; rintro _ rfl; rintro _ rfl; rintro _ rfl; rintro _ rfl; rintro _ rfl; rintro _ rfl; rintro _ rfl; refine depsThen_nil ?_; dsimp only; simp only [Act.put, List.setIfInBounds_toArray, List.set_cons_zero, List.set_cons_succ]
            have r0 := hxc.out.cell f0
            have r1 := hxc.out.cell f1
            have r2 := hxc.out.cell f2
            have r3 := hxc.out.cell f3
            have HXQ := Lib.hid ((hx.out.trans hxc.out).trans hx1)
            have HOW := Lib.hid (own_ext hown.out (hxc.out.trans hx1))
            have s0 := hx1.cell r0
            have s1 := hx1.cell r1
            have s2 := hx1.cell r2
            have s3 := hx1.cell r3
            clear hx1 hxc r0 r1 r2 r3 f0 f1 f2 f3
            go_upto_region 10 with fail
            obtain ⟨w8, hw8⟩ : ∃ z : World, z = w1 := ⟨_, rfl⟩
            subst hw8
            have hbase : w.heap.size ≤ w8.heap.size := HXQ.out.size
            go_upto_region 11 with (first
              | (refine vCut (.tmp 48) none (some (.tmp 49)) L j 0 j rfl rfl (Row.of_own HOW.out) rfl ⟨_, _, rfl, by omega, by omega⟩ (Nat.zero_le _) (by omega) ?_; intro v50 h50; rw [List.drop_zero, Nat.sub_zero] at h50; obtain ⟨a50, c50, rfl, _, _⟩ := Row.shape h50; have H50 := Lib.hid h50; clear h50)
              | (at_builtin; refine wpList_append_row 92 80 (.tmp 47) (.tmp 50) rfl w8.heap.size _ 4 40 Tryz.underlying92 info28t rfl (by decide) rfl (.slice none 0 0) 0 [] rfl (own_none _ _ _ _) j ((L.take j).flatMap vC) H50.out (vC_one _) (by omega) (by unfold maxLen; omega) (Nat.le_refl _) ?_; intro v51 w9 hown9 hg9; have HO9 := Lib.hid hown9; have HX9 := Lib.hid ((Ext.refl w8).grown_none (v := .slice none 0 0) hg9 (fun q hq => by cases hq)); clear hown9 hg9))
            have hown9 : w9.ownsRow w8.heap.size 80 4 v51 j ((L.take j).flatMap vC) := by have h := HO9.out; rw [Nat.zero_add, List.nil_append] at h; exact h
            obtain ⟨a51, c51, rfl, _, _⟩ := own_shape hown9
            have t0 := HX9.out.cell s0
            have t1 := HX9.out.cell s1
            have t2 := HX9.out.cell s2
            have t3 := HX9.out.cell s3
            have hxb : Ext w9 (w9.alloc (.cells (vC x).toArray 80)) := (Ext.refl w9).alloc _
            have HROW := Lib.hid (v_row w9 x)
            have HO10 := Lib.hid (own_ext hown9 hxb)
            have HOWb := Lib.hid (own_ext HOW.out (HX9.out.trans hxb))
            have HX10 := Lib.hid (HX9.out.trans hxb)
            have hb10 : w8.heap.size ≤ (w9.alloc (.cells (vC x).toArray 80)).heap.size := HX10.out.size
            clear hown9 HO9 HX9 hxb H50 s0 s1 s2 s3
            go_upto_region 12 with (at_builtin; refine wpList_append_row 92 80 (.tmp 52) (.tmp 57) rfl w8.heap.size _ 4 40 Tryz.underlying92 info28t rfl (by decide) rfl _ j ((L.take j).flatMap vC) rfl HO10.out 1 (vC x) HROW.out (fun u hu => vC_one [x] u (by rw [List.flatMap_singleton]; exact hu)) (by omega) (by unfold maxLen; omega) hb10 ?_; intro v58 w11 hown11 hg11; have HO11 := Lib.hid hown11; have HG11 := Lib.hid hg11; clear hown11 hg11)
            obtain ⟨a58, c58, rfl, _, _⟩ := own_shape HO11.out
            have hkeep1 : ∀ q, (Value.slice ao j co).ownBlock = some q → (Value.slice a51 j c51).ownBlock ≠ some q := fun q hq => own_later HO10.out (Nat.le_refl _) (own_lt HOW.out q hq)
            have HOWc := Lib.hid (own_keep HOWb.out HG11.out (fun q hq e => hkeep1 q hq e))
            have HX11 := Lib.hid (HX10.out.grown_none HG11.out (own_base HO10.out))
            have hb11 : w8.heap.size ≤ w11.heap.size := HX11.out.size
            clear HO10 HROW HOWb HX10 HG11 hkeep1 t0 t1 t2 t3
            go_upto_region 4 with (first
              | (refine vCut (.tmp 60) (some (.tmp 61)) none L j j j rfl rfl (Row.of_own HOWc.out) ⟨_, _, rfl, by omega, by omega⟩ rfl (by omega) (Nat.le_refl _) ?_; intro v62 h62; obtain ⟨a62, c62, rfl, _, _⟩ := Row.shape h62; have H62 := Lib.hid h62; clear h62)
              | (at_builtin; refine wpList_append_row 92 80 (.tmp 59) (.tmp 62) rfl w8.heap.size _ 4 40 Tryz.underlying92 info28t rfl (by decide) rfl _ (j + 1) ((L.take j).flatMap vC ++ vC x) rfl HO11.out (j - j) (((L.take j).drop j).flatMap vC) H62.out (vC_one _) (by omega) (by unfold maxLen; omega) hb11 ?_; intro v63 w12 hown12 hg12; have HO12 := Lib.hid hown12; have HX12 := Lib.hid (HXQ.out.trans (HX11.out.grown_none hg12 (own_base HO11.out))); clear hown12 hg12))
            have hfin : w12.ownsRow w.heap.size 80 4 v63 (sortU cmpV (l.take (k + 1))).length ((sortU cmpV (l.take (k + 1))).flatMap vC) := by
              have h := own_low HO12.out hbase
              have e1 : L.take j = L := List.take_of_length_le (by rw [← HM.out]; exact Nat.le_refl _)
              rw [e1] at h
              rw [HHERE.out]
              have e2 : (L.take j ++ x :: L.drop j).length = j + 1 + (j - j) := by rw [List.length_append, List.length_cons, List.length_take, List.length_drop, ← HM.out]; omega
              have e3 : (L.take j ++ x :: L.drop j).flatMap vC = (L.take j).flatMap vC ++ vC x ++ (L.drop j).flatMap vC := by rw [List.flatMap_append, List.flatMap_cons, List.append_assoc]
              rw [e2, e3]; first | exact h | (rw [e1]; exact h)
            have HFIN := Lib.hid hfin
            clear hfin HO12 HO11 HOWc HX11 H62
            go_wp2_with fail
            go_roundw
            case rel => exact ⟨k + 1, hlt, by go_num, HFIN.out, HX12.out⟩
            case measure => simp [intOf]; omega
    · obtain rfl : k = n := by omega
      have hI : decide ((k : Int) < (k : Int)) = false := decide_eq_false (by omega)
      have hall : l.take k = l := List.take_of_length_le (by have := HN.out; omega)
      rw [hall] at hown
      go_wp2_with fail
      go_ret
      exact ⟨_, rfl, hown.out, hx.out⟩
end Go.Proofs.YtaklnpjpndkccaaGreat

namespace Go.Proofs.YtaklnpjpndkccaaGreat
open Go.RowKit

def begN (n f : Int) : Int := if 0 < n then n else f
abbrev numN (n g : Int) : Int := max n g
def ordN (a b : Int) : Int := if a < b then -1 else if b < a then 1 else 0
abbrev dlV (n t : Int) (key : ByteArray) (a : Option Addr) (ln c : Nat) (f g : Int) : Value := .agg #[.int .u64 n, .int .u64 t, .string key, .slice a ln c, .int .u64 f, .int .u64 g]
set_option maxHeartbeats 4000000 in
theorem begins_any (w : World) (n t : Int) (key : ByteArray) (a : Option Addr) (ln c : Nat) (f g : Int) :
    Calls Tryz.prog 15 #[.agg #[.int .u64 n, .int .u64 t, .string key, .slice a ln c, .int .u64 f, .int .u64 g]] w fun e w' => e = .returned (.int .u64 (begN n f)) ∧ Ext w w' := by
  obtain ⟨hx, hb⟩ := boxes1 w (.cells #[.int .u64 n, .int .u64 t, .string key, .slice a ln c, .int .u64 f, .int .u64 g] 53)
  have b0 := cell_of_row _ _ 0 _ _ _ hb
  have b4 := cell_of_row _ _ 4 _ _ _ hb
  have HX := Lib.hid hx
  clear hx hb
  by_cases h : 0 < n
  · have hd : decide (0 < n) = true := decide_eq_true h
    have he : begN n f = n := if_pos h
    rw [he]
    clear he
    go_enter Tryz.func15, Tryz.ntmps15
    go_wp2_with fail
    go_ret
    exact ⟨rfl, HX.out⟩
  · have hd : decide (0 < n) = false := decide_eq_false h
    have he : begN n f = f := if_neg h
    rw [he]
    clear he
    go_enter Tryz.func15, Tryz.ntmps15
    go_wp2_with fail
    go_ret
    exact ⟨rfl, HX.out⟩
set_option maxHeartbeats 4000000 in
theorem scompare_any (w : World) (a b : Int) :
    Calls Tryz.prog 50 #[.int .u64 a, .int .u64 b] w fun e w' => e = .returned (.int .i64 (ordN a b)) ∧ w' = w := by
  unfold ordN
  by_cases h : a < b
  · have hd : decide (a < b) = true := decide_eq_true h
    rw [if_pos h]
    go_enter Tryz.func50, Tryz.ntmps50
    go_wp2_with fail
    go_ret
    exact ⟨rfl, rfl⟩
  · have hd : decide (a < b) = false := decide_eq_false h
    rw [if_neg h]
    by_cases h2 : b < a
    · have hd2 : decide (b < a) = true := decide_eq_true h2
      rw [if_pos h2]
      go_enter Tryz.func50, Tryz.ntmps50
      go_wp2_with fail
      go_ret
      exact ⟨rfl, rfl⟩
    · have hd2 : decide (b < a) = false := decide_eq_false h2
      rw [if_neg h2]
      go_enter Tryz.func50, Tryz.ntmps50
      go_wp2_with fail
      go_ret
      exact ⟨rfl, rfl⟩

/-- Block b is a splicer. -/
def SpB (w : World) (b : Nat) (pv : Value) (next : Int) (st : Int) (count : Int) : Prop := w.heap[b]? = some (.cells #[pv, .int .u64 next, .int .i64 st, .int .u64 count] 88 (0, 0))
set_option maxHeartbeats 4000000 in
theorem sstate_any (w : World) (b : Nat) (pv : Value) (next st count : Int) (h : SpB w b pv next st count) :
    Calls Tryz.prog 22 #[.pointer (some ⟨b, 0, none⟩)] w fun e w' => e = .returned (.int .i64 st) ∧ w' = w := by
  have b2 := cell_of_row _ _ 2 _ _ _ h
  clear h
  go_enter Tryz.func22, Tryz.ntmps22
  go_wp2_with fail
  go_ret
  exact ⟨rfl, rfl⟩
set_option maxHeartbeats 4000000 in
theorem snext_any (w : World) (b : Nat) (pv : Value) (next st count : Int) (h : SpB w b pv next st count) :
    Calls Tryz.prog 12 #[.pointer (some ⟨b, 0, none⟩)] w fun e w' => e = .returned (.int .u64 next) ∧ w' = w := by
  have b1 := cell_of_row _ _ 1 _ _ _ h
  clear h
  go_enter Tryz.func12, Tryz.ntmps12
  go_wp2_with fail
  go_ret
  exact ⟨rfl, rfl⟩
set_option maxHeartbeats 4000000 in
theorem slit_any (w : World) (b : Nat) (pv : Value) (next st count : Int) (h : SpB w b pv next st count) (known : Bool) :
    Calls Tryz.prog 10 #[.pointer (some ⟨b, 0, none⟩), .bool known] w fun e w' => e = .returned (.tuple #[]) ∧ w' = w.setCell ⟨b, 2, none⟩ (.int .i64 (if known then 1 else 0)) := by
  have b2 := cell_of_row _ _ 2 _ _ _ h
  have z2 := frozen_of_row _ _ 2 _ _ h
  clear h
  cases known
  · go_enter Tryz.func10, Tryz.ntmps10
    go_wp2_with fail
    go_end0
    exact ⟨rfl, rfl⟩
  · go_enter Tryz.func10, Tryz.ntmps10
    go_wp2_with fail
    go_end0
    exact ⟨rfl, rfl⟩
end Go.Proofs.YtaklnpjpndkccaaGreat

namespace Go.Proofs.YtaklnpjpndkccaaGreat
open Go.RowKit

set_option maxHeartbeats 4000000 in
theorem dnumber_any (w : World) (n t : Int) (key : ByteArray) (a : Option Addr) (ln c : Nat) (f g : Int) :
    Calls Tryz.prog 16 #[.agg #[.int .u64 n, .int .u64 t, .string key, .slice a ln c, .int .u64 f, .int .u64 g]] w fun e w' => e = .returned (.int .u64 (numN n g)) ∧ Ext w w' := by
  obtain ⟨hx, hb⟩ := boxes1 w (.cells #[.int .u64 n, .int .u64 t, .string key, .slice a ln c, .int .u64 f, .int .u64 g] 53)
  have b0 := cell_of_row _ _ 0 _ _ _ hb
  have b5 := cell_of_row _ _ 5 _ _ _ hb
  have HX := Lib.hid hx
  clear hx hb
  go_enter Tryz.func16, Tryz.ntmps16
  go_wp2_with fail
  go_ret
  exact ⟨rfl, HX.out⟩
set_option maxHeartbeats 4000000 in
theorem gaporder_any (w : World) (f g f2 g2 : Int) :
    Calls Tryz.prog 49 #[.agg #[.int .u64 f, .int .u64 g], .agg #[.int .u64 f2, .int .u64 g2]] w fun e w' => e = .returned (.int .i64 (ordN f f2)) ∧ Grew w w' := by
  obtain ⟨hx, hb, hc⟩ := boxes2 w (.cells #[.int .u64 f, .int .u64 g] 51) (.cells #[.int .u64 f2, .int .u64 g2] 51)
  have b0 := cell_of_row _ _ 0 _ _ _ hb
  have c0 := cell_of_row _ _ 0 _ _ _ hc
  clear hx hb hc
  go_enter Tryz.func49, Tryz.ntmps49
  go_wp2_with (go_at_call 50; (with_reducible refine (scompare_any _ f f2).mono ?_); rintro e w5 ⟨rfl, rfl⟩)
  go_ret
  exact ⟨rfl, ((Grew.refl w).alloc _).alloc _⟩
set_option maxHeartbeats 4000000 in
theorem sask_no (w : World) (b : Nat) (pv : Value) (next st count : Int) (h : SpB w b pv next st count) (hs : st ≠ 1) (cnt : Int) :
    Calls Tryz.prog 11 #[.pointer (some ⟨b, 0, none⟩), .int .u64 cnt] w fun e w' => e = .returned (.tuple #[.int .u64 0, .bool false]) ∧ w' = w := by
  have hst := sstate_any w b pv next st count h
  have HST := Lib.hid hst
  have d1 : (st != 1) = true := bne_iff_ne.2 hs
  clear h hst hs
  go_enter Tryz.func11, Tryz.ntmps11
  go_wp2_with (go_at_call 22; (with_reducible refine HST.out.mono ?_); rintro e w5 ⟨rfl, rfl⟩)
  go_ret2
  exact ⟨rfl, rfl⟩
set_option maxHeartbeats 4000000 in
theorem sask_yes (w : World) (b : Nat) (pv : Value) (next count : Int) (h : SpB w b pv next 1 count) (cnt : Int) :
    Calls Tryz.prog 11 #[.pointer (some ⟨b, 0, none⟩), .int .u64 cnt] w fun e w' => e = .returned (.tuple #[.int .u64 next, .bool true]) ∧ w' = (w.setCell ⟨b, 2, none⟩ (.int .i64 2)).setCell ⟨b, 3, none⟩ (.int .u64 cnt) := by
  have hst := sstate_any w b pv next 1 count h
  have HST := Lib.hid hst
  have b1 := cell_of_row _ _ 1 _ _ _ h
  have b2 := cell_of_row _ _ 2 _ _ _ h
  have b3 := cell_of_row _ _ 3 _ _ _ h
  have z2 := frozen_of_row _ _ 2 _ _ h
  have z3 := frozen_of_row _ _ 3 _ _ h
  clear h hst
  go_enter Tryz.func11, Tryz.ntmps11
  go_wp2_with (go_at_call 22; (with_reducible refine HST.out.mono ?_); rintro e w5 ⟨rfl, rfl⟩)
  go_ret2
  exact ⟨rfl, rfl⟩
end Go.Proofs.YtaklnpjpndkccaaGreat

namespace Go.Proofs.YtaklnpjpndkccaaGreat
open Go.RowKit

section
variable {P : Program}
theorem run_append_whose {w : World} (base : Nat) (t ty e : TypeId) (i : TypeInfo) (z : Value) (size bytes : Nat) (ht : P.underlying t = some (.slice e)) (hi : P.info? e = some i) (hz : i.zero = some z)
    (hsize : i.size = size) (hby : i.bytes = bytes) (hzs : z.cells.size = size) (hsz : 0 < size) (v : Value) (n : Nat) (xs : List Value) (hown : w.ownsRow base e size v n xs)
    (a : Addr) (m c : Nat) (news : List Value) (hl : news.length = m * size) (hnews : ∀ j u, news[j]? = some u → w.cell? (a.add j) = some u) (h1 : ∀ u ∈ news, u.oneCell' = true) (hm : 0 < m)
    (h63 : n + m ≤ maxLen) (hbytes : (n + m) * bytes ≤ 140737488355328) (hbase : base ≤ w.heap.size) :
    ∃ v' w', (Builtin.append_ #[t, t] ty #[v, .slice (some a) m c]).run P w = .ok v' w' ∧ w'.ownsRow base e size v' (n + m) (xs ++ news) ∧ w.grownBy w' v.ownBlock ∧ (v'.ownBlock = v.ownBlock ∨ v'.ownBlock = some w.heap.size) := by
  obtain ⟨v', w', hr, ho, hg, _⟩ := run_append_own (P := P) (w := w) base t ty e i z size bytes ht hi hz hsize hby hzs hsz v n xs hown a m c news hl hnews h1 h63 hbytes hbase
  refine ⟨v', w', hr, ho, hg, ?_⟩
  subst hsize
  have hsmall : n + m ≤ 9223372036854775807 := by simp only [maxLen] at h63; omega
  rcases hown.2 with ⟨rfl, rfl⟩ | ⟨g, cap, cur, rfl, hbg, hgh, hnc, hcm, hcs, htake⟩
  · have hr2 := run_append_nil (P := P) w t ty e i z ht hi hz a m c news hl hnews hm (by omega) (by rw [hby]; simp only [Nat.zero_add] at hbytes; omega)
    rw [hr2] at hr
    cases hr
    exact .inr rfl
  · by_cases hroom : n + m ≤ cap
    · have hfit : n * i.size + news.length ≤ cur.size := by rw [hl, hcs, ← Nat.add_mul]; exact Nat.mul_le_mul_right _ hroom
      have hr2 := run_append_room (P := P) w t ty e i ht hi g n cap cur hgh a m c news hl hnews h1 hroom hfit
      rw [hr2] at hr
      cases hr
      exact .inl rfl
    · have holds : ∀ j u, xs[j]? = some u → w.cell? ((⟨g, 0, none⟩ : Addr).add j) = some u := hown.cells (g := g) rfl
      have hr2 := run_append_grow (P := P) w t ty e i z ht hi hz ⟨g, 0, none⟩ n cap xs hown.1 holds a m c news hl hnews (by omega) (by omega) (growslice_fits (by omega) (by rw [hby]; exact hbytes))
      rw [hr2] at hr
      cases hr
      exact .inr rfl

/-- 'append(s, x...)' behind memory of the call's own, and whose block the answer is. -/
theorem wpList_append_whose {ops : Array Oper} {Q : Exit → Act → World → Prop} {a : Act} {w : World} {rest : List Oper} {o : Oper}
    (t e : TypeId) (s x : Operand) (ho : o.op = .call { callee := .builtin .append, args := #[s, x], argTypes := #[t, t] })
    (base : Nat) (z : Value) (size bytes : Nat) (ht : P.underlying t = some (.slice e)) (hi : (P.info? e).map (fun i => (i.zero, i.size, i.bytes)) = some (some z, size, bytes))
    (hzs : z.cells.size = size) (hsz : 0 < size)
    (hw : Region.wanted o (yielded ops a.tmps) = true)
    (v : Value) (n : Nat) (xs : List Value) (hs : a.eval s = v) (hown : w.ownsRow base e size v n xs)
    (m : Nat) (news : List Value) (hx : Row w size (a.eval x) m news) (h1 : ∀ u ∈ news, u.oneCell' = true) (hm : 0 < m)
    (hbytes : (n + m) * bytes ≤ 140737488355328) (h63 : n + m ≤ maxLen) (hbase : base ≤ w.heap.size)
    (h : ∀ v' w', w'.ownsRow base e size v' (n + m) (xs ++ news) → w.grownBy w' v.ownBlock → (v'.ownBlock = v.ownBlock ∨ v'.ownBlock = some w.heap.size) → wpList P ops Q rest (a.put o.dst v') w') : wpList P ops Q (o :: rest) a w := by
  obtain ⟨i, hi1, hi2, hi3, hi4⟩ := info_parts hi
  obtain ⟨hl, ad, cap, hv, hc, hmx, hnil, hspot, hcell⟩ := hx
  cases ad with
  | none => have := hnil rfl; omega
  | some p =>
    have hps : p.spot = none := hspot p rfl (by omega)
    have hadd : ∀ j, p.add j = ⟨p.block, p.off + j, none⟩ := fun j => by
      obtain ⟨pb', po', ps⟩ := p
      simp only at hps; subst hps
      unfold Addr.add; split <;> simp_all
    obtain ⟨v', w', hr, ho', hg, hq⟩ := run_append_whose (P := P) (w := w) base t o.type e i z size bytes ht hi1 hi2 hi3 hi4 hzs hsz v n xs hown p m cap news hl (fun j u hj => by
      obtain ⟨p', hp', hcl⟩ := hcell j u hj
      simp only [Option.some.injEq] at hp'; subst hp'
      rw [hadd]; exact hcl) h1 hm h63 hbytes hbase
    rw [← hv] at hr
    refine wpList_val hw ?_ (h v' w' ho' hg hq)
    simp only [execOp, ho, resolve, invoke, builtin, Sem.run_bind, Sem.run_pure, Result.andThen_ok, List.map_toArray, List.map_cons, List.map_nil, hs, hr]

theorem row_kept {w w' : World} {size n : Nat} {v : Value} {xs : List Value} {row : Option Nat} (h : Row w size v n xs) (hg : w.grownBy w' row) (hne : ∀ B o k c, v = .slice (some ⟨B, o, none⟩) k c → some B ≠ row) : Row w' size v n xs := by
  obtain ⟨h1, a, cap, rfl, h3, h4, h5, h6, h7⟩ := h
  refine ⟨h1, a, cap, rfl, h3, h4, h5, h6, fun j u hj => ?_⟩
  obtain ⟨p, rfl, hc⟩ := h7 j u hj
  refine ⟨p, rfl, hg.cell hc ?_⟩
  by_cases h0 : 0 < cap
  · have hs := h6 p rfl h0
    obtain ⟨B, o, sp⟩ := p
    simp only at hs
    subst hs
    exact hne B o _ _ rfl
  · exfalso
    have hjl : j < xs.length := by
      rcases Nat.lt_or_ge j xs.length with h' | h'
      · exact h'
      · rw [List.getElem?_eq_none h'] at hj; cases hj
    have hn : n = 0 := by omega
    rw [hn, Nat.zero_mul] at h1
    omega
end
end Go.Proofs.YtaklnpjpndkccaaGreat

namespace Go.Proofs.YtaklnpjpndkccaaGreat
open Go.RowKit

/-- An item, plainly. -/
structure PI where
  n : Nat
  t : Nat
  key : List UInt8
  av : List (List UInt8 × V)
/-- A delivery, plainly. -/
structure PD where
  n : Nat
  t : Nat
  key : List UInt8
  av : List (List UInt8 × V)
  f : Nat
  g : Nat
def PD.ofI (x : PI) : PD := ⟨x.n, x.t, x.key, x.av, 0, 0⟩
def PD.ofG (x : Nat × Nat) : PD := ⟨0, 0, [], [], x.1, x.2⟩
/-- Gaps and items merged: a gap that does not begin behind an item comes ahead of it. -/
def rowD : List (Nat × Nat) → List PI → List PD
  | [], l => l.map PD.ofI
  | g :: gs, [] => PD.ofG g :: rowD gs []
  | g :: gs, i :: l => if g.1 ≤ i.n then PD.ofG g :: rowD gs (i :: l) else PD.ofI i :: rowD (g :: gs) l
termination_by a b => a.length + b.length

/-- An item where it lies. -/
structure IM where
  n : Nat
  t : Nat
  key : List UInt8
  ha : Option Addr
  hc : Nat
  av : List (List UInt8 × V)
instance : Inhabited IM := ⟨⟨0, 0, [], none, 0, []⟩⟩
abbrev IM.h (x : IM) : Value := .slice x.ha x.av.length x.hc
def IM.pi (x : IM) : PI := ⟨x.n, x.t, x.key, x.av⟩
def imC (x : IM) : List Value := [.int .u64 x.n, .int .u64 x.t, .string (strOf x.key), .slice x.ha x.av.length x.hc]
def gpC (x : Nat × Nat) : List Value := [.int .u64 x.1, .int .u64 x.2]
/-- A delivery where it lies. -/
structure DM where
  n : Nat
  t : Nat
  key : List UInt8
  ha : Option Addr
  hc : Nat
  av : List (List UInt8 × V)
  f : Nat
  g : Nat
abbrev DM.h (x : DM) : Value := .slice x.ha x.av.length x.hc
def DM.pd (x : DM) : PD := ⟨x.n, x.t, x.key, x.av, x.f, x.g⟩
def dmC (x : DM) : List Value := [.int .u64 x.n, .int .u64 x.t, .string (strOf x.key), .slice x.ha x.av.length x.hc, .int .u64 x.f, .int .u64 x.g]
theorem imC_len (x : IM) : (imC x).length = 4 := rfl
theorem gpC_len (x : Nat × Nat) : (gpC x).length = 2 := rfl
theorem dmC_len (x : DM) : (dmC x).length = 6 := rfl
theorem imC_one (x : IM) : ∀ u ∈ imC x, u.oneCell' = true := fun u hu => by
  simp only [imC, List.mem_cons, List.not_mem_nil, or_false] at hu
  rcases hu with rfl | rfl | rfl | rfl <;> rfl
theorem gpC_one (x : Nat × Nat) : ∀ u ∈ gpC x, u.oneCell' = true := fun u hu => by
  simp only [gpC, List.mem_cons, List.not_mem_nil, or_false] at hu
  rcases hu with rfl | rfl <;> rfl
theorem dmC_one (x : DM) : ∀ u ∈ dmC x, u.oneCell' = true := fun u hu => by
  simp only [dmC, List.mem_cons, List.not_mem_nil, or_false] at hu
  rcases hu with rfl | rfl | rfl | rfl | rfl | rfl <;> rfl
theorem flat_one {α : Type} {enc : α → List Value} (h : ∀ x, ∀ u ∈ enc x, u.oneCell' = true) (l : List α) : ∀ u ∈ l.flatMap enc, u.oneCell' = true := fun u hu => by
  obtain ⟨x, _, hx⟩ := List.mem_flatMap.1 hu
  exact h x u hx
theorem aC_one (x : List UInt8 × V) : ∀ u ∈ aC x, u.oneCell' = true := fun u hu => by
  simp only [aC, List.mem_cons, List.not_mem_nil, or_false] at hu
  rcases hu with rfl | rfl | rfl | rfl | rfl <;> rfl
structure ImR (W : World) (v : Value) (l : List IM) : Prop where
  row : Row W 4 v l.length (l.flatMap imC)
  hs : ∀ x ∈ l, AttrR W x.h x.av
theorem ImR.ext {W W' : World} {v : Value} {l : List IM} (h : ImR W v l) (hx : Ext W W') : ImR W' v l := ⟨h.row.ext hx, fun x hm => (h.hs x hm).ext hx⟩
abbrev GpR (W : World) (v : Value) (l : List (Nat × Nat)) : Prop := Row W 2 v l.length (l.flatMap gpC)
structure DmR (W : World) (v : Value) (l : List DM) : Prop where
  row : Row W 6 v l.length (l.flatMap dmC)
  hs : ∀ x ∈ l, AttrR W x.h x.av
theorem DmR.ext {W W' : World} {v : Value} {l : List DM} (h : DmR W v l) (hx : Ext W W') : DmR W' v l := ⟨h.row.ext hx, fun x hm => (h.hs x hm).ext hx⟩

theorem infoGap : (Tryz.prog.info? 51).map (fun i => (i.zero, i.size, i.bytes)) = some (some (.agg #[.int .u64 0, .int .u64 0]), 2, 16) := by kernel_rfl
theorem infoItem : (Tryz.prog.info? 49).map (fun i => (i.zero, i.size, i.bytes)) = some (some (.agg #[.int .u64 0, .int .u64 0, .string ⟨#[]⟩, .slice none 0 0]), 4, 56) := by kernel_rfl
theorem infoAttr : (Tryz.prog.info? 82).map (fun i => (i.zero, i.size, i.bytes)) = some (some (.agg #[.string ⟨#[]⟩, .int .i64 0, .int .i64 0, .string ⟨#[]⟩, .bool false]), 5, 56) := by kernel_rfl
theorem infoDel : (Tryz.prog.info? 53).map (fun i => (i.zero, i.size, i.bytes)) = some (some (.agg #[.int .u64 0, .int .u64 0, .string ⟨#[]⟩, .slice none 0 0, .int .u64 0, .int .u64 0]), 6, 72) := by kernel_rfl

set_option maxRecDepth 100000 in
set_option maxHeartbeats 2000000 in
theorem cloneGap_any (w : World) (v : Value) (l : List (Nat × Nat)) (h : Row w 2 v l.length (l.flatMap gpC)) (hl : l.length ≤ 1000000) :
    Calls Tryz.prog 47 #[v] w fun e w' => ∃ v', e = .returned v' ∧ w'.ownsRow w.heap.size 51 2 v' l.length (l.flatMap gpC) ∧ Ext w w' := by
  obtain ⟨a, cap, rfl, hc, hm⟩ := Row.shape h
  have hq : ∀ (w : World) (a : Option Addr) (n c n' c' : Nat), (binOp .eql 32 (.slice a n c) (.slice none n' c')).run Tryz.prog w = .ok (.bool a.isNone) w := fun w a n c n' c' => Lib.run_eql_slice_nil w _ _ a n c n' c' Tryz.underlying32
  cases a with
  | none =>
    have hz : l = [] := by
      obtain ⟨_, a', cap', e1, _, _, hnil, _⟩ := h
      simp only [Value.slice.injEq] at e1
      have := hnil e1.1.symm
      exact List.length_eq_zero_iff.1 (by omega)
    subst hz
    go_enter Tryz.func47, Tryz.ntmps47
    go_wp2
    go_ret
    exact ⟨_, rfl, ⟨rfl, .inl ⟨rfl, rfl⟩⟩, Ext.refl w⟩
  | some p =>
    have hr := h.ext ((Ext.refl w).alloc (.cells #[] 51))
    have hone := flat_one gpC_one l
    unfold maxLen at hm
    go_enter Tryz.func47, Tryz.ntmps47
    go_wp2_with (at_builtin; refine wpList_append_row 32 51 (.tmp 5) (.tmp 6) rfl w.heap.size _ 2 16 Tryz.underlying32 infoGap rfl (by decide) rfl _ 0 [] rfl (World.ownsRow_made w #[] 0 (Nat.le_refl _) (Nat.zero_le _) (by simp)) l.length (l.flatMap gpC) hr hone (by omega) (by unfold maxLen; omega) (by simp) ?_; intro v' w1 hown hgrow)
    go_ret
    refine ⟨v', rfl, by simpa using hown, Ext.grown_none ((Ext.refl w).alloc _) hgrow (by intro k hk; cases hk; exact Nat.le_refl _)⟩

set_option maxRecDepth 100000 in
set_option maxHeartbeats 2000000 in
theorem cloneItem_any (w : World) (v : Value) (l : List (IM)) (h : Row w 4 v l.length (l.flatMap imC)) (hl : l.length ≤ 1000000) :
    Calls Tryz.prog 51 #[v] w fun e w' => ∃ v', e = .returned v' ∧ w'.ownsRow w.heap.size 49 4 v' l.length (l.flatMap imC) ∧ Ext w w' := by
  obtain ⟨a, cap, rfl, hc, hm⟩ := Row.shape h
  have hq : ∀ (w : World) (a : Option Addr) (n c n' c' : Nat), (binOp .eql 31 (.slice a n c) (.slice none n' c')).run Tryz.prog w = .ok (.bool a.isNone) w := fun w a n c n' c' => Lib.run_eql_slice_nil w _ _ a n c n' c' Tryz.underlying31
  cases a with
  | none =>
    have hz : l = [] := by
      obtain ⟨_, a', cap', e1, _, _, hnil, _⟩ := h
      simp only [Value.slice.injEq] at e1
      have := hnil e1.1.symm
      exact List.length_eq_zero_iff.1 (by omega)
    subst hz
    go_enter Tryz.func51, Tryz.ntmps51
    go_wp2
    go_ret
    exact ⟨_, rfl, ⟨rfl, .inl ⟨rfl, rfl⟩⟩, Ext.refl w⟩
  | some p =>
    have hr := h.ext ((Ext.refl w).alloc (.cells #[] 49))
    have hone := flat_one imC_one l
    unfold maxLen at hm
    go_enter Tryz.func51, Tryz.ntmps51
    go_wp2_with (at_builtin; refine wpList_append_row 31 49 (.tmp 5) (.tmp 6) rfl w.heap.size _ 4 56 Tryz.underlying31 infoItem rfl (by decide) rfl _ 0 [] rfl (World.ownsRow_made w #[] 0 (Nat.le_refl _) (Nat.zero_le _) (by simp)) l.length (l.flatMap imC) hr hone (by omega) (by unfold maxLen; omega) (by simp) ?_; intro v' w1 hown hgrow)
    go_ret
    refine ⟨v', rfl, by simpa using hown, Ext.grown_none ((Ext.refl w).alloc _) hgrow (by intro k hk; cases hk; exact Nat.le_refl _)⟩

set_option maxRecDepth 100000 in
set_option maxHeartbeats 2000000 in
theorem cloneAttr_any (w : World) (v : Value) (l : List (List UInt8 × V)) (h : Row w 5 v l.length (l.flatMap aC)) (hl : l.length * 56 ≤ 140737488355328) :
    Calls Tryz.prog 65 #[v] w fun e w' => ∃ v', e = .returned v' ∧ w'.ownsRow w.heap.size 82 5 v' l.length (l.flatMap aC) ∧ Ext w w' := by
  obtain ⟨a, cap, rfl, hc, hm⟩ := Row.shape h
  have hq : ∀ (w : World) (a : Option Addr) (n c n' c' : Nat), (binOp .eql 45 (.slice a n c) (.slice none n' c')).run Tryz.prog w = .ok (.bool a.isNone) w := fun w a n c n' c' => Lib.run_eql_slice_nil w _ _ a n c n' c' Tryz.underlying45
  cases a with
  | none =>
    have hz : l = [] := by
      obtain ⟨_, a', cap', e1, _, _, hnil, _⟩ := h
      simp only [Value.slice.injEq] at e1
      have := hnil e1.1.symm
      exact List.length_eq_zero_iff.1 (by omega)
    subst hz
    go_enter Tryz.func65, Tryz.ntmps65
    go_wp2
    go_ret
    exact ⟨_, rfl, ⟨rfl, .inl ⟨rfl, rfl⟩⟩, Ext.refl w⟩
  | some p =>
    have hr := h.ext ((Ext.refl w).alloc (.cells #[] 82))
    have hone := flat_one aC_one l
    unfold maxLen at hm
    go_enter Tryz.func65, Tryz.ntmps65
    go_wp2_with (at_builtin; refine wpList_append_row 45 82 (.tmp 5) (.tmp 6) rfl w.heap.size _ 5 56 Tryz.underlying45 infoAttr rfl (by decide) rfl _ 0 [] rfl (World.ownsRow_made w #[] 0 (Nat.le_refl _) (Nat.zero_le _) (by simp)) l.length (l.flatMap aC) hr hone (by omega) (by unfold maxLen; omega) (by simp) ?_; intro v' w1 hown hgrow)
    go_ret
    refine ⟨v', rfl, by simpa using hown, Ext.grown_none ((Ext.refl w).alloc _) hgrow (by intro k hk; cases hk; exact Nat.le_refl _)⟩
end Go.Proofs.YtaklnpjpndkccaaGreat

namespace Go.Proofs.YtaklnpjpndkccaaGreat
open Go.Sort
section
variable {α : Type} (kf : α → Int)

/-- Z is X, sorted by numbers, those of one number in the order of X. -/
def StS (X Z : List α) : Prop := Z.Perm X ∧ (Z.Pairwise fun a b => kf a ≤ kf b) ∧ ∀ v, Z.filter (fun x => decide (kf x = v)) = X.filter (fun x => decide (kf x = v))
variable {kf}
theorem StS.mem {X Z : List α} (h : StS kf X Z) {x : α} : x ∈ Z ↔ x ∈ X := h.1.mem_iff
theorem StS.len {X Z : List α} (h : StS kf X Z) : Z.length = X.length := h.1.length_eq
theorem StS.trans {X Y Z : List α} (h1 : StS kf X Y) (h2 : StS kf Y Z) : StS kf X Z := ⟨h2.1.trans h1.1, h2.2.1, fun v => (h2.2.2 v).trans (h1.2.2 v)⟩
theorem StS.self {X : List α} (h : X.Pairwise fun a b => kf a ≤ kf b) : StS kf X X := ⟨List.Perm.refl _, h, fun _ => rfl⟩

/-- Two parts sorted, and both together. -/
theorem StS.app {X Y Z Z2 Z3 : List α} (h1 : StS kf X Z) (h2 : StS kf Y Z2) (h3 : StS kf (Z ++ Z2) Z3) : StS kf (X ++ Y) Z3 :=
  ⟨h3.1.trans (h1.1.append h2.1), h3.2.1, fun v => by rw [h3.2.2 v, List.filter_append, List.filter_append, h1.2.2 v, h2.2.2 v]⟩

theorem sts_unique : ∀ {Z Z' : List α}, (Z.Pairwise fun a b => kf a ≤ kf b) → (Z'.Pairwise fun a b => kf a ≤ kf b) → (∀ v, Z.filter (fun x => decide (kf x = v)) = Z'.filter (fun x => decide (kf x = v))) → Z = Z'
  | [], [], _, _, _ => rfl
  | [], b :: t, _, _, h => by
    have := h (kf b)
    simp at this
  | a :: t, [], _, _, h => by
    have := h (kf a)
    simp at this
  | a :: t, b :: t', h1, h2, h => by
    have ha : a ∈ b :: t' := by
      have : a ∈ (b :: t').filter (fun x => decide (kf x = kf a)) := by rw [← h (kf a)]; simp
      exact (List.mem_filter.1 this).1
    have hb : b ∈ a :: t := by
      have : b ∈ (a :: t).filter (fun x => decide (kf x = kf b)) := by rw [h (kf b)]; simp
      exact (List.mem_filter.1 this).1
    have e1 : kf b ≤ kf a := by
      rcases List.mem_cons.1 ha with e | e
      · rw [e]; exact Int.le_refl _
      · exact (List.pairwise_cons.1 h2).1 a e
    have e2 : kf a ≤ kf b := by
      rcases List.mem_cons.1 hb with e | e
      · rw [e]; exact Int.le_refl _
      · exact (List.pairwise_cons.1 h1).1 b e
    have e3 : kf a = kf b := by omega
    have hab : a = b := by
      have := h (kf a)
      rw [List.filter_cons_of_pos (by simp), List.filter_cons_of_pos (by simp [e3])] at this
      exact (List.cons.inj this).1
    subst hab
    have ht : t = t' := sts_unique (List.pairwise_cons.1 h1).2 (List.pairwise_cons.1 h2).2 fun v => by
      have := h v
      by_cases hv : kf a = v
      · rw [List.filter_cons_of_pos (by simp [hv]), List.filter_cons_of_pos (by simp [hv])] at this
        exact (List.cons.inj this).2
      · rw [List.filter_cons_of_neg (by simp [hv]), List.filter_cons_of_neg (by simp [hv])] at this
        exact this
    rw [ht]
theorem StS.unique {X Z Z' : List α} (h : StS kf X Z) (h' : StS kf X Z') : Z = Z' := sts_unique h.2.1 h'.2.1 fun v => (h.2.2 v).trans (h'.2.2 v).symm

theorem filter_none {l : List α} {v : Int} (h : ∀ x ∈ l, kf x ≠ v) : l.filter (fun x => decide (kf x = v)) = [] := List.filter_eq_nil_iff.2 fun x hx => by simpa using h x hx
/-- Two parts, each sorted, that stand where they belong. -/
theorem sts_join {A1 A2 B1 B2 Z1 Z2 : List α} (h1 : StS kf (A1 ++ B1) Z1) (h2 : StS kf (A2 ++ B2) Z2) (hA : (A1 ++ A2).Pairwise fun a b => kf a ≤ kf b) (hB : (B1 ++ B2).Pairwise fun a b => kf a ≤ kf b)
    (h12 : ∀ a ∈ A1, ∀ b ∈ B2, kf a ≤ kf b) (h21 : ∀ a ∈ A2, ∀ b ∈ B1, kf b < kf a) : StS kf ((A1 ++ A2) ++ (B1 ++ B2)) (Z1 ++ Z2) := by
  refine ⟨?_, List.pairwise_append.2 ⟨h1.2.1, h2.2.1, fun x hx y hy => ?_⟩, fun v => ?_⟩
  · refine (h1.1.append h2.1).trans ?_
    rw [List.append_assoc, List.append_assoc]
    refine List.Perm.append_left _ ?_
    rw [← List.append_assoc, ← List.append_assoc]
    exact List.Perm.append_right _ List.perm_append_comm
  · have hx' := h1.mem.1 hx
    have hy' := h2.mem.1 hy
    rcases List.mem_append.1 hx' with ha | ha <;> rcases List.mem_append.1 hy' with hb | hb
    · exact (List.pairwise_append.1 hA).2.2 x ha y hb
    · exact h12 x ha y hb
    · exact Int.le_of_lt (h21 y hb x ha)
    · exact (List.pairwise_append.1 hB).2.2 x ha y hb
  · rw [List.filter_append, h1.2.2 v, h2.2.2 v]
    simp only [List.filter_append, List.append_assoc]
    congr 1
    rw [← List.append_assoc, ← List.append_assoc]
    congr 1
    by_cases hv : ∃ x ∈ A2, kf x = v
    · obtain ⟨x, hx, e⟩ := hv
      rw [filter_none (l := B1) (fun y hy => by have := h21 x hx y hy; omega)]
      simp
    · rw [filter_none (l := A2) (fun y hy e => hv ⟨y, hy, e⟩)]
      simp

theorem list_parts (l : List α) (a b : Nat) (hab : a ≤ b) (hb : b ≤ l.length) : ∃ P X S, l = P ++ X ++ S ∧ P.length = a ∧ X.length = b - a := by
  refine ⟨l.take a, (l.drop a).take (b - a), l.drop b, ?_, by simp; omega, by simp; omega⟩
  rw [List.append_assoc]
  conv => lhs; rw [← List.take_append_drop a l]
  congr 1
  conv => lhs; rw [← List.take_append_drop (b - a) (l.drop a)]
  congr 1
  rw [List.drop_drop]
  congr 1
  omega

variable [Inhabited α]
/-- The exchange of two elements. -/
theorem swp_list (A R S : List α) (x y : α) : swp (A ++ x :: (R ++ y :: S)).toArray A.length (A.length + 1 + R.length) = (A ++ y :: (R ++ x :: S)).toArray := by
  have e1 : ((A ++ x :: (R ++ y :: S)).toArray)[A.length]! = x := by
    rw [getElem!_pos _ _ (by simp)]; simp
  have e2 : ((A ++ x :: (R ++ y :: S)).toArray)[A.length + 1 + R.length]! = y := by
    rw [getElem!_pos _ _ (by simp; omega)]
    simp only [List.getElem_toArray]
    rw [List.getElem_append_right (by omega)]
    simp only [show A.length + 1 + R.length - A.length = R.length + 1 by omega, List.getElem_cons_succ]
    rw [List.getElem_append_right (by omega)]
    simp
  unfold swp
  rw [e1, e2]
  rw [List.setIfInBounds_toArray, List.setIfInBounds_toArray]
  congr 1
  rw [List.set_append_right _ _ (Nat.le_refl _)]
  simp only [Nat.sub_self, List.set_cons_zero]
  rw [List.set_append_right _ _ (by omega)]
  simp only [show A.length + 1 + R.length - A.length = R.length + 1 by omega, List.set_cons_succ]
  rw [List.set_append_right _ _ (Nat.le_refl _)]
  simp
theorem swp_comm (d : Array α) (i j : Nat) : swp d i j = swp d j i := by
  by_cases h : i = j
  · rw [h]
  unfold swp
  apply Array.ext
  · simp
  · intro k h1 h2
    simp only [Array.size_setIfInBounds] at h1
    simp only [Array.getElem_setIfInBounds, Array.size_setIfInBounds, h1]
    by_cases hi : i = k <;> by_cases hj : j = k <;> simp [hi, hj]
theorem swp_list2 (A S : List α) (x y : α) : swp (A ++ x :: y :: S).toArray (A.length + 1) A.length = (A ++ y :: x :: S).toArray := by
  rw [swp_comm]
  exact swp_list A [] S x y

theorem split_at (d : Array α) (j : Nat) (h : j < d.size) : d.toList = d.toList.take j ++ d[j]! :: d.toList.drop (j + 1) := by
  conv => lhs; rw [← List.take_append_drop j d.toList]
  congr 1
  rw [List.drop_eq_getElem_cons (by simpa using h)]
  congr 1
  rw [getElem!_pos d j h]; simp
/-- The insertion sort never exchanges two of one number. -/
theorem swp_filter (d : Array α) (j : Nat) (h : j + 1 < d.size) (hk : kf d[j + 1]! ≠ kf d[j]!) (v : Int) : (swp d (j + 1) j).toList.filter (fun x => decide (kf x = v)) = d.toList.filter (fun x => decide (kf x = v)) := by
  obtain ⟨A, x, y, S, hd, hA⟩ : ∃ A x y S, d = (A ++ x :: y :: S).toArray ∧ A.length = j := by
    refine ⟨d.toList.take j, d[j]!, d[j + 1]!, d.toList.drop (j + 2), ?_, by simp; omega⟩
    apply Array.toList_inj.1
    simp only []
    have e1 := split_at d j (by omega)
    conv => lhs; rw [e1]
    congr 2
    rw [List.drop_eq_getElem_cons (by simpa using h)]
    congr 1
    rw [getElem!_pos d _ h]; simp
  subst hA
  have ex : d[A.length]! = x := by rw [hd, getElem!_pos _ _ (by simp)]; simp
  have ey : d[A.length + 1]! = y := by
    rw [hd, getElem!_pos _ _ (by simp)]
    simp only [List.getElem_toArray]
    rw [List.getElem_append_right (by omega)]
    simp
  rw [ex, ey] at hk
  rw [hd, swp_list2]
  simp only [List.filter_append, List.filter_cons]
  by_cases h1 : kf x = v <;> by_cases h2 : kf y = v <;> simp [h1, h2]
  omega
theorem insInner_filter {cf : α → α → Int} (hcf : ∀ x y, cf x y < 0 ↔ kf x < kf y) (a : Nat) (v : Int) : ∀ (j : Nat) (d : Array α), j < d.size → (insInner (ltOf cf) a j d).toList.filter (fun x => decide (kf x = v)) = d.toList.filter (fun x => decide (kf x = v))
  | 0, d, _ => by rw [insInner]
  | j + 1, d, hj => by
    rw [insInner]
    split
    · rename_i h
      have hl : kf d[j + 1]! < kf d[j]! := by
        simp only [Bool.and_eq_true, decide_eq_true_eq] at h
        exact (hcf _ _).1 (of_decide_eq_true h.2)
      rw [insInner_filter hcf a v j _ (by rw [size_swp]; omega), swp_filter d j hj (by omega)]
    · rfl
theorem insInner_size {lt : α → α → Bool} (a : Nat) : ∀ (j : Nat) (d : Array α), (insInner lt a j d).size = d.size
  | 0, d => by rw [insInner]
  | j + 1, d => by
    rw [insInner]
    split
    · rw [insInner_size a j, size_swp]
    · rfl
theorem insOuter_filter {cf : α → α → Int} (hcf : ∀ x y, cf x y < 0 ↔ kf x < kf y) (a b : Nat) (v : Int) (n : Nat) : ∀ (i : Nat) (d : Array α), b - i = n → b ≤ d.size → (insOuter (ltOf cf) a b i d).toList.filter (fun x => decide (kf x = v)) = d.toList.filter (fun x => decide (kf x = v)) := by
  induction n with
  | zero => intro i d h hb; rw [insOuter, if_neg (by omega)]
  | succ n ih =>
    intro i d h hb
    rw [insOuter, if_pos (by omega), ih _ _ (by omega) (by rw [insInner_size]; exact hb), insInner_filter hcf a v i d (by omega)]

theorem get_mid (P X S : List α) (i : Nat) (h : i < X.length) : ((P ++ X ++ S).toArray)[P.length + i]! = X[i] := by
  rw [getElem!_pos _ _ (by simp; omega)]
  simp only [List.getElem_toArray]
  rw [List.getElem_append_left (by simp; omega), List.getElem_append_right (by omega)]
  simp

/-- The insertion sort of a part. -/
theorem ins_sts {cf : α → α → Int} (hcf : ∀ x y, cf x y < 0 ↔ kf x < kf y) (P X S : List α) : ∃ Z, StS kf X Z ∧ insertionSort (ltOf cf) (P ++ X ++ S).toArray P.length (P.length + X.length) = (P ++ Z ++ S).toArray := by
  have swo : SWO (ltOf cf) := by
    constructor
    · intro x; exact decide_eq_false (by rw [hcf]; omega)
    · intro x y z h1 h2
      have h1 := (hcf _ _).1 (of_decide_eq_true h1)
      have h2 := (hcf _ _).1 (of_decide_eq_true h2)
      exact decide_eq_true ((hcf _ _).2 (by omega))
    · intro x y z h1 h2
      have h1 : ¬ kf x < kf y := fun h => (of_decide_eq_false h1) ((hcf _ _).2 h)
      have h2 : ¬ kf y < kf z := fun h => (of_decide_eq_false h2) ((hcf _ _).2 h)
      exact decide_eq_false fun h => by have := (hcf _ _).1 h; omega
  have hsz : (P ++ X ++ S).toArray.size = P.length + X.length + S.length := by simp [Nat.add_assoc]
  obtain ⟨hp, hs⟩ := insertionSort_holds (lt := ltOf cf) swo (P ++ X ++ S).toArray P.length (P.length + X.length) (Nat.le_add_right _ _) (by omega)
  have hf : ∀ v, (insertionSort (ltOf cf) (P ++ X ++ S).toArray P.length (P.length + X.length)).toList.filter (fun x => decide (kf x = v)) = (P ++ X ++ S).toArray.toList.filter (fun x => decide (kf x = v)) := fun v =>
    insOuter_filter hcf P.length (P.length + X.length) v _ (P.length + 1) _ rfl (by omega)
  generalize insertionSort (ltOf cf) (P ++ X ++ S).toArray P.length (P.length + X.length) = d' at *
  obtain ⟨h1, h2, h3⟩ := hp
  obtain ⟨P', Z, S', hd, hP, hZ⟩ := list_parts d'.toList P.length (P.length + X.length) (Nat.le_add_right _ _) (by simp [h1])
  have hd' : d' = (P' ++ Z ++ S').toArray := by rw [← hd]
  have hS : S'.length = S.length := by
    have := congrArg List.length hd
    simp at this hP hZ
    simp [h1] at this
    omega
  have hZl : Z.length = X.length := by omega
  have eP : P' = P := by
    apply List.ext_getElem hP
    intro i hi hi'
    have := h2 i (.inl hi')
    have e1 := get_mid [] P' (Z ++ S') i hi
    have e2 := get_mid [] P (X ++ S) i hi'
    simp only [List.nil_append, List.length_nil, Nat.zero_add, ← List.append_assoc] at e1 e2
    rw [hd', e1, e2] at this
    exact this
  have eS : S' = S := by
    apply List.ext_getElem hS
    intro i hi hi'
    have := h2 (P.length + X.length + i) (.inr (by omega))
    have e1 := get_mid (P' ++ Z) S' [] i hi
    have e2 := get_mid (P ++ X) S [] i hi'
    simp only [List.append_nil, List.length_append, hP, hZl] at e1 e2
    rw [hd', e1, e2] at this
    exact this
  subst eP eS
  refine ⟨Z, ⟨?_, ?_, fun v => ?_⟩, hd'⟩
  · rw [hd'] at h3
    have ex : ∀ Y : List α, Y.length = X.length → ((P' ++ Y ++ S').toArray.extract P'.length (P'.length + X.length)).toList = Y := fun Y hY => by
      rw [← hY]; simp
    rw [ex X rfl, ex Z hZl] at h3
    exact h3
  · refine List.pairwise_iff_getElem.2 fun i j hi hj hij => ?_
    have := hs (P'.length + i) (P'.length + j) (by omega) (by omega) (by omega)
    rw [hd', get_mid P' Z S' i hi, get_mid P' Z S' j hj] at this
    have h := of_decide_eq_false this
    rw [hcf] at h
    omega
  · have := hf v
    rw [hd'] at this
    simp only [List.filter_append] at this
    exact List.append_cancel_left (List.append_cancel_right this)
end
end Go.Proofs.YtaklnpjpndkccaaGreat
