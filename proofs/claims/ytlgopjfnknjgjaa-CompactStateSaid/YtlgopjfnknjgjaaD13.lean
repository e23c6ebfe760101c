/- The document's Doubles (15). -/
import Derived.Test.YtlgopjfnknjgjaaD5
import Derived.Test.YtlgopjfnknjgjaaD9
import Derived.Test.YtlgopjfnknjgjaaK7
import Derived.Deep.DeepCutAuto
namespace Go.Proofs.Ytlgopjfnknjgjaa
open Go.RowKit Go.MapKept

theorem insN_at (x : Nat) : ∀ (l : List Nat) (k : Nat), k ≤ l.length → (∀ j (_ : j < k) (h : j < l.length), l[j] ≤ x) → (∀ h : k < l.length, x < l[k]) → insN x l = l.take k ++ x :: l.drop k
  | [], k, hk, _, _ => by
    obtain rfl : k = 0 := by simpa using hk
    rfl
  | y :: l, 0, _, _, h2 => by
    have h := h2 (by simp)
    simp only [List.getElem_cons_zero] at h
    unfold insN
    rw [if_neg (by omega)]
    rfl
  | y :: l, k + 1, hk, h1, h2 => by
    have h := h1 0 (by omega) (by simp)
    simp only [List.getElem_cons_zero] at h
    unfold insN
    rw [if_pos h, insN_at x l k (by simpa using hk) (fun j hj hl => by have q := h1 (j + 1) (by omega) (by simpa using hl); simpa only [List.getElem_cons_succ] using q) (fun hl => by have q := h2 (by simpa using hl); simpa only [List.getElem_cons_succ] using q)]
    rfl
def rnumI (us : List IT) (k : Nat) : List Nat := sortN ((pickK (goesR (us.map nkOf)) us k).map IT.n)
theorem rnumI_yes {us : List IT} {k : Nat} (hk : k < us.length) (h : goesR (us.map nkOf) k = true) : rnumI us (k + 1) = insN us[k].n (rnumI us k) := by
  unfold rnumI; rw [pickK_yes hk h, List.map_append]; exact sortN_snoc _ _
theorem rnumI_no {us : List IT} {k : Nat} (hk : k < us.length) (h : goesR (us.map nkOf) k = false) : rnumI us (k + 1) = rnumI us k := by
  unfold rnumI; rw [pickK_no hk h]
theorem rnumI_le (us : List IT) (k : Nat) : (rnumI us k).length ≤ k := by
  unfold rnumI; rw [sortN_len, List.length_map]; exact pickK_le _ _ _
theorem rnumI_all (us : List IT) : rnumI us us.length = doublesF (us.map nkOf) := by
  unfold rnumI
  rw [pickK_congr (q := goesF (us.map nkOf)) (fun i _ => (goes_same _ _).symm), pickK_all, ← goneN_doubles]
  rfl
theorem own_zero1 {w : World} {b n : Nat} {v : Value} {xs : List Value} (h : w.ownsRow b 28 1 v (0 + n) ([] ++ xs)) : w.ownsRow b 28 1 v n xs := by
  rw [Nat.zero_add, List.nil_append] at h; exact h
theorem drop_all {α : Type} {l : List α} {m t : Nat} (h : l.length = m) : (l.take m).drop t = l.drop t := by
  rw [List.take_of_length_le (by omega)]
theorem ext_name {w w2 : World} (h : Ext w w2) : ∃ wc, wc = w2 ∧ Ext w wc := ⟨w2, rfl, h⟩
theorem info28s : (Try.prog.info? 28).map (·.size) = some 1 := by kernel_rfl
theorem uCut {ops : Array Oper} {Q : Exit → Act → World → Prop} {a : Act} {w : World} {rest : List Oper} {o : Oper}
    (x : Operand) (lo hi : Option Operand) (l : List Nat) (n i j : Nat)
    (ho : o.op = .slice 23 x lo hi none)
    (hw : Region.wanted o (yielded ops a.tmps) = true) (hx : Row w 1 (a.eval x) n (l.map uC))
    (hlo : BoundIs a lo 0 i) (hhi : BoundIs a hi n j) (hij : i ≤ j) (hj : j ≤ n)
    (h : ∀ v, Row w 1 v (j - i) (((l.take j).drop i).map uC) → wpList Try.prog ops Q rest (a.put o.dst v) w) : wpList Try.prog ops Q (o :: rest) a w := by
  refine wpList_cut 23 28 x lo hi 1 n i j _ ho Try.underlying23 info28s hw hx hlo hhi hij hj fun v hv => h v ?_
  simp only [Nat.mul_one] at hv
  rw [← List.map_take, ← List.map_drop] at hv
  exact hv

set_option maxRecDepth 100000 in
set_option maxHeartbeats 16000000 in
theorem rdoubles_any (w : World) (vl : Value) (us : List IT) (hi : ItemR w vl us) (hlen : us.length ≤ 1000000) :
    Calls Try.prog 15 #[vl] w fun e w' => ∃ v, e = .returned v ∧ w'.ownsRow w.heap.size 28 1 v (doublesF (us.map nkOf)).length ((doublesF (us.map nkOf)).map uC) ∧ Ext w w' := by
  obtain ⟨a, cap, rfl, hc, hmx⟩ := hi.shape
  unfold maxLen at hmx
  have HI := Lib.hid hi
  clear hi
  generalize hN : us.length = N at *
  have HN := Lib.hid hN
  clear hN
  go_enter Try.func15, Try.ntmps15
  go_wp2_with fail
  go_loopw [3, 4] (fun v i wr => ∃ k : Nat, k ≤ N ∧ i = .int .i64 k ∧ Hid (wr.ownsRow w.heap.size 28 1 v (rnumI us k).length ((rnumI us k).map uC)) ∧ Hid (Ext w wr)) (fun _ i _ => N - (intOf i).toNat)
  case atStart => exact ⟨0, Nat.zero_le _, rfl, own_none _ _ _ _, Ext.refl w⟩
  case round =>
    obtain ⟨k, hk, rfl, hown, hxr⟩ := hrel
    by_cases hlt : k < N
    · have hI : decide ((k : Int) < (N : Int)) = true := decide_eq_true (by omega)
      have hkN : (k : Int) < (N : Int) := by omega
      have hkl : k < us.length := by rw [HN.out]; exact hlt
      have hpl := rnumI_le us k
      have hcall := rgoes_any wr _ us (HI.out.ext hxr.out) k hkl
      cases hg : goesR (us.map nkOf) k with
      | true =>
        have hst := rnumI_yes hkl hg
        rw [hg] at hcall
        have HST := Lib.hid hst
        have HC := Lib.hid hcall
        obtain ⟨ao, co, rfl, hco, hmo⟩ := own_shape hown.out
        unfold maxLen at hmo
        clear hst hcall hg
        generalize hx : us[k].n = x at *
        have HX := Lib.hid hx
        clear hx
        generalize hl : rnumI us k = l at *
        clear hl
        generalize hm : l.length = m at *
        have HM := Lib.hid hm
        clear hm
        go_upto_region 6 with ((with_reducible refine HC.out.mono ?_); rintro e w2 ⟨rfl, hx2⟩; have HXR := Lib.hid (hxr.out.trans hx2); have HOW := Lib.hid (own_ext hown.out hx2); clear hx2 hown hxr)
        go_wp2_with fail
        obtain ⟨wS, rfl⟩ : ∃ z : World, z = w2 := ⟨_, rfl⟩
        go_loopw [5] (fun v wq => ∃ t : Nat, v = .int .i64 t ∧ t ≤ m ∧ Hid (∀ j (_ : j < t) (h : j < l.length), l[j] ≤ x) ∧ Hid (Ext wS wq)) (fun v _ => m - (intOf v).toNat)
        case atStart => exact ⟨0, rfl, Nat.zero_le _, fun j hj => absurd hj (Nat.not_lt_zero _), Ext.refl _⟩
        case round =>
          obtain ⟨t, rfl, ht, hle, hxq⟩ := hrel
          obtain ⟨B, o, ea, f0, -, -, -⟩ := (HI.out.ext (HXR.out.trans hxq.out)).at hkl
          subst ea
          rw [HX.out] at f0
          have hur : UR wr (.slice ao m co) l := by unfold UR; rw [HM.out]; exact Row.of_own (own_ext HOW.out hxq.out)
          obtain ⟨E, hE⟩ : ∃ E, E = (decide (t < m) && decide (l[t]! ≤ x)) := ⟨_, rfl⟩
          have HE := Lib.hid hE
          have HUR := Lib.hid hur
          clear hE hur
          go_upto_region 7 with fail
          go_cut [32] from 17 to 32 (fun vL wx => vL = .bool E ∧ Ext wr wx)
          case first =>
            by_cases htm : t < m
            · have hI2 : decide ((t : Int) < (m : Int)) = true := decide_eq_true (by omega)
              have htN : (t : Int) < (m : Int) := by omega
              obtain ⟨C, q, rfl, g0⟩ := HUR.out.at (k := t) (by rw [HM.out]; exact htm)
              have hy : l[t]! = l[t]'(by rw [HM.out]; exact htm) := getElem!_pos _ _ _
              obtain ⟨y, hyv⟩ : ∃ y, l[t]! = y := ⟨_, rfl⟩
              rw [← hy, hyv] at g0
              by_cases hyx : y ≤ x
              · have he : E = true := by rw [HE.out, hyv, decide_eq_true htm, decide_eq_true hyx]; rfl
                subst he
                have hb : decide ((y : Int) ≤ (x : Int)) = true := decide_eq_true (by omega)
                clear hy hyv
                refine wp_region_facts [Fact.eq (.int .i64 t),
                    Fact.eq (.slice (some ⟨C, q, none⟩) m co),
                    Fact.eq (.int .i64 m),
                    Fact.eq (.bool true),
                    Fact.eq (.bool true),
                    Fact.eq (.slice (some ⟨C, q, none⟩) m co),
                    Fact.eq (.int .i64 t),
                    Fact.eq (.pointer (some ⟨C, q + t, none⟩)),
                    Fact.eq (.int .u64 y),
                    Fact.eq (.slice (some ⟨B, o, none⟩) N cap),
                    Fact.eq (.int .i64 k),
                    Fact.eq (.pointer (some ⟨B, o + k * 4, none⟩)),
                    Fact.eq (.pointer (some ⟨B, o + k * 4, none⟩)),
                    Fact.eq (.int .u64 x),
                    Fact.eq (.bool true),
                    Fact.eq (.bool true)]
                  [[], [], [(1, 18)], [(0, 17), (2, 19)], [(3, 20)], [(4, 21)], [(4, 21)], [(5, 22), (6, 23), (4, 21)], [(7, 24), (4, 21)], [(4, 21)], [(4, 21)], [(9, 26), (10, 27), (4, 21)], [(11, 28), (4, 21)], [(12, 29), (4, 21)], [(8, 25), (13, 30), (4, 21)], [(4, 21), (14, 31)]]
                  [(0, 17), (1, 18), (2, 19), (3, 20), (4, 21), (5, 22), (6, 23), (7, 24), (8, 25), (9, 26), (10, 27), (11, 28), (12, 29), (13, 30), (14, 31), (15, 32)] (by kernel_rfl) (by kernel_rfl) ?_ ?_
                · refine ⟨?_, ?_, ?_, ?_, ?_, ?_, ?_, ?_, ?_, ?_, ?_, ?_, ?_, ?_, ?_, ?_, trivial⟩
                  · intro w1 hx1; change wpList _ _ _ _ _ _; exact ob_move rfl rfl rfl rfl rfl
                  · intro w1 hx1; change wpList _ _ _ _ _ _; exact ob_move rfl rfl rfl rfl rfl
                  · intro w1 hx1; rintro _ rfl; change wpList _ _ _ _ _ _; go_wp2_with fail; exact ⟨rfl, Ext.refl _, rfl, rfl⟩
                  · intro w1 hx1; rintro _ rfl; rintro _ rfl; change wpList _ _ _ _ _ _; go_wp2_with fail; exact ⟨rfl, Ext.refl _, rfl, rfl⟩
                  · intro w1 hx1; rintro _ rfl; change wpList _ _ _ _ _ _; exact ob_move rfl rfl rfl rfl rfl
                  · intro w1 hx1; rintro _ rfl; change wpList _ _ _ _ _ _; exact ob_move rfl rfl rfl rfl rfl
                  · intro w1 hx1; rintro _ rfl; change wpList _ _ _ _ _ _; exact ob_move rfl rfl rfl rfl rfl
                  · intro w1 hx1; rintro _ rfl; rintro _ rfl; rintro _ rfl; change wpList _ _ _ _ _ _; go_wp2_with fail; exact ⟨rfl, Ext.refl _, rfl, rfl⟩
                  · intro w1 hx1; rintro _ rfl; rintro _ rfl; change wpList _ _ _ _ _ _; have m0 := hx1.cell g0; go_wp2_with fail; exact ⟨rfl, Ext.refl _, rfl, rfl⟩
                  · intro w1 hx1; rintro _ rfl; change wpList _ _ _ _ _ _; exact ob_move rfl rfl rfl rfl rfl
                  · intro w1 hx1; rintro _ rfl; change wpList _ _ _ _ _ _; exact ob_move rfl rfl rfl rfl rfl
                  · intro w1 hx1; rintro _ rfl; rintro _ rfl; rintro _ rfl; change wpList _ _ _ _ _ _; go_wp2_with fail; exact ⟨rfl, Ext.refl _, rfl, rfl⟩
                  · intro w1 hx1; rintro _ rfl; rintro _ rfl; change wpList _ _ _ _ _ _; go_wp2_with fail; exact ⟨rfl, Ext.refl _, rfl, rfl⟩
                  · intro w1 hx1; rintro _ rfl; rintro _ rfl; change wpList _ _ _ _ _ _; have m0 := hx1.cell f0; go_wp2_with fail; exact ⟨rfl, Ext.refl _, rfl, rfl⟩
                  · intro w1 hx1; rintro _ rfl; rintro _ rfl; rintro _ rfl; change wpList _ _ _ _ _ _; go_wp2_with fail; exact ⟨rfl, Ext.refl _, rfl, rfl⟩
                  · intro w1 hx1; rintro _ rfl; rintro _ rfl; change wpList _ _ _ _ _ _; exact ob_pick rfl rfl rfl rfl rfl rfl
                · intro w1 hx1; rintro _ rfl; rintro _ rfl; rintro _ rfl; rintro _ rfl; rintro _ rfl; rintro _ rfl; rintro _ rfl; rintro _ rfl; rintro _ rfl; rintro _ rfl; rintro _ rfl; rintro _ rfl; rintro _ rfl; rintro _ rfl; rintro _ rfl; rintro _ rfl; refine depsThen_nil ?_; dsimp only; simp only [Act.put, List.setIfInBounds_toArray, List.set_cons_zero, List.set_cons_succ]
                  go_wp2_with fail
                  go_meet
                  exact ⟨rfl, hx1⟩
              · have he : E = false := by rw [HE.out, hyv, decide_eq_false hyx, Bool.and_false]
                subst he
                have hb : decide ((y : Int) ≤ (x : Int)) = false := decide_eq_false (by omega)
                clear hy hyv
                refine wp_region_facts [Fact.eq (.int .i64 t),
                    Fact.eq (.slice (some ⟨C, q, none⟩) m co),
                    Fact.eq (.int .i64 m),
                    Fact.eq (.bool true),
                    Fact.eq (.bool true),
                    Fact.eq (.slice (some ⟨C, q, none⟩) m co),
                    Fact.eq (.int .i64 t),
                    Fact.eq (.pointer (some ⟨C, q + t, none⟩)),
                    Fact.eq (.int .u64 y),
                    Fact.eq (.slice (some ⟨B, o, none⟩) N cap),
                    Fact.eq (.int .i64 k),
                    Fact.eq (.pointer (some ⟨B, o + k * 4, none⟩)),
                    Fact.eq (.pointer (some ⟨B, o + k * 4, none⟩)),
                    Fact.eq (.int .u64 x),
                    Fact.eq (.bool false),
                    Fact.eq (.bool false)]
                  [[], [], [(1, 18)], [(0, 17), (2, 19)], [(3, 20)], [(4, 21)], [(4, 21)], [(5, 22), (6, 23), (4, 21)], [(7, 24), (4, 21)], [(4, 21)], [(4, 21)], [(9, 26), (10, 27), (4, 21)], [(11, 28), (4, 21)], [(12, 29), (4, 21)], [(8, 25), (13, 30), (4, 21)], [(4, 21), (14, 31)]]
                  [(0, 17), (1, 18), (2, 19), (3, 20), (4, 21), (5, 22), (6, 23), (7, 24), (8, 25), (9, 26), (10, 27), (11, 28), (12, 29), (13, 30), (14, 31), (15, 32)] (by kernel_rfl) (by kernel_rfl) ?_ ?_
                · refine ⟨?_, ?_, ?_, ?_, ?_, ?_, ?_, ?_, ?_, ?_, ?_, ?_, ?_, ?_, ?_, ?_, trivial⟩
                  · intro w1 hx1; change wpList _ _ _ _ _ _; exact ob_move rfl rfl rfl rfl rfl
                  · intro w1 hx1; change wpList _ _ _ _ _ _; exact ob_move rfl rfl rfl rfl rfl
                  · intro w1 hx1; rintro _ rfl; change wpList _ _ _ _ _ _; go_wp2_with fail; exact ⟨rfl, Ext.refl _, rfl, rfl⟩
                  · intro w1 hx1; rintro _ rfl; rintro _ rfl; change wpList _ _ _ _ _ _; go_wp2_with fail; exact ⟨rfl, Ext.refl _, rfl, rfl⟩
                  · intro w1 hx1; rintro _ rfl; change wpList _ _ _ _ _ _; exact ob_move rfl rfl rfl rfl rfl
                  · intro w1 hx1; rintro _ rfl; change wpList _ _ _ _ _ _; exact ob_move rfl rfl rfl rfl rfl
                  · intro w1 hx1; rintro _ rfl; change wpList _ _ _ _ _ _; exact ob_move rfl rfl rfl rfl rfl
                  · intro w1 hx1; rintro _ rfl; rintro _ rfl; rintro _ rfl; change wpList _ _ _ _ _ _; go_wp2_with fail; exact ⟨rfl, Ext.refl _, rfl, rfl⟩
                  · intro w1 hx1; rintro _ rfl; rintro _ rfl; change wpList _ _ _ _ _ _; have m0 := hx1.cell g0; go_wp2_with fail; exact ⟨rfl, Ext.refl _, rfl, rfl⟩
                  · intro w1 hx1; rintro _ rfl; change wpList _ _ _ _ _ _; exact ob_move rfl rfl rfl rfl rfl
                  · intro w1 hx1; rintro _ rfl; change wpList _ _ _ _ _ _; exact ob_move rfl rfl rfl rfl rfl
                  · intro w1 hx1; rintro _ rfl; rintro _ rfl; rintro _ rfl; change wpList _ _ _ _ _ _; go_wp2_with fail; exact ⟨rfl, Ext.refl _, rfl, rfl⟩
                  · intro w1 hx1; rintro _ rfl; rintro _ rfl; change wpList _ _ _ _ _ _; go_wp2_with fail; exact ⟨rfl, Ext.refl _, rfl, rfl⟩
                  · intro w1 hx1; rintro _ rfl; rintro _ rfl; change wpList _ _ _ _ _ _; have m0 := hx1.cell f0; go_wp2_with fail; exact ⟨rfl, Ext.refl _, rfl, rfl⟩
                  · intro w1 hx1; rintro _ rfl; rintro _ rfl; rintro _ rfl; change wpList _ _ _ _ _ _; go_wp2_with fail; exact ⟨rfl, Ext.refl _, rfl, rfl⟩
                  · intro w1 hx1; rintro _ rfl; rintro _ rfl; change wpList _ _ _ _ _ _; exact ob_pick rfl rfl rfl rfl rfl rfl
                · intro w1 hx1; rintro _ rfl; rintro _ rfl; rintro _ rfl; rintro _ rfl; rintro _ rfl; rintro _ rfl; rintro _ rfl; rintro _ rfl; rintro _ rfl; rintro _ rfl; rintro _ rfl; rintro _ rfl; rintro _ rfl; rintro _ rfl; rintro _ rfl; rintro _ rfl; refine depsThen_nil ?_; dsimp only; simp only [Act.put, List.setIfInBounds_toArray, List.set_cons_zero, List.set_cons_succ]
                  go_wp2_with fail
                  go_meet
                  exact ⟨rfl, hx1⟩
            · have hI2 : decide ((t : Int) < (m : Int)) = false := decide_eq_false (by omega)
              have he : E = false := by rw [HE.out, decide_eq_false htm]; rfl
              subst he
              refine wp_region_facts [Fact.eq (.int .i64 t),
                  Fact.eq (.slice ao m co),
                  Fact.eq (.int .i64 m),
                  Fact.eq (.bool false),
                  Fact.eq (.bool false),
                  Fact.eq undef,
                  Fact.eq undef,
                  Fact.eq undef,
                  Fact.eq undef,
                  Fact.eq undef,
                  Fact.eq undef,
                  Fact.eq undef,
                  Fact.eq undef,
                  Fact.eq undef,
                  Fact.eq undef,
                  Fact.eq (.bool false)]
                [[], [], [(1, 18)], [(0, 17), (2, 19)], [(3, 20)], [(4, 21)], [(4, 21)], [(5, 22), (6, 23), (4, 21)], [(7, 24), (4, 21)], [(4, 21)], [(4, 21)], [(9, 26), (10, 27), (4, 21)], [(11, 28), (4, 21)], [(12, 29), (4, 21)], [(8, 25), (13, 30), (4, 21)], [(4, 21), (14, 31)]]
                [(0, 17), (1, 18), (2, 19), (3, 20), (4, 21), (5, 22), (6, 23), (7, 24), (8, 25), (9, 26), (10, 27), (11, 28), (12, 29), (13, 30), (14, 31), (15, 32)] (by kernel_rfl) (by kernel_rfl) ?_ ?_
              · refine ⟨?_, ?_, ?_, ?_, ?_, ?_, ?_, ?_, ?_, ?_, ?_, ?_, ?_, ?_, ?_, ?_, trivial⟩
                · intro w1 hx1; change wpList _ _ _ _ _ _; exact ob_move rfl rfl rfl rfl rfl
                · intro w1 hx1; change wpList _ _ _ _ _ _; exact ob_move rfl rfl rfl rfl rfl
                · intro w1 hx1; rintro _ rfl; change wpList _ _ _ _ _ _; go_wp2_with fail; exact ⟨rfl, Ext.refl _, rfl, rfl⟩
                · intro w1 hx1; rintro _ rfl; rintro _ rfl; change wpList _ _ _ _ _ _; go_wp2_with fail; exact ⟨rfl, Ext.refl _, rfl, rfl⟩
                · intro w1 hx1; rintro _ rfl; change wpList _ _ _ _ _ _; exact ob_move rfl rfl rfl rfl rfl
                · intro w1 hx1; rintro _ rfl; change wpList _ _ _ _ _ _; exact ob_skip rfl rfl rfl rfl
                · intro w1 hx1; rintro _ rfl; change wpList _ _ _ _ _ _; exact ob_skip rfl rfl rfl rfl
                · intro w1 hx1; rintro _ rfl; rintro _ rfl; rintro _ rfl; change wpList _ _ _ _ _ _; exact ob_skip rfl rfl rfl rfl
                · intro w1 hx1; rintro _ rfl; rintro _ rfl; change wpList _ _ _ _ _ _; exact ob_skip rfl rfl rfl rfl
                · intro w1 hx1; rintro _ rfl; change wpList _ _ _ _ _ _; exact ob_skip rfl rfl rfl rfl
                · intro w1 hx1; rintro _ rfl; change wpList _ _ _ _ _ _; exact ob_skip rfl rfl rfl rfl
                · intro w1 hx1; rintro _ rfl; rintro _ rfl; rintro _ rfl; change wpList _ _ _ _ _ _; exact ob_skip rfl rfl rfl rfl
                · intro w1 hx1; rintro _ rfl; rintro _ rfl; change wpList _ _ _ _ _ _; exact ob_skip rfl rfl rfl rfl
                · intro w1 hx1; rintro _ rfl; rintro _ rfl; change wpList _ _ _ _ _ _; exact ob_skip rfl rfl rfl rfl
                · intro w1 hx1; rintro _ rfl; rintro _ rfl; rintro _ rfl; change wpList _ _ _ _ _ _; exact ob_skip rfl rfl rfl rfl
                · intro w1 hx1; rintro _ rfl; rintro _ rfl; change wpList _ _ _ _ _ _; exact ob_pick rfl rfl rfl rfl rfl rfl
              · intro w1 hx1; rintro _ rfl; rintro _ rfl; rintro _ rfl; rintro _ rfl; rintro _ rfl; rintro _ rfl; rintro _ rfl; rintro _ rfl; rintro _ rfl; rintro _ rfl; rintro _ rfl; rintro _ rfl; rintro _ rfl; rintro _ rfl; rintro _ rfl; rintro _ rfl; refine depsThen_nil ?_; dsimp only; simp only [Act.put, List.setIfInBounds_toArray, List.set_cons_zero, List.set_cons_succ]
                go_wp2_with fail
                go_meet
                exact ⟨rfl, hx1⟩
          case rest =>
            obtain ⟨rfl, hx1⟩ := hcut
            have HXN := Lib.hid (hxq.out.trans hx1)
            clear hx1 hxq f0 HUR
            cases E with
            | true =>
              have hp := HE.out.symm
              simp only [Bool.and_eq_true, decide_eq_true_eq] at hp
              have hle2 : Hid (∀ j (_ : j < t + 1) (h : j < l.length), l[j] ≤ x) := fun j hj h => by
                by_cases e : j = t
                · subst e
                  have := hp.2
                  rw [getElem!_pos l j h] at this
                  exact this
                · exact hle.out j (by omega) h
              have htm := hp.1
              clear hp HE hle
              go_wp2_with fail
              go_roundw
              case rel => exact ⟨t + 1, by go_num, by omega, hle2, HXN⟩
              case measure => simp [intOf]; omega
            | false =>
              have hins : insN x l = l.take t ++ x :: l.drop t := insN_at x l t (by rw [HM.out]; exact ht) hle.out (fun h => by
                have hp := HE.out
                rw [decide_eq_true (by rw [HM.out] at h; exact h), Bool.true_and, getElem!_pos l t h] at hp
                have := of_decide_eq_false hp.symm
                omega)
              have HINS := Lib.hid hins
              clear hins HE hle
              obtain ⟨wC, rfl, hxc⟩ := ext_name HXN.out
              have HOZ := Lib.hid (own_ext HOW.out HXN.out)
              have HXZ := Lib.hid (HXR.out.trans HXN.out)
              clear hxc
              have HRW := Lib.hid (Row.of_own HOZ.out)
              have HSZ := Lib.hid (Nat.le_refl wC.heap.size)
              have hb1 : (0 + t) * 8 ≤ 140737488355328 := by omega
              have hb2 : 0 + t ≤ maxLen := by unfold maxLen; omega
              go_upto_region 11 with (first | (refine uCut (.tmp 36) none (some (.tmp 37)) l m 0 t rfl rfl HRW.out rfl ⟨_, _, rfl, by omega, by omega⟩ (Nat.zero_le _) ht ?_; intro v38 h38; rw [List.drop_zero, Nat.sub_zero] at h38; have H38 := Lib.hid h38; clear h38) | (at_builtin; (refine wpList_append_row 23 28 (.tmp 35) (.tmp 38) rfl wC.heap.size _ 1 8 Try.underlying23 info28t rfl (by decide) rfl _ 0 [] rfl (own_none _ _ _ _) t ((l.take t).map uC) H38.out (u_one _) hb1 hb2 HSZ.out ?_); intro v' w3 hown2 hg; have HO1 := Lib.hid (own_zero1 hown2); have HX1 := Lib.hid ((Ext.refl wC).grown_none (v := .slice none 0 0) hg (fun q hq => by cases hq)); clear hown2 hg))
              obtain ⟨B2, o2, e2, f0, -, -, -⟩ := (HI.out.ext (HXZ.out.trans HX1.out)).at hkl
              obtain ⟨rfl, rfl⟩ : B = B2 ∧ o = o2 := by cases e2; exact ⟨rfl, rfl⟩
              rw [HX.out] at f0
              have hrow := u_row w3 x
              have hxa := (boxes1 w3 (.cells #[.int .u64 x] 28)).1
              have HROW := Lib.hid hrow
              have HO := Lib.hid (own_ext HO1.out hxa)
              have HXA := Lib.hid (HX1.out.trans hxa)
              have HBASE := Lib.hid HXA.out.size
              clear hrow hxa e2 HO1 HX1
              have hc1 : (t + 1) * 8 ≤ 140737488355328 := by omega
              have hc2 : t + 1 ≤ maxLen := by unfold maxLen; omega
              go_upto_region 12 with (at_builtin; (refine wpList_append_row 23 28 (.tmp 40) (.tmp 46) rfl wC.heap.size _ 1 8 Try.underlying23 info28t rfl (by decide) rfl _ t ((l.take t).map uC) rfl HO.out 1 [uC x] HROW.out (u_one [x]) hc1 hc2 HBASE.out ?_); intro v' w4 hown2 hg; have HO2 := Lib.hid hown2; have HX2 := Lib.hid (HXA.out.grown_none hg (own_base HO.out)); clear hown2 hg)
              clear f0 HO HXA HROW HBASE
              have HOL := Lib.hid ((Row.of_own HOZ.out).ext HX2.out)
              have HSZ2 := Lib.hid HX2.out.size
              have hd1 : (t + 1 + (m - t)) * 8 ≤ 140737488355328 := by omega
              have hd2 : t + 1 + (m - t) ≤ maxLen := by unfold maxLen; omega
              go_wp2_with (first | (refine uCut (.tmp 49) (some (.tmp 50)) none l m t m rfl rfl HOL.out ⟨_, _, rfl, by omega, by omega⟩ rfl ht (Nat.le_refl _) ?_; intro v51 h51; rw [drop_all HM.out] at h51; have H51 := Lib.hid h51; clear h51) | (at_builtin; (refine wpList_append_row 23 28 (.tmp 48) (.tmp 51) rfl wC.heap.size _ 1 8 Try.underlying23 info28t rfl (by decide) rfl _ (t + 1) ((l.take t).map uC ++ [uC x]) rfl HO2.out (m - t) ((l.drop t).map uC) H51.out (u_one _) hd1 hd2 HSZ2.out ?_); intro v' w5 hown2 hg; have HO3 := Lib.hid hown2; have HX3 := Lib.hid (HX2.out.grown_none hg (own_base HO2.out)); clear hown2 hg))
              go_roundw
              case rel =>
                refine ⟨k + 1, hlt, by go_num, ?_, HXZ.out.trans HX3.out⟩
                show World.ownsRow _ _ _ _ _ _ _
                rw [HST.out, HINS.out]
                have h := own_low HO3.out HXZ.out.size
                have e1 : t + 1 + (m - t) = (l.take t ++ x :: l.drop t).length := by
                  rw [List.length_append, List.length_take, List.length_cons, List.length_drop, HM.out, Nat.min_eq_left ht]; omega
                rw [e1, List.append_assoc, List.singleton_append, ← List.map_cons, ← List.map_append] at h
                exact h
              case measure => simp [intOf]; omega
      | false =>
        have hst := rnumI_no hkl hg
        rw [hg] at hcall
        have HST := Lib.hid hst
        have HC := Lib.hid hcall
        clear hst hcall hg
        generalize rnumI us k = l at *
        go_wp2_with ((with_reducible refine HC.out.mono ?_); rintro e w2 ⟨rfl, hx2⟩; have HXR := Lib.hid (hxr.out.trans hx2); have HOW := Lib.hid (own_ext hown.out hx2); clear hx2 hown hxr)
        go_roundw
        case rel =>
          refine ⟨k + 1, hlt, by go_num, ?_, HXR.out⟩
          show World.ownsRow _ _ _ _ _ _ _
          rw [HST.out]
          exact HOW.out
        case measure => simp [intOf]; omega
    · obtain rfl : k = N := by omega
      have hI : decide ((k : Int) < (k : Int)) = false := decide_eq_false (by omega)
      have ho := hown.out
      have e : rnumI us k = doublesF (us.map nkOf) := by rw [← HN.out]; exact rnumI_all us
      rw [e] at ho
      have HO := Lib.hid ho
      clear ho e hown
      go_wp2_with fail
      go_ret
      exact ⟨_, rfl, HO.out, hxr.out⟩
end Go.Proofs.Ytlgopjfnknjgjaa
