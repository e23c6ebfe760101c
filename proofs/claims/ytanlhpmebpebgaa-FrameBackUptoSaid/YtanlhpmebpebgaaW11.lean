/- Records: frames made of the first records that may be. -/
import Derived.Test.YtanlhpmebpebgaaW10
import Derived.Test.YtanlhpmebpebgaaW9
namespace Go.Proofs.Ytanlhpmebpebgaa
open Go.RowKit

theorem putR_good' {r : List UInt8} (h : Good r) : putR r = (fr r, 0) := by
  obtain ⟨h1, h2⟩ := h
  rw [putR, if_neg (by omega), if_neg (by omega)]
theorem putR_bad {r : List UInt8} (h : ¬ Good r) : (putR r).2 = 1 ∨ (putR r).2 = 3 := by
  unfold putR
  split
  · exact .inl rfl
  · split
    · exact .inr rfl
    · exact absurd ⟨by omega, by omega⟩ h

theorem own_lt {W : World} {base n : Nat} {e : TypeId} {v : Value} {xs : List Value} (h : W.ownsRow base e 1 v n xs) : ∀ k, v.ownBlock = some k → k < W.heap.size := by
  intro k hk
  rcases h.2 with ⟨rfl, _⟩ | ⟨g, cap, cur, rfl, _, hh, _⟩
  · cases hk
  · have : g = k := Option.some.inj hk
    subst this
    exact (Array.getElem?_eq_some_iff.1 hh).1
theorem one_u8 (l : List UInt8) : ∀ u ∈ l.map (fun b => Value.int .u8 (b.toNat : Int)), u.oneCell' = true := by
  intro u hu
  obtain ⟨b, _, rfl⟩ := List.mem_map.1 hu
  rfl
theorem row_cell {w : World} {g : Nat} {u : Value} {t : TypeId} {fr : Nat × Nat} (h : w.heap[g]? = some (.cells #[u] t fr)) : Row w 1 (.slice (some ⟨g, 0, none⟩) 1 1) 1 [u] := by
  refine ⟨rfl, some ⟨g, 0, none⟩, 1, rfl, Nat.le_refl _, by decide, by simp, fun p hp _ => by cases hp; rfl, fun j x hj => ?_⟩
  cases j with
  | zero =>
    simp only [List.getElem?_cons_zero, Option.some.injEq] at hj
    subst hj
    exact ⟨_, rfl, by simp [World.cell?, h]⟩
  | succ j => simp at hj
theorem own_two {w : World} {base : Nat} {v : Value} {l : List (List UInt8)} {m : List UInt8} (h : w.ownsRow base 5 1 v ((frs l).length + (fr m).length) (((frs l).map fun b => Value.int .u8 (b.toNat : Int)) ++ (fr m).map fun b => Value.int .u8 (b.toNat : Int))) : OwnB w base v (frs (l ++ [m])) := by
  unfold OwnB
  rw [frs_snoc, List.length_append, List.map_append]
  exact h
theorem snoc_case {w : World} {us : List Value} {pre : List (List UInt8)} {x : Value} {r : List UInt8} (hus : ∀ (j : Nat) (u : Value) (r : List UInt8), us[j]? = some u → pre[j]? = some r → Bytes w u r) (hl : us.length = pre.length) (hB : Bytes w x r)
    {j : Nat} {u : Value} {q : List UInt8} (h1 : (us ++ [x])[j]? = some u) (h2 : (pre ++ [r])[j]? = some q) : Bytes w u q := by
  by_cases hj : j < us.length
  · rw [List.getElem?_append_left hj] at h1
    rw [List.getElem?_append_left (by omega)] at h2
    exact hus j u q h1 h2
  · rw [List.getElem?_append_right (by omega)] at h1 h2
    rw [hl] at h1
    cases hjj : j - pre.length with
    | zero =>
      rw [hjj] at h1 h2
      simp at h1 h2
      subst h1; subst h2
      exact hB
    | succ i => rw [hjj] at h1; simp at h1

set_option maxRecDepth 100000 in
set_option maxHeartbeats 1000000 in
theorem made_any (w : World) (v : Value) (ls : List (List UInt8)) (hl : Lists w v ls) :
    Calls Try.prog 33 #[v] w fun e W => ∃ vb vo pre, e = .returned (.tuple #[vb, vo]) ∧ OwnB W w.heap.size vb (frs pre) ∧ Lists W vo pre ∧ (∀ r ∈ pre, Good r) ∧ pre.length ≤ 40 ∧ Ext w W := by
  obtain ⟨a, cap, rfl, hc, hm⟩ := hl.shape
  unfold maxLen at hm
  generalize hn : ls.length = n at *
  have HN := Lib.hid hn; clear hn
  go_enter Try.func33, Try.ntmps33
  go_wp2_with fail
  go_loopw [4, 5, 6] (fun vb vo i wr => ∃ (k : Nat) (pre : List (List UInt8)) (us : List Value), k ≤ n ∧ i = .int .i64 k ∧ OwnB wr w.heap.size vb (frs pre) ∧ wr.ownsRow w.heap.size 22 1 vo us.length us ∧
    us.length = pre.length ∧ (∀ (j : Nat) (u : Value) (r : List UInt8), us[j]? = some u → pre[j]? = some r → Bytes w u r) ∧ (∀ r ∈ pre, Good r) ∧ pre.length ≤ 40 ∧ (frs pre).length ≤ 2056 * pre.length ∧ Ext w wr) (fun _ _ i _ => n - (intOf i).toNat)
  case atStart => exact ⟨0, [], [], Nat.zero_le _, rfl, OwnB.nil _ _, World.ownsRow_nil _ _ _ _, rfl, by simp, by simp, by simp, by simp [frs], Ext.refl w⟩
  case round =>
    obtain ⟨k, pre, us, hk, rfl, hob, hoo, hul, hus, hg, h40, hfl, hx⟩ := hrel
    have HUL := Lib.hid hul; clear hul
    have hlo : Lists wr _ pre := ⟨us, by rw [← HUL.out]; exact Row.of_own hoo, fun j u r h1 h2 => (hus j u r h1 h2).ext hx⟩
    obtain ⟨ao, co, rfl, hao, hco⟩ := hlo.shape
    have hus' : Hid (us.length = pre.length) := HUL
    have hend : ∀ W, Ext wr W → OwnB W w.heap.size _ (frs pre) ∧ Lists W (.slice ao pre.length co) pre ∧ Ext w W := fun W hW => ⟨hob.ext hW, hlo.ext hW, hx.trans hW⟩
    by_cases hlt : k < n
    · by_cases h39 : pre.length < 40
      · have k1 : k < ls.length := by rw [HN.out]; exact hlt
        obtain ⟨bl, o, u, rfl, hu, hB⟩ := hl.at k1
        generalize ls[k] = r at *
        have hu' := hx.cell hu
        have hB' := hB.ext hx
        have hp40 : decide ((pre.length : Int) < 40) = true := decide_eq_true (by omega)
        have hp40' : decide (pre.length < 40) = true := decide_eq_true (by omega)
        generalize hpn : pre.length = pn at *
        have HPN := Lib.hid hpn; clear hpn
        go_wp2_with fail
        refine (fput_any _ _ r hB').mono ?_
        rintro e wf ⟨v1, rfl, ho1, hxf⟩
        by_cases hgr : Good r
        · have hpu := putR_good' hgr
          rw [hpu] at ho1 ⊢
          simp only [] at ho1
          clear hpu
          go_wp2_with fail
          have hx2 := hx.trans hxf
          have hob1 := hob.ext hxf
          have hoo1 := ownsRow_ext hoo hxf
          have hm0 : ∀ q, some q = Value.ownBlock u4 → w.heap.size ≤ q := fun q e => own_base hob1 q e.symm
          have hm1 : ∀ q, some q = Value.ownBlock (.slice ao pn co) → w.heap.size ≤ q := fun q e => own_base hoo1 q e.symm
          obtain ⟨au, cu, rfl, -, -⟩ := hB.shape
          have hf1 : OwnB wf wr.heap.size v1 (fr r) := ho1
          obtain ⟨gf, cf, hv1⟩ := OwnB.some (n := (fr r).length) (l := fr r) ho1 rfl (by rw [fr_length]; omega)
          have hne : v1.ownBlock ≠ Value.ownBlock u4 := fun e => by
            rw [hv1] at e
            have h1 := own_base hf1 gf (by rw [hv1]; rfl)
            have h2 := own_lt hob gf e.symm
            omega
          clear hv1
          have hfl2 := fr_length r
          have hr2 := hgr.2
          obtain ⟨PB, hPB⟩ : ∃ P, P = ((frs pre).map fun b => Value.int .u8 (b.toNat : Int)) ++ (fr r).map fun b => Value.int .u8 (b.toNat : Int) := ⟨_, rfl⟩
          obtain ⟨PO, hPO⟩ : ∃ P, P = us ++ [Value.slice au r.length cu] := ⟨_, rfl⟩
          have HPB := Lib.hid hPB; clear hPB
          have HPO := Lib.hid hPO; clear hPO
          refine Rg.wp_region_facts (two (Value.ownBlock u4) (Value.ownBlock (.slice ao pn co)) PB PO) [Rg.Fact.eq _ u4,
              Rg.Fact.eq _ v1,
              factB w.heap.size ((frs pre).length + (fr r).length) PB ⟨[], (List.append_nil _).symm⟩,
              Rg.Fact.eq _ (.slice ao pn co),
              Rg.Fact.eq _ (.slice (some ⟨bl, o, none⟩) n cap),
              Rg.Fact.eq _ (.int .i64 k),
              Rg.Fact.eq _ (.pointer (some ⟨bl, o + k, none⟩)),
              Rg.Fact.eq _ (.slice au r.length cu),
              factL (.slice au r.length cu),
              factO w.heap.size (us.length + 1) PO ⟨[], (List.append_nil _).symm⟩,
              factB w.heap.size ((frs pre).length + (fr r).length) PB ⟨[], (List.append_nil _).symm⟩,
              factO w.heap.size (us.length + 1) PO ⟨[], (List.append_nil _).symm⟩]
            [[], [], [(0, 30), (1, 31)], [], [], [], [(4, 34), (5, 35)], [(6, 36)], [(7, 37)], [(3, 33), (8, 38)], [(2, 32)], [(9, 39)]]
            [(0, 30), (1, 31), (2, 32), (3, 33), (4, 34), (5, 35), (6, 36), (7, 37), (8, 38), (9, 39), (10, 4), (11, 5)] (by kernel_rfl) (by kernel_rfl) ?_ ?_
          · refine ⟨?_, ?_, ?_, ?_, ?_, ?_, ?_, ?_, ?_, ?_, ?_, ?_, trivial⟩
            · intro w1 hx1; change wpList _ _ _ _ _ _; exact Rg.ob_move _ rfl rfl rfl rfl rfl
            · intro w1 hx1; change wpList _ _ _ _ _ _; exact Rg.ob_move _ rfl rfl rfl rfl rfl
            · intro w1 hx1; rintro _ rfl; rintro _ rfl; change wpList _ _ _ _ _ _; exact ob_appB (.tmp 30) (.tmp 31) rfl rfl rfl rfl (Two.own hx1 hob1 (fun _ _ => ⟨_, HPB.out⟩) (fun e => by cases e)) (Row.of_own (Two.own hx1 hf1 (fun _ e => absurd e hne) (fun e => by cases e))) (one_u8 _) (by omega) rfl HPB.out (by omega) (Nat.le_trans hx2.size hx1.size)
            · intro w1 hx1; change wpList _ _ _ _ _ _; exact Rg.ob_move _ rfl rfl rfl rfl rfl
            · intro w1 hx1; change wpList _ _ _ _ _ _; exact Rg.ob_move _ rfl rfl rfl rfl rfl
            · intro w1 hx1; change wpList _ _ _ _ _ _; exact Rg.ob_move _ rfl rfl rfl rfl rfl
            · intro w1 hx1; rintro _ rfl; rintro _ rfl; change wpList _ _ _ _ _ _; go_wp2_with fail; exact ⟨rfl, (two (Value.ownBlock u4) (Value.ownBlock (.slice ao pn co)) PB PO).refl _, rfl, rfl⟩
            · intro w1 hx1; rintro _ rfl; change wpList _ _ _ _ _ _; have hcl := (Two.ext hx2 hm0 hm1 hx1).cell hu; go_wp2_with fail; exact ⟨rfl, (two (Value.ownBlock u4) (Value.ownBlock (.slice ao pn co)) PB PO).refl _, rfl, rfl⟩
            · intro w1 hx1; rintro _ rfl; change wpList _ _ _ _ _ _; have hlt0 := own_lt hob1; have hlt1 := own_lt hoo1; go_wp2_with fail; exact ⟨rfl, Two.of_ext ((Ext.refl w1).alloc _), rfl, w1.heap.size, rfl, (fun e => by have q1 := hlt0 _ e.symm; have q2 := hx1.size; omega), (fun e => by have q1 := hlt1 _ e.symm; have q2 := hx1.size; omega), (by show (w1.heap.push _)[w1.heap.size]? = _; simp)⟩
            · intro w1 hx1; rintro _ rfl; intro v38 h38; change wpList _ _ _ _ _ _; obtain ⟨g, rfl, hg1, hg2, hg3⟩ := h38; exact ob_appO (.tmp 33) (.tmp 38) rfl rfl rfl rfl (Two.own hx1 (HUL.out ▸ hoo1) (fun e => by cases e) (fun _ _ => ⟨_, HPO.out⟩)) (row_cell hg3) (fun x hx' => (by simp at hx'; subst hx'; rfl)) (by omega) rfl HPO.out (by have := HUL.out; omega) (Nat.le_trans hx2.size hx1.size)
            · intro w1 hx1; intro v32 h32; change wpList _ _ _ _ _ _; exact Rg.ob_assign _ rfl rfl rfl rfl h32
            · intro w1 hx1; intro v39 h39; change wpList _ _ _ _ _ _; exact Rg.ob_assign _ rfl rfl rfl rfl h39
          · intro w1 hx1; rintro _ rfl; rintro _ rfl; intro v32 h32; rintro _ rfl; rintro _ rfl; rintro _ rfl; rintro _ rfl; rintro _ rfl; intro v38 h38; intro v39 h39; intro v4 h4; intro v5 h5; refine depsThen_nil ?_; dsimp only; simp only [Act.put, List.setIfInBounds_toArray, List.set_cons_zero, List.set_cons_succ]
            replace h32 : (factB w.heap.size ((frs pre).length + (fr r).length) PB ⟨[], (List.append_nil _).symm⟩).p v32 w1 := h32
            replace h38 : (factL (.slice au r.length cu)).p v38 w1 := h38
            replace h39 : (factO w.heap.size (us.length + 1) PO ⟨[], (List.append_nil _).symm⟩).p v39 w1 := h39
            replace h4 : (factB w.heap.size ((frs pre).length + (fr r).length) PB ⟨[], (List.append_nil _).symm⟩).p v4 w1 := h4
            replace h5 : (factO w.heap.size (us.length + 1) PO ⟨[], (List.append_nil _).symm⟩).p v5 w1 := h5
            have hE : Ext w w1 := Two.ext hx2 hm0 hm1 hx1
            replace h4 : w1.ownsRow w.heap.size 5 1 v4 ((frs pre).length + (fr r).length) PB := h4
            replace h5 : w1.ownsRow w.heap.size 22 1 v5 (us.length + 1) PO := h5
            rw [HPB.out] at h4
            rw [HPO.out] at h5
            clear hend
            go_wp2_with fail
            go_roundw
            case rel => exact ⟨k + 1, pre ++ [r], us ++ [.slice au r.length cu], hlt, rfl, own_two h4, (by rw [List.length_append]; exact h5), by simp [HUL.out, HPN.out], fun j u q h1 h2 => snoc_case hus (HUL.out.trans HPN.out.symm) hB h1 h2, fun q hq => (by rcases List.mem_append.1 hq with h | h; exact hg q h; simp at h; subst h; exact hgr), (by rw [List.length_append, HPN.out]; simp; omega), (by rw [frs_snoc, List.length_append, List.length_append, HPN.out]; simp; omega), hE⟩
            case measure => simp [intOf]; omega
        · have hx2 := hx.trans hxf
          have hob1 := hob.ext hxf
          have hoo1 := ownsRow_ext hoo hxf
          rcases putR_bad hgr with hpu | hpu
          · rw [hpu]
            clear hpu hend ho1
            go_wp2_with fail
            go_roundw
            case rel => exact ⟨k + 1, pre, us, hlt, rfl, hob1, hoo1, HUL.out.trans HPN.out.symm, hus, hg, by rw [HPN.out]; omega, by rw [HPN.out]; exact hfl, hx2⟩
            case measure => simp [intOf]; omega
          · rw [hpu]
            clear hpu hend ho1
            go_wp2_with fail
            go_roundw
            case rel => exact ⟨k + 1, pre, us, hlt, rfl, hob1, hoo1, HUL.out.trans HPN.out.symm, hus, hg, by rw [HPN.out]; omega, by rw [HPN.out]; exact hfl, hx2⟩
            case measure => simp [intOf]; omega
      · have hp40 : decide ((pre.length : Int) < 40) = false := decide_eq_false (by omega)
        have hp40' : decide (pre.length < 40) = false := decide_eq_false (by omega)
        generalize hpn : pre.length = pn at *
        have HPN := Lib.hid hpn; clear hpn
        obtain ⟨q1, q2, q3⟩ := hend wr (Ext.refl wr)
        go_wp2_with fail
        go_ret2
        exact ⟨_, _, pre, rfl, q1, q2, hg, by rw [HPN.out]; omega, q3⟩
    · obtain rfl : k = n := by omega
      generalize hpn : pre.length = pn at *
      have HPN := Lib.hid hpn; clear hpn
      obtain ⟨q1, q2, q3⟩ := hend wr (Ext.refl wr)
      go_wp2_with fail
      go_ret2
      exact ⟨_, _, pre, rfl, q1, q2, hg, by rw [HPN.out]; omega, q3⟩

end Go.Proofs.Ytanlhpmebpebgaa
