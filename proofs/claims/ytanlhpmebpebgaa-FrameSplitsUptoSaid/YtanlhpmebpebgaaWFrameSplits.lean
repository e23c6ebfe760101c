/- FrameSplits, walked: whatever bytes of a bounded length it is handed it answers true and writes nothing that was there. -/
import Derived.Test.YtanlhpmebpebgaaW9
import Derived.ArgAppend
namespace Go.Proofs.Ytanlhpmebpebgaa
open Go.RowKit

/-- A record's slice into memory from B on, not in block gx: its bytes can be turned, a byte be put behind. -/
def FlipS (W : World) (B gx : Nat) (u : Value) : Prop :=
  ∃ g len cap, u = .slice (some ⟨g, 4, none⟩) len cap ∧ B ≤ g ∧ g ≠ gx ∧ g < W.heap.size ∧ len ≤ cap ∧ cap ≤ maxLen ∧ len ≤ 2048 ∧
    (∀ j, j < len → ∃ c : UInt8, W.cell? ⟨g, 4 + j, none⟩ = some (.int .u8 (c.toNat : Int)) ∧ W.frozen? ⟨g, 4 + j, none⟩ = false) ∧
    (len < cap → (W.cell? ⟨g, 4 + len, none⟩).isSome = true ∧ W.frozen? ⟨g, 4 + len, none⟩ = false)

theorem FlipS.ext {W W' : World} {B gx : Nat} {u : Value} (h : FlipS W B gx u) (hx : Ext W W') : FlipS W' B gx u := by
  obtain ⟨g, len, cap, e, h1, h2, h3, h4, h5, h6, h7, h8⟩ := h
  have hc : ∀ o, W'.cell? ⟨g, o, none⟩ = W.cell? ⟨g, o, none⟩ := fun o => Below.cell hx (p := ⟨g, o, none⟩) h3
  have hf : ∀ o, W'.frozen? ⟨g, o, none⟩ = W.frozen? ⟨g, o, none⟩ := fun o => Below.frozen hx (p := ⟨g, o, none⟩) h3
  exact ⟨g, len, cap, e, h1, h2, Nat.lt_of_lt_of_le h3 hx.size, h4, h5, h6, fun j hj => by rw [hc, hf]; exact h7 j hj, fun hl => by rw [hc, hf]; exact h8 hl⟩
theorem FlipS.row {W : World} {B gx : Nat} {u : Value} (h : FlipS W B gx u) (o : Nat) (v : Value) : FlipS (W.setCell ⟨gx, o, none⟩ v) B gx u := by
  obtain ⟨g, len, cap, e, h1, h2, h3, h4, h5, h6, h7, h8⟩ := h
  have hc : ∀ p, (W.setCell ⟨gx, o, none⟩ v).cell? ⟨g, p, none⟩ = W.cell? ⟨g, p, none⟩ := fun p => World.cell?_setCell_other _ _ _ _ (by first | exact (fun h => h2 (congrArg Addr.block h)) | exact (fun h => h2 (congrArg Addr.block h).symm))
  refine ⟨g, len, cap, e, h1, h2, by simpa using h3, h4, h5, h6, fun j hj => ?_, fun hl => ?_⟩
  · rw [hc, World.frozen?_setCell]; exact h7 j hj
  · rw [hc, World.frozen?_setCell]; exact h8 hl
theorem FlipS.set {W : World} {B gx : Nat} {u : Value} (h : FlipS W B gx u) {g' p : Nat} (hs : (W.cell? ⟨g', p, none⟩).isSome = true) (d : UInt8) : FlipS (W.setCell ⟨g', p, none⟩ (.int .u8 (d.toNat : Int))) B gx u := by
  obtain ⟨g, len, cap, e, h1, h2, h3, h4, h5, h6, h7, h8⟩ := h
  refine ⟨g, len, cap, e, h1, h2, by simpa using h3, h4, h5, h6, fun j hj => ?_, fun hl => ?_⟩
  · rw [World.frozen?_setCell]
    by_cases he : (⟨g, 4 + j, none⟩ : Addr) = ⟨g', p, none⟩
    · obtain ⟨c, _, hf⟩ := h7 j hj
      exact ⟨d, by rw [he]; exact World.cell?_setCell_same' _ _ _ hs, hf⟩
    · rw [World.cell?_setCell_other _ _ _ _ (by first | exact he | exact Ne.symm he)]; exact h7 j hj
  · rw [World.frozen?_setCell]
    by_cases he : (⟨g, 4 + len, none⟩ : Addr) = ⟨g', p, none⟩
    · exact ⟨by rw [he, World.cell?_setCell_same' _ _ _ hs]; rfl, (h8 hl).2⟩
    · rw [World.cell?_setCell_other _ _ _ _ (by first | exact he | exact Ne.symm he)]; exact h8 hl

theorem FlipS.olds {W : World} {B gx g len cap : Nat} {u : Value} (h : FlipS W B gx u) (e : u = .slice (some ⟨g, 4, none⟩) len cap) :
    ∃ olds : List Value, olds.length = len ∧ (∀ (j : Nat) (x : Value), olds[j]? = some x → W.cell? ⟨g, 4 + j, none⟩ = some x) ∧ (len < cap → (W.cell? ⟨g, 4 + len, none⟩).isSome = true ∧ W.frozen? ⟨g, 4 + len, none⟩ = false) := by
  obtain ⟨g', len', cap', e', h1, h2, h3, h4, h5, h6, h7, h8⟩ := h
  rw [e'] at e
  simp only [Value.slice.injEq, Option.some.injEq, Addr.mk.injEq, and_true] at e
  obtain ⟨rfl, rfl, rfl⟩ := e
  refine ⟨(List.range len').map fun j => (W.cell? ⟨g', 4 + j, none⟩).getD undef, by simp, fun j x hx => ?_, h8⟩
  have hj : j < len' := by
    rcases Nat.lt_or_ge j len' with h | h
    · exact h
    · rw [List.getElem?_eq_none (by simpa using h)] at hx; cases hx
  obtain ⟨c, hc, _⟩ := h7 j hj
  rw [List.getElem?_map, List.getElem?_range hj] at hx
  simp only [Option.map_some, hc, Option.getD_some, Option.some.injEq] at hx
  rw [hc, hx]

/-- From place i on the row's cells hold such slices. -/
def RowI (W : World) (B gx n i : Nat) : Prop := gx < W.heap.size ∧ ∀ j, i ≤ j → j < n → ∃ u, W.cell? ⟨gx, j, none⟩ = some u ∧ W.frozen? ⟨gx, j, none⟩ = false ∧ FlipS W B gx u
theorem RowI.ext {W W' : World} {B gx n i : Nat} (h : RowI W B gx n i) (hx : Ext W W') : RowI W' B gx n i :=
  ⟨Nat.lt_of_lt_of_le h.1 hx.size, fun j h1 h2 => by
    obtain ⟨u, a, b, c⟩ := h.2 j h1 h2
    exact ⟨u, hx.cell a, (Below.frozen hx (p := ⟨gx, j, none⟩) h.1).trans b, c.ext hx⟩⟩
theorem RowI.set {W : World} {B gx n i : Nat} (h : RowI W B gx n i) {g' p : Nat} (hg : g' ≠ gx) (hs : (W.cell? ⟨g', p, none⟩).isSome = true) (d : UInt8) : RowI (W.setCell ⟨g', p, none⟩ (.int .u8 (d.toNat : Int))) B gx n i :=
  ⟨by simpa using h.1, fun j h1 h2 => by
    obtain ⟨u, a, b, c⟩ := h.2 j h1 h2
    exact ⟨u, by rw [World.cell?_setCell_other _ _ _ _ (by first | exact (fun h => hg (congrArg Addr.block h)) | exact (fun h => hg (congrArg Addr.block h).symm))]; exact a, by rw [World.frozen?_setCell]; exact b, c.set hs d⟩⟩
theorem RowI.next {W : World} {B gx n i : Nat} (h : RowI W B gx n i) (v : Value) : RowI (W.setCell ⟨gx, i, none⟩ v) B gx n (i + 1) :=
  ⟨by simpa using h.1, fun j h1 h2 => by
    obtain ⟨u, a, b, c⟩ := h.2 j (by omega) h2
    exact ⟨u, by rw [World.cell?_setCell_other _ _ _ _ (by intro h; have := congrArg Addr.off h; simp only at this; omega)]; exact a, by rw [World.frozen?_setCell]; exact b, c.row i v⟩⟩

theorem Rec.flip {W : World} {B gx : Nat} {u : Value} {r : List UInt8} (h : Rec W B u r) (hr : r.length ≤ 2048) (hgx : ∀ c fr, W.heap[gx]? ≠ some (.cells c 5 fr)) : FlipS W B gx u := by
  obtain ⟨g, cap, h4, e1, e2, h3, rfl⟩ := h
  obtain ⟨ho1, ho2⟩ := h3
  rcases ho2 with ⟨e, _⟩ | ⟨g', cap', cur, e, hb, hg, hn, hc, hs, ht⟩
  · cases e
  simp only [Value.slice.injEq, Option.some.injEq, Addr.mk.injEq, and_true] at e
  obtain ⟨rfl, en, rfl⟩ := e
  have hl : (h4 ++ r).length = 4 + r.length := by rw [List.length_append, e1]
  refine ⟨g, r.length, cap - 4, rfl, hb, fun e => hgx cur (0, 0) (e ▸ hg), (Array.getElem?_eq_some_iff.1 hg).1, by omega, by omega, hr, fun j hj => ⟨r[j], ?_, ?_⟩, fun hlt => ⟨?_, ?_⟩⟩
  · rw [cell_of_row _ _ _ _ _ _ hg]
    have hx : (cur.toList.take ((h4 ++ r).length * 1))[4 + j]? = some (.int .u8 (r[j].toNat : Int)) := by
      rw [ht, List.getElem?_map, List.getElem?_append_right (by omega), e1, Nat.add_sub_cancel_left]
      simp [hj]
    rw [List.getElem?_take] at hx
    split at hx
    · simpa using hx
    · cases hx
  · simp [World.frozen?, hg]
  · rw [cell_of_row _ _ _ _ _ _ hg]
    rw [Array.getElem?_eq_getElem (by omega)]; rfl
  · simp [World.frozen?, hg]

theorem app7 {ops : Array Oper} {Q : Exit → Act → World → Prop} {a : Act} {w W W0 : World} {rest : List Oper} {o : Oper} {B gx n k g m cap : Nat} (s x : Operand)
    (ho : o.op = .call { callee := .builtin .append, args := #[s, x], argTypes := #[22, 22] }) (hg : o.guard = none)
    (hs : a.eval s = .slice (some ⟨g, 4, none⟩) m cap) (hx : a.eval x = .slice (some ⟨W.heap.size, 0, none⟩) 1 1) (hw : w = W.alloc (.cells #[.int .u8 7] 5))
    (hri : RowI w B gx n k) (hfl : FlipS w B gx (.slice (some ⟨g, 4, none⟩) m cap)) (hY : Ext W0 w) (hB : W0.heap.size ≤ B)
    (h : ∀ b c e w', RowI w' B gx n k → Ext W0 w' → wpList Try.prog ops Q rest (a.put o.dst (.slice (some b) c e)) w') : wpList Try.prog ops Q (o :: rest) a w := by
  obtain ⟨olds, hol, holds, hspare⟩ := hfl.olds rfl
  obtain ⟨g', len', cap', e, f1, f2, f3, f4, f5, f6, f7, f8⟩ := hfl
  simp only [Value.slice.injEq, Option.some.injEq, Addr.mk.injEq, and_true] at e
  obtain ⟨rfl, rfl, rfl⟩ := e
  obtain ⟨i5, hi5, z5, s5, b5⟩ := info_parts info5
  subst hw
  refine wpList_append_arg _ hg s x 22 ho 5 i5 (.int .u8 0) 1 1 Try.underlying22 hi5 z5 s5 b5 (by decide) (by decide) g 4 m cap olds hs (by omega) holds ⟨W.heap.size, 0, none⟩ 1 1 [.int .u8 7] hx rfl (cell_one_new _ _ _) (by simp [Value.oneCell'])
    (fun hr j hj => ?_) (by simp only [maxLen]; omega) (by omega) (fun hroom => ?_) (fun hgr v' w6 hown hgrow => ?_)
  · have hj0 : j = 0 := by simpa using hj
    subst hj0
    rw [Nat.mul_one, Nat.add_zero]
    exact hspare (by omega)
  · have hc := (hspare (by omega)).1
    have e : (W.alloc (.cells #[.int .u8 7] 5)).setCells g (4 + m * 1) [.int .u8 7] = (W.alloc (.cells #[.int .u8 7] 5)).setCell ⟨g, 4 + m, none⟩ (.int .u8 (((7 : UInt8).toNat : Nat) : Int)) := by
      rw [Nat.mul_one]; rfl
    rw [e]
    exact h _ _ _ _ (hri.set f2 hc 7) (hY.setCell (p := ⟨g, 4 + m, none⟩) (Nat.le_trans hB f1) _)
  · have hx6 : Ext (W.alloc (.cells #[.int .u8 7] 5)) w6 := Below.grown (Below.refl _ _) hgrow (Nat.le_refl _) (by simp)
    obtain ⟨g6, c6, rfl⟩ := ownsRow_succ hown
    exact h _ _ _ _ (hri.ext hx6) (hY.trans hx6)

set_option maxHeartbeats 1000000 in
theorem frameSplits_any (w : World) (v0 : Value) (l : List UInt8) (h0 : Bytes w v0 l) (hn : l.length ≤ 20000000000000) :
    Calls Try.prog 11 #[v0] w fun e w' => e = .returned (.bool true) ∧ Ext w w' := by
  go_enter Try.func11, Try.ntmps11
  go_wp2_with (at_builtin; refine appB (.const (.slice none 0 0)) (.tmp 11) rfl rfl w.heap.size (OwnB.nil _ _) h0 (by simp; omega) (Nat.le_refl _) ?_; intro v2 w2 ho2 hg2; rw [List.nil_append] at ho2; have hx2 : Ext w w2 := (Ext.refl w).mono_grown (OwnB.nil w w.heap.size) (Nat.le_refl _) hg2; clear hg2)
  have k0 := h0.ext hx2; have k2 := ho2.bytes
  clear ho2 h0
  refine (split_any _ _ _ k2 (by omega)).mono ?_
  rintro e w3 ⟨x, us, rfl, hox, hrx, hx3⟩
  obtain ⟨hgood, hN, -⟩ := split_shape l.length l (Nat.le_refl _)
  clear hN
  generalize hNe : (splitF l).2 = N at *
  have HN := Lib.hid hNe; clear hNe
  have hflip : ∃ gx n cx a, x = .slice a n cx ∧ us.length = n ∧ n ≤ cx ∧ cx ≤ maxLen ∧ (0 < n → a = some ⟨gx, 0, none⟩ ∧ w2.heap.size ≤ gx ∧ RowI w3 w2.heap.size gx n 0) := by
    rcases hox.2 with ⟨rfl, h⟩ | ⟨g, cap, cur, rfl, hb, hg, hnc, hcm, hcs, ht⟩
    · exact ⟨0, 0, 0, none, rfl, h, Nat.le_refl _, by simp [maxLen], fun h => absurd h (by omega)⟩
    · refine ⟨g, us.length, cap, _, rfl, rfl, hnc, hcm, fun h => ⟨rfl, hb, (Array.getElem?_eq_some_iff.1 hg).1, fun j _ hj => ⟨us[j], ?_, ?_, ?_⟩⟩⟩
      · rw [cell_of_row _ _ _ _ _ _ hg]
        have hx : (cur.toList.take (us.length * 1))[j]? = some us[j] := by rw [ht]; simp [hj]
        rw [List.getElem?_take] at hx
        split at hx
        · simpa using hx
        · cases hx
      · simp [World.frozen?, hg]
      · have hj2 : j < (splitF l).1.length := by rw [← hrx.1]; exact hj
        exact Rec.flip (hrx.2 j us[j] ((splitF l).1[j]) (by simp [hj]) (by simp [hj2])) (hgood _ (List.getElem_mem hj2)).2 (fun c fr => by rw [hg]; simp)
  have hlx := Recs.lists hrx hox
  have j0 := k0.ext hx3; have j2 := k2.ext hx3
  clear hox hrx hgood
  obtain ⟨gx, n, cx, a, rfl, hus, hncx, hcx, hrow⟩ := hflip
  clear hus
  unfold maxLen at hcx
  go_wp2_with fail
  refine (rsplit_any _ _ l j0 (by omega)).mono ?_
  rintro e w4 ⟨y, rfl, hly, hx4⟩
  rw [HN.out]
  go_wp2_with fail
  refine (same_any _ _ _ (splitF l).1 (splitF l).1 (hlx.ext hx4) hly).mono ?_
  rintro e w5 ⟨rfl, hx5⟩
  have hs : decide ((splitF l).1 = (splitF l).1) = true := decide_eq_true rfl
  rw [hs]
  have hx45 := hx4.trans hx5
  have hY : Ext w2 w5 := hx3.trans hx45
  replace hrow := fun h => let ⟨a1, a2, a3⟩ := hrow h; And.intro a1 (And.intro a2 (RowI.ext a3 hx45))
  clear hs hlx hly hx4 hx5 hx45 hx3 j0 j2
  go_wp2_with fail
  go_loopw [9] (fun i wr => ∃ k : Nat, k ≤ n ∧ i = .int .i64 k ∧ (0 < n → a = some ⟨gx, 0, none⟩ ∧ w2.heap.size ≤ gx ∧ RowI wr w2.heap.size gx n k) ∧ Ext w2 wr) (fun i _ => n - (intOf i).toNat)
  case atStart => exact ⟨0, Nat.zero_le _, rfl, hrow, hY⟩
  case round =>
    clear hrow hY
    obtain ⟨k, hk, rfl, hrow, hY⟩ := hrel
    by_cases hlt : k < n
    · obtain ⟨rfl, hgb, hri⟩ := hrow (by omega)
      clear hrow
      obtain ⟨u, hu, huf, hfl⟩ := hri.2 k (Nat.le_refl _) hlt
      obtain ⟨g, len, cap, rfl, f1, f2, f3, f4, f5, f6, f7, f8⟩ := hfl
      unfold maxLen at f5
      clear f7 f8 f3
      go_wp2_with fail
      go_loopw [10] (fun i wr2 => ∃ m : Nat, m ≤ len ∧ i = .int .i64 m ∧ RowI wr2 w2.heap.size gx n k ∧ wr2.cell? ⟨gx, k, none⟩ = some (.slice (some ⟨g, 4, none⟩) len cap) ∧ Ext w2 wr2) (fun i _ => len - (intOf i).toNat)
      case atStart => exact ⟨0, Nat.zero_le _, rfl, hri, hu, hY⟩
      case round =>
        clear hri hu hY
        obtain ⟨m, hm, rfl, hri, hu, hY⟩ := hrel
        obtain ⟨u', hu', huf', hfl'⟩ := hri.2 k (Nat.le_refl _) hlt
        rw [hu] at hu'
        simp only [Option.some.injEq] at hu'
        subst hu'
        have hfl2 := hfl'
        obtain ⟨g', len', cap', e, f1', f2', f3', f4', f5', f6', f7, f8⟩ := hfl2
        simp only [Value.slice.injEq, Option.some.injEq, Addr.mk.injEq, and_true] at e
        obtain ⟨rfl, rfl, rfl⟩ := e
        by_cases hml : m < len
        · obtain ⟨c, hcell, hfr⟩ := f7 m hml
          have hfz := Lib.hid (flip_val c)
          have hb := byte_lt c
          clear f7 f8 hfl'
          go_wp2_with fail
          rw [hfz.out]
          go_roundw
          case rel =>
            refine ⟨m + 1, by omega, by go_num, hri.set f2 (by rw [hcell]; rfl) _, ?_, hY.setCell f1 _⟩
            rw [World.cell?_setCell_other _ _ _ _ (by first | exact (fun h => f2 (congrArg Addr.block h)) | exact (fun h => f2 (congrArg Addr.block h).symm))]
            exact hu
          case measure => simp [intOf]; omega
        · obtain rfl : m = len := by omega
          have hxa : Ext wr (wr.alloc (.cells #[.int .u8 7] 5)) := (Ext.refl wr).alloc _
          have hria := hri.ext hxa
          have hYa := hY.trans hxa
          have hfla := hfl'.ext hxa
          clear f7 f8 hfl' f3'
          go_wp2_with (at_builtin; refine app7 (.tmp 60) (.tmp 61) rfl rfl rfl rfl rfl hria hfla hYa (Nat.le_refl _) ?_; intro b6 n6 c6 w6 hri6 hY6; obtain ⟨u6, hu6, hf6, -⟩ := hri6.2 k (Nat.le_refl _) hlt)
          go_roundw
          case rel => exact ⟨k + 1, hlt, rfl, fun _ => ⟨trivial, hgb, hri6.next _⟩, hY6.setCell hgb _⟩
          case measure => simp [intOf]; omega
    · obtain rfl : k = n := by omega
      replace k0 := k0.ext hY
      have hm2 := k2.ext hY
      have hZ := hx2.trans hY
      have hb := beq_l l
      clear hrow hY
      go_wp2_with (first | (refine strB (.tmp 66) rfl rfl hm2 ?_) | (refine strB (.tmp 68) rfl rfl k0 ?_))
      refine (wakes11_any _).mono ?_
      rintro e w8 ⟨rfl, hx8⟩
      go_wp2_with fail
      go_ret
      exact ⟨rfl, hZ.trans hx8⟩

end Go.Proofs.Ytanlhpmebpebgaa
