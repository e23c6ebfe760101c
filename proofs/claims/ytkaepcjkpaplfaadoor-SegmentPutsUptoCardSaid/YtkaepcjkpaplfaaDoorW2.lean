/- Frames: what four, number, Put and Take answer. -/
import Derived.Test.YtkaepcjkpaplfaaDoorW1
import Derived.Test.YtkaepcjkpaplfaaDoorC2
import Derived.Lib.SlBytesConst
namespace Go.Proofs.YtkaepcjkpaplfaaDoor
open Go.RowKit

def byteV (b : UInt8) : Value := .int .u8 (b.toNat : Int)
def OwnB (w : World) (base : Nat) (v : Value) (l : List UInt8) : Prop := w.ownsRow base 5 1 v l.length (l.map fun b => Value.int .u8 (b.toNat : Int))
theorem OwnB.bytes {w : World} {base : Nat} {v : Value} {l : List UInt8} (h : OwnB w base v l) : Bytes w v l := Row.of_own h
theorem OwnB.nil (w : World) (base : Nat) : OwnB w base (.slice none 0 0) [] := World.ownsRow_nil w base 5 1
theorem OwnB.mono {w : World} {base base' : Nat} {v : Value} {l : List UInt8} (h : OwnB w base v l) (hb : base' ≤ base) : OwnB w base' v l := by
  obtain ⟨h1, h2⟩ := h
  refine ⟨h1, ?_⟩
  rcases h2 with h2 | ⟨g, cap, cur, hv, hg, r⟩
  · exact .inl h2
  · exact .inr ⟨g, cap, cur, hv, by omega, r⟩
theorem OwnB.ext {w w' : World} {base : Nat} {v : Value} {l : List UInt8} (h : OwnB w base v l) (hx : Ext w w') : OwnB w' base v l := by
  obtain ⟨h1, h2⟩ := h
  refine ⟨h1, ?_⟩
  rcases h2 with h2 | ⟨g, cap, cur, hv, hg, hh, r⟩
  · exact .inl h2
  · exact .inr ⟨g, cap, cur, hv, hg, by rw [hx.block g (Array.getElem?_eq_some_iff.1 hh).1]; exact hh, r⟩

def Fact.bytes (l : List UInt8) : Fact := ⟨fun v w => Bytes w v l, fun _ _ _ hx h => h.ext hx⟩
def Fact.own (base : Nat) (l : List UInt8) : Fact := ⟨fun v w => OwnB w base v l, fun _ _ _ hx h => h.ext hx⟩

theorem info5 : (Tryd.prog.info? 5).map (fun i => (i.zero, i.size, i.bytes)) = some (some (.int .u8 0), 1, 1) := by kernel_rfl
theorem info5s : (Tryd.prog.info? 5).map (·.size) = some 1 := by kernel_rfl
theorem oneB (l : List UInt8) : ∀ u ∈ l.map (fun b => Value.int .u8 (b.toNat : Int)), u.oneCell' = true := by
  intro u hu
  obtain ⟨b, _, rfl⟩ := List.mem_map.1 hu
  rfl

theorem Ext.mono_grown {W w w' : World} {v : Value} {base : Nat} {l : List UInt8} (h : Ext W w) (ho : OwnB w base v l) (hb : W.heap.size ≤ base) (hg : w.grownBy w' v.ownBlock) : Ext W w' :=
  Below.grown h hg h.size fun k hk => Nat.le_trans hb (ho.lt k hk).1

/-- 'append(s, x...)' of bytes. -/
theorem appB {ops : Array Oper} {Q : Exit → Act → World → Prop} {a : Act} {w : World} {rest : List Oper} {o : Oper}
    (s x : Operand) (ho : o.op = .call { callee := .builtin .append, args := #[s, x], argTypes := #[34, 34] })
    (hw : Region.wanted o (yielded ops a.tmps) = true) (base : Nat) {l m : List UInt8} (hs : OwnB w base (a.eval s) l) (hx : Bytes w (a.eval x) m)
    (hlen : l.length + m.length ≤ 140737488355328) (hbase : base ≤ w.heap.size)
    (h : ∀ v' w', OwnB w' base v' (l ++ m) → w.grownBy w' (a.eval s).ownBlock → wpList Tryd.prog ops Q rest (a.put o.dst v') w') : wpList Tryd.prog ops Q (o :: rest) a w :=
  wpList_append_row 34 5 s x ho base (.int .u8 0) 1 1 Tryd.underlying34 info5 rfl (by decide) hw _ _ _ rfl hs _ _ hx (oneB m) (by omega) (by simp only [maxLen]; omega) hbase
    fun v' w' h1 h2 => h v' w' (by unfold OwnB; simpa using h1) h2

theorem cutB {ops : Array Oper} {Q : Exit → Act → World → Prop} {a : Act} {w : World} {rest : List Oper} {o : Oper}
    (x : Operand) (lo hi : Option Operand) (i j : Nat) {l : List UInt8} (ho : o.op = .slice 34 x lo hi none)
    (hw : Region.wanted o (yielded ops a.tmps) = true) (hx : Bytes w (a.eval x) l)
    (hlo : BoundIs a lo 0 i) (hhi : BoundIs a hi l.length j) (hij : i ≤ j) (hj : j ≤ l.length)
    (h : ∀ v, Bytes w v ((l.take j).drop i) → wpList Tryd.prog ops Q rest (a.put o.dst v) w) : wpList Tryd.prog ops Q (o :: rest) a w :=
  wpList_cut 34 5 x lo hi 1 l.length i j _ ho Tryd.underlying34 info5s hw hx hlo hhi hij hj fun v hv => h v (by
    unfold Bytes
    have e1 : ((l.take j).drop i).length = j - i := by simp; omega
    rw [e1]
    simpa [List.map_drop, List.map_take] using hv)

theorem OwnB.at {w : World} {base g n cap : Nat} {l : List UInt8} (h : OwnB w base (.slice (some ⟨g, 0, none⟩) n cap) l) {k : Nat} (hk : k < l.length) :
    w.cell? ⟨g, k, none⟩ = some (.int .u8 (l[k].toNat : Int)) ∧ w.frozen? ⟨g, k, none⟩ = false := by
  rcases h.2 with ⟨e, _⟩ | ⟨g', c', cur, e, _, hg, _, _, _, ht⟩
  · cases e
  · simp only [Value.slice.injEq, Option.some.injEq, Addr.mk.injEq, and_true] at e
    obtain ⟨rfl, -, -⟩ := e
    refine ⟨?_, by simp [World.frozen?, hg]⟩
    have hj : (l.map fun b => Value.int .u8 (b.toNat : Int))[k]? = some (.int .u8 (l[k].toNat : Int)) := by simp [hk]
    rw [cell_of_row w g k cur 5 (0, 0) hg]
    rw [← ht, List.getElem?_take] at hj
    split at hj
    · simpa using hj
    · cases hj

theorem OwnB.set {w : World} {base g n cap : Nat} {l : List UInt8} (h : OwnB w base (.slice (some ⟨g, 0, none⟩) n cap) l) {k : Nat} (_hk : k < l.length) (c : UInt8) :
    OwnB (w.setCell ⟨g, k, none⟩ (.int .u8 (c.toNat : Int))) base (.slice (some ⟨g, 0, none⟩) n cap) (l.set k c) := by
  have hn : n = l.length := by
    rcases h.2 with ⟨e, _⟩ | ⟨g', c', cur, e, _⟩
    · cases e
    · simp only [Value.slice.injEq] at e; exact e.2.1
  subst hn
  have := World.ownsRow.stored h k (.int .u8 (c.toNat : Int))
  unfold OwnB
  rw [List.length_set, List.map_set]
  exact this.1

theorem Bytes.get {w : World} {a : Option Addr} {n cap : Nat} {l : List UInt8} (h : Bytes w (.slice a n cap) l) {k : Nat} (hk : k < l.length) :
    ∃ b o c, a = some ⟨b, o, none⟩ ∧ l[k]? = some c ∧ w.cell? ⟨b, o + k, none⟩ = some (.int .u8 (c.toNat : Int)) := by
  obtain ⟨b, o, h1, h2⟩ := h.at hk
  exact ⟨b, o, l[k], h1, by simp [hk], h2⟩
theorem OwnB.get {w : World} {base g n cap : Nat} {l : List UInt8} (h : OwnB w base (.slice (some ⟨g, 0, none⟩) n cap) l) {k : Nat} (hk : k < l.length) :
    ∃ c, l[k]? = some c ∧ w.cell? ⟨g, k, none⟩ = some (.int .u8 (c.toNat : Int)) ∧ w.frozen? ⟨g, k, none⟩ = false :=
  ⟨l[k], by simp [hk], (h.at hk).1, (h.at hk).2⟩

theorem OwnB.own_shape {w : World} {base : Nat} {v : Value} {l : List UInt8} (h : OwnB w base v l) :
    (v = .slice none 0 0 ∧ l = []) ∨ ∃ g cap, v = .slice (some ⟨g, 0, none⟩) l.length cap ∧ base ≤ g ∧ g < w.heap.size ∧ l.length ≤ cap ∧ cap ≤ maxLen := by
  rcases h.2 with ⟨e, h0⟩ | ⟨g, c, cur, e, hb, hg, hn, hc, _⟩
  · exact .inl ⟨e, List.eq_nil_of_length_eq_zero h0⟩
  · exact .inr ⟨g, c, e, hb, (Array.getElem?_eq_some_iff.1 hg).1, hn, hc⟩

/-- n bytes of the call's own, whatever they are. -/
def Mut (w : World) (base : Nat) (v : Value) (n : Nat) : Prop := ∃ l : List UInt8, l.length = n ∧ OwnB w base v l
theorem OwnB.mut {w : World} {base : Nat} {v : Value} {l : List UInt8} (h : OwnB w base v l) : Mut w base v l.length := ⟨l, rfl, h⟩
theorem Mut.get {w : World} {base n cap : Nat} {a : Option Addr} (h : Mut w base (.slice a n cap) n) {k : Nat} (hk : k < n) :
    ∃ g c, a = some ⟨g, 0, none⟩ ∧ base ≤ g ∧ w.cell? ⟨g, k, none⟩ = some (.int .u8 ((c : UInt8).toNat : Int)) ∧ w.frozen? ⟨g, k, none⟩ = false ∧
      ∀ d : UInt8, Mut (w.setCell ⟨g, k, none⟩ (.int .u8 (d.toNat : Int))) base (.slice a n cap) n := by
  obtain ⟨l, rfl, ho⟩ := h
  rcases ho.own_shape with ⟨e, rfl⟩ | ⟨g, c', e, hb, hlt, _, _⟩
  · simp at hk
  · simp only [Value.slice.injEq] at e
    obtain ⟨rfl, -, rfl⟩ := e
    obtain ⟨c, _, h1, h2⟩ := ho.get hk
    exact ⟨g, c, rfl, hb, h1, h2, fun d => ⟨l.set k d, by simp, ho.set hk d⟩⟩
theorem Mut.other {w : World} {base n : Nat} {v : Value} (h : Mut w base v n) {p : Addr} (hp : p.block < base) (u : Value) : Mut (w.setCell p u) base v n := by
  obtain ⟨l, h1, h2⟩ := h
  exact ⟨l, h1, ownsRow_setCell_below h2 hp u⟩
theorem Mut.ext {w w' : World} {base n : Nat} {v : Value} (h : Mut w base v n) (hx : Ext w w') : Mut w' base v n := by
  obtain ⟨l, h1, h2⟩ := h; exact ⟨l, h1, h2.ext hx⟩
theorem Mut.shape {w : World} {base n : Nat} {v : Value} (h : Mut w base v n) : ∃ a cap, v = .slice a n cap ∧ n ≤ cap ∧ cap ≤ maxLen := by
  obtain ⟨l, rfl, h2⟩ := h; exact h2.bytes.shape
theorem flip_val (c : UInt8) : Value.int .u8 (bits .xor .u8 (c.toNat : Int) 1) = .int .u8 ((c ^^^ 1).toNat : Int) := by
  have := u8_xor_nat c.toNat 1 (byte_lt c) (by omega)
  rw [show ((1 : Int)) = ((1 : Nat) : Int) from rfl, this, UInt8.toNat_xor]; rfl

theorem makeB {ops : Array Oper} {Q : Exit → Act → World → Prop} {a : Act} {w : World} {rest : List Oper} {o : Oper}
    (l c : Operand) (ho : o.op = .makeSlice 34 l c) (hg : o.guard = none) (n : Nat) (hl : a.eval l = .int .i64 n) (hc : a.eval c = .int .i64 n) (hn : n ≤ 281474976710656) (base : Nat) (hb : base ≤ w.heap.size)
    (h : ∀ w', OwnB w' base (.slice (some ⟨w.heap.size, 0, none⟩) n n) (List.replicate n 0) → w.grownBy w' none → wpList Tryd.prog ops Q rest (a.put o.dst (.slice (some ⟨w.heap.size, 0, none⟩) n n)) w') : wpList Tryd.prog ops Q (o :: rest) a w := by
  obtain ⟨i5, hi5, z5, s5, b5⟩ := info_parts info5
  refine wpList_make_full w hg l c 34 ho base 5 i5 (.int .u8 0) 1 Tryd.underlying34 hi5 z5 s5 .i64 .i64 n n n hl hc rfl rfl (by rw [b5]; omega) (by simp only [maxLen]; omega) hb fun w' h1 h2 => h w' ?_ h2
  unfold OwnB
  have e : (madeCells (Value.int .u8 0).cells (n * 1)).toList = (List.replicate n (0 : UInt8)).map fun b => Value.int .u8 (b.toNat : Int) := by
    rw [Nat.mul_one]
    have := toList_madeCells_one (Value.int .u8 0) n
    rw [show (Value.int IntKind.u8 0).cells = #[Value.int .u8 0] from rfl, this]; simp
  rw [e] at h1
  simpa using h1

theorem strB {ops : Array Oper} {Q : Exit → Act → World → Prop} {a : Act} {w : World} {rest : List Oper} {o : Oper}
    (x : Operand) {l : List UInt8} (ho : o.op = .convert 34 9 x)
    (hw : Region.wanted o (yielded ops a.tmps) = true) (hx : Bytes w (a.eval x) l)
    (h : wpList Tryd.prog ops Q rest (a.put o.dst (.string (strOf l))) w) : wpList Tryd.prog ops Q (o :: rest) a w :=
  wpList_str 34 9 5 x l ho Tryd.underlying34 Tryd.underlying5 Tryd.underlying9 hw hx h

theorem Ext.drewN (w : World) (n : Nat) : Ext w (w.drewN n) := ⟨rfl, rfl, rfl, Nat.le_refl _, fun _ _ => rfl⟩

theorem four_val (n : Nat) : [Value.int .u8 ((n : Int) % 256), Value.int .u8 ((n : Int) / 256 % 256), Value.int .u8 ((n : Int) / 65536 % 256), Value.int .u8 ((n : Int) / 16777216 % 256)] =
    (fourF n).map fun b => Value.int .u8 (b.toNat : Int) := by
  simp [fourF, UInt8.toNat_ofNat']

set_option maxHeartbeats 400000 in
theorem four_any (n : Nat) (w : World) (h : n < 4294967296) :
    Calls Tryd.prog 62 #[.int .u32 n] w fun e w' => ∃ v, e = .returned v ∧ OwnB w' w.heap.size v (fourF n) ∧ Ext w w' := by
  go_enter Tryd.func62, Tryd.ntmps62
  go_wp2
  go_ret
  refine ⟨_, rfl, ?_, (Ext.refl w).alloc _⟩
  unfold OwnB
  rw [← four_val]
  have e : ((n : Int) / 16777216) = (n : Int) / 16777216 % 256 := by omega
  rw [← e]
  exact World.ownsRow_lit w _ 4 (Nat.le_refl _) (by decide) rfl

theorem or_add (i a b : Nat) (h : a < 2 ^ i) : a ||| b * 2 ^ i = a + b * 2 ^ i := by
  have := Nat.two_pow_add_eq_or_of_lt h b
  rw [Nat.or_comm, Nat.mul_comm b, ← this, Nat.add_comm]

theorem num_or (a b c d : UInt8) : Value.int .u32 (bits .or .u32 (bits .or .u32 (bits .or .u32 (a.toNat : Int) ((b.toNat : Int) * 256)) ((c.toNat : Int) * 65536)) ((d.toNat : Int) * 16777216)) =
    .int .u32 ((a.toNat + 256 * b.toNat + 65536 * c.toNat + 16777216 * d.toNat : Nat) : Int) := by
  have ha := byte_lt a; have hb := byte_lt b; have hc := byte_lt c; have hd := byte_lt d
  have e1 : ((b.toNat : Int) * 256) = ((b.toNat * 256 : Nat) : Int) := by omega
  have e2 : ((c.toNat : Int) * 65536) = ((c.toNat * 65536 : Nat) : Int) := by omega
  have e3 : ((d.toNat : Int) * 16777216) = ((d.toNat * 16777216 : Nat) : Int) := by omega
  have o1 : a.toNat ||| b.toNat * 256 = a.toNat + b.toNat * 256 := or_add 8 _ _ ha
  have o2 : (a.toNat + b.toNat * 256) ||| c.toNat * 65536 = a.toNat + b.toNat * 256 + c.toNat * 65536 := or_add 16 _ _ (by omega)
  have o3 : (a.toNat + b.toNat * 256 + c.toNat * 65536) ||| d.toNat * 16777216 = a.toNat + b.toNat * 256 + c.toNat * 65536 + d.toNat * 16777216 := or_add 24 _ _ (by omega)
  rw [e1, e2, e3, u32_or_nat _ _ (by omega) (by omega), o1, u32_or_nat _ _ (by omega) (by omega), o2, u32_or_nat _ _ (by omega) (by omega), o3]
  congr 2
  omega

set_option maxHeartbeats 400000 in
theorem number_any (w : World) (v : Value) (l : List UInt8) (hl : Bytes w v l) (h4 : 4 ≤ l.length) :
    Calls Tryd.prog 75 #[v] w fun e w' => e = .returned (.int .u32 (numF l)) ∧ Ext w w' := by
  obtain ⟨a, cap, rfl, hc, hm⟩ := hl.shape
  obtain ⟨b, o, rfl, h0⟩ := hl.at (k := 0) (by omega)
  obtain ⟨b', o', e', h1⟩ := hl.at (k := 1) (by omega)
  simp only [Option.some.injEq, Addr.mk.injEq, and_true] at e'; obtain ⟨rfl, rfl⟩ := e'
  obtain ⟨b', o', e', h2⟩ := hl.at (k := 2) (by omega)
  simp only [Option.some.injEq, Addr.mk.injEq, and_true] at e'; obtain ⟨rfl, rfl⟩ := e'
  obtain ⟨b', o', e', h3⟩ := hl.at (k := 3) (by omega)
  simp only [Option.some.injEq, Addr.mk.injEq, and_true] at e'; obtain ⟨rfl, rfl⟩ := e'
  simp only [Nat.add_zero] at h0
  have hn : (numF l : Nat) = (l[0].toNat + 256 * l[1].toNat + 65536 * l[2].toNat + 16777216 * l[3].toNat) := by
    match l, h4 with
    | a :: b :: c :: d :: r, _ => rfl
  have HN := Lib.hid hn; clear hn
  have b0 := byte_lt l[0]; have b1 := byte_lt l[1]; have b2 := byte_lt l[2]; have b3 := byte_lt l[3]
  generalize l[0] = c0 at *; generalize l[1] = c1 at *; generalize l[2] = c2 at *; generalize l[3] = c3 at *
  clear hl hc hm
  have g0 : (0 : Int) < l.length := by omega
  have g1 : (1 : Int) < l.length := by omega
  have g2 : (2 : Int) < l.length := by omega
  have g3 : (3 : Int) < l.length := by omega
  generalize l.length = n at *
  go_enter Tryd.func75, Tryd.ntmps75
  go_wp2
  go_quiet (fail)
  go_wp2
  rw [num_or]
  go_ret
  exact ⟨by rw [HN.out]; rfl, Ext.drewN _ _⟩

set_option maxHeartbeats 400000 in
theorem put_any (w : World) (v : Value) (l : List UInt8) (hl : Bytes w v l) (hn : l.length ≤ 140737488351232) :
    Calls Tryd.prog 48 #[v] w fun e w' => ∃ v', e = .returned v' ∧ OwnB w' w.heap.size v' (putF l) ∧ Ext w w' := by
  go_enter Tryd.func48, Tryd.ntmps48
  go_wp2_with (at_builtin; refine appB (.const (.slice none 0 0)) (.tmp 3) rfl rfl w.heap.size (OwnB.nil _ _) hl (by simp; omega) (Nat.le_refl _) ?_; intro v1 w1 ho1 hg1)
  have hx1 : Ext w w1 := (Ext.refl w).mono_grown (OwnB.nil w w.heap.size) (Nat.le_refl _) hg1
  refine (sum_any w1 v l (hl.ext hx1)).mono ?_
  rintro e w2 ⟨rfl, hx2⟩
  go_wp2_with fail
  refine (four_any _ w2 (sumF_lt l)).mono ?_
  rintro e w3 ⟨v3, rfl, ho3, hx3⟩
  have ho := (ho1.ext hx2).ext hx3
  have hx := (hx1.trans hx2).trans hx3
  clear ho1 hg1 hx1 hx2 hx3
  go_wp2_with (at_builtin; refine appB (.tmp 4) (.tmp 7) rfl rfl w.heap.size ho ho3.bytes (by simp [fourF]; omega) hx.size ?_; intro v4 w4 ho4 hg4)
  have hx4 : Ext w w4 := hx.mono_grown ho (Nat.le_refl _) hg4
  clear ho ho3 hx hg4
  go_ret
  exact ⟨_, rfl, ho4, hx4⟩

set_option maxHeartbeats 400000 in
theorem take_any (w : World) (v : Value) (l : List UInt8) (hl : Bytes w v l) (hn : l.length ≤ 140737488355328) :
    Calls Tryd.prog 68 #[v] w fun e w' => ∃ v', e = .returned (.tuple #[v', .int .i64 (takeF l).2]) ∧ OwnB w' w.heap.size v' (takeF l).1 ∧ Ext w w' := by
  obtain ⟨a, cap, rfl, hc, hm⟩ := hl.shape
  unfold maxLen at hm
  by_cases h4 : l.length < 4
  · have hd : decide ((l.length : Int) - 4 < 0) = true := by simp; omega
    go_enter Tryd.func68, Tryd.ntmps68
    go_wp2_with fail
    go_ret2
    refine ⟨.slice none 0 0, ?_, ?_, Ext.refl w⟩
    · rw [takeF, if_pos h4]; rfl
    · rw [takeF, if_pos h4]; exact OwnB.nil _ _
  · have hd : decide ((l.length : Int) - 4 < 0) = false := by simp; omega
    go_enter Tryd.func68, Tryd.ntmps68
    go_wp2_with fail
    have h4' : 4 ≤ l.length := by omega
    have en : ((l.length : Int) - 4).toNat = l.length - 4 := by omega
    have e0 : (0 : Int) ≤ (l.length : Int) - 4 := by omega
    have EN := Lib.hid en; clear en
    refine wp_region_facts [Fact.eq (.slice a l.length cap),
        Fact.eq (.int .i64 ((l.length : Int) - 4)),
        Fact.bytes (l.drop (l.length - 4)),
        Fact.eq (.int .u32 (numF (l.drop (l.length - 4)) : Nat)),
        Fact.eq (.slice a l.length cap),
        Fact.eq (.int .i64 ((l.length : Int) - 4)),
        Fact.bytes (l.take (l.length - 4)),
        Fact.eq (.int .u32 (sumF (l.take (l.length - 4)) : Nat)),
        Fact.eq (.bool (((numF (l.drop (l.length - 4)) : Nat) : Int) != (sumF (l.take (l.length - 4)) : Nat))),
        Fact.eq (.bool (((numF (l.drop (l.length - 4)) : Nat) : Int) != (sumF (l.take (l.length - 4)) : Nat)))]
      [[], [], [(0, 12), (1, 13)], [(2, 14)], [], [], [(4, 16), (5, 17)], [(6, 18)], [(3, 15), (7, 19)], [(8, 20)]]
      [(0, 12), (1, 13), (2, 14), (3, 15), (4, 16), (5, 17), (6, 18), (7, 19), (8, 20), (9, 11)] (by kernel_rfl) (by kernel_rfl) ?_ ?_
    · refine ⟨?_, ?_, ?_, ?_, ?_, ?_, ?_, ?_, ?_, ?_, trivial⟩
      · intro w1 hx1; change wpList _ _ _ _ _ _; exact ob_move rfl rfl rfl rfl rfl
      · intro w1 hx1; change wpList _ _ _ _ _ _; exact ob_move rfl rfl rfl rfl rfl
      · intro w1 hx1; rintro _ rfl; rintro _ rfl; change wpList _ _ _ _ _ _; refine cutB _ _ _ (l.length - 4) l.length rfl rfl (hl.ext hx1) ⟨_, _, rfl, e0, EN.out⟩ rfl (by omega) (Nat.le_refl _) ?_; intro v hv; rw [List.take_length] at hv; exact wpList_nil ⟨rfl, Ext.refl _, rfl, hv⟩
      · intro w1 hx1; intro v14 h14; change wpList _ _ _ _ _ _; go_wp2_with fail; refine (number_any w1 _ _ h14 (by simp; omega)).mono ?_; rintro e w2 ⟨rfl, hx2⟩; go_wp2_with fail; exact ⟨rfl, hx2, rfl, rfl⟩
      · intro w1 hx1; change wpList _ _ _ _ _ _; exact ob_move rfl rfl rfl rfl rfl
      · intro w1 hx1; change wpList _ _ _ _ _ _; exact ob_move rfl rfl rfl rfl rfl
      · intro w1 hx1; rintro _ rfl; rintro _ rfl; change wpList _ _ _ _ _ _; refine cutB _ _ _ 0 (l.length - 4) rfl rfl (hl.ext hx1) rfl ⟨_, _, rfl, e0, EN.out⟩ (by omega) (by omega) ?_; intro v hv; exact wpList_nil ⟨rfl, Ext.refl _, rfl, hv⟩
      · intro w1 hx1; intro v18 h18; change wpList _ _ _ _ _ _; go_wp2_with fail; refine (sum_any w1 _ _ h18).mono ?_; rintro e w2 ⟨rfl, hx2⟩; go_wp2_with fail; exact ⟨rfl, hx2, rfl, rfl⟩
      · intro w1 hx1; rintro _ rfl; rintro _ rfl; change wpList _ _ _ _ _ _; go_wp2_with fail; exact ⟨rfl, Ext.refl _, rfl, rfl⟩
      · intro w1 hx1; rintro _ rfl; change wpList _ _ _ _ _ _; exact ob_assign rfl rfl rfl rfl rfl
    · intro w1 hx1; rintro _ rfl; rintro _ rfl; intro v14 h14; rintro _ rfl; rintro _ rfl; rintro _ rfl; intro v18 h18; rintro _ rfl; rintro _ rfl; rintro _ rfl; refine depsThen_nil ?_; dsimp only; simp only [Act.put, List.setIfInBounds_toArray, List.set_cons_zero, List.set_cons_succ]
      replace h14 : Bytes w1 v14 (l.drop (l.length - 4)) := h14
      replace h18 : Bytes w1 v18 (l.take (l.length - 4)) := h18
      clear hd h14 h18
      have hres : takeF l = if numF (l.drop (l.length - 4)) = sumF (l.take (l.length - 4)) then (l.take (l.length - 4), 0) else ([], 5) := by
        rw [takeF, if_neg h4]; simp only [take_test h4']
      generalize numF (l.drop (l.length - 4)) = N at hres ⊢
      generalize sumF (l.take (l.length - 4)) = S at hres ⊢
      by_cases ht : N = S
      · rw [if_pos ht] at hres
        have HR := Lib.hid hres; clear hres
        have hd : ((N : Int) != (S : Int)) = false := by simp [ht]
        clear ht
        go_wp2_with (first | (refine cutB (.tmp 21) none (some (.tmp 22)) 0 (l.length - 4) rfl rfl (hl.ext hx1) rfl ⟨_, _, rfl, e0, EN.out⟩ (by omega) (by omega) ?_; intro v23 h23; rw [List.drop_zero] at h23) | (at_builtin; refine appB (.const (.slice none 0 0)) (.tmp 23) rfl rfl w.heap.size (OwnB.nil _ _) h23 (by simp; omega) hx1.size ?_; intro v24 w2 ho2 hg2))
        have hx2 : Ext w w2 := hx1.mono_grown (OwnB.nil w1 w.heap.size) (Nat.le_refl _) hg2
        go_ret2
        refine ⟨v24, ?_, ?_, hx2⟩
        · rw [HR.out]; rfl
        · rw [HR.out]; exact ho2
      · rw [if_neg ht] at hres
        have HR := Lib.hid hres; clear hres
        have hd : ((N : Int) != (S : Int)) = true := by simp; omega
        clear ht
        go_wp2_with fail
        go_ret2
        refine ⟨.slice none 0 0, ?_, ?_, hx1⟩
        · rw [HR.out]; rfl
        · rw [HR.out]; exact OwnB.nil _ _

theorem size_alloc' (w : World) (o : Obj) : (w.alloc o).heap.size = w.heap.size + 1 := by simp
theorem bytes_lit1 (w : World) (q : Nat) : Bytes (w.alloc (.cells #[.int .u8 ((q : Int) % 256)] 5)) (.slice (some ⟨w.heap.size, 0, none⟩) 1 1) [UInt8.ofNat q] := by
  refine Row.of_own (base := w.heap.size) (e := 5) ?_
  have := World.ownsRow_lit (base := w.heap.size) (e := 5) (size := 1) w #[.int .u8 ((q : Int) % 256)] 1 (Nat.le_refl _) (by decide) rfl
  have e : (((UInt8.ofNat q).toNat : Nat) : Int) = (q : Int) % 256 := by rw [UInt8.toNat_ofNat']; omega
  simp only [List.length_singleton, List.map_cons, List.map_nil, e]
  exact this

theorem four_step (s : Nat) (k : Nat) (hk : k < 4) : (fourF s).take (k + 1) = (fourF s).take k ++ [UInt8.ofNat (s / 256 ^ k)] := by
  match k, hk with
  | 0, _ => simp [fourF]
  | 1, _ => simp [fourF]
  | 2, _ => simp [fourF]
  | 3, _ => simp [fourF]

set_option maxHeartbeats 400000 in
theorem ref_put (w : World) (v : Value) (l : List UInt8) (hl : Bytes w v l) (hn : l.length ≤ 140737488351232) :
    Calls Tryd.prog 51 #[v] w fun e w' => ∃ v', e = .returned v' ∧ OwnB w' w.heap.size v' (putF l) ∧ Ext w w' := by
  go_enter Tryd.func51, Tryd.ntmps51
  go_wp2_with (first | (go_at_call 64; refine (ref_sum _ _ l hl).mono ?_; rintro e w1 ⟨rfl, rfl⟩) | (at_builtin; refine appB (.tmp 8) (.tmp 9) rfl rfl w.heap.size (OwnB.nil _ _) hl (by simp; omega) (Nat.le_refl _) ?_; intro v1 w1 ho1 hg1))
  have hx1 : Ext w w1 := (Ext.refl w).mono_grown (OwnB.nil w w.heap.size) (Nat.le_refl _) hg1
  rw [List.nil_append] at ho1
  have hs := sumF_lt l
  generalize hsv : sumF l = s at hs ⊢
  have HS := Lib.hid hsv; clear hsv
  go_loopw [3, 4, 5] (fun t v i wr => ∃ k : Nat, k ≤ 4 ∧ i = .int .i64 k ∧ t = .int .u32 (s / 256 ^ k : Nat) ∧ OwnB wr w.heap.size v (l ++ (fourF s).take k) ∧ Ext w wr) (fun _ _ i _ => 4 - (intOf i).toNat)
  case atStart => exact ⟨0, by omega, rfl, by simp, by simpa using ho1, hx1⟩
  case round =>
    clear hg1 ho1 hx1
    obtain ⟨k, hk, rfl, rfl, ho, hx⟩ := hrel
    by_cases hlt : k < 4
    · have hd : decide ((k : Int) < 4) = true := by simp; omega
      have hq : s / 256 ^ k < 4294967296 := Nat.lt_of_le_of_lt (Nat.div_le_self _ _) hs
      have hst := Lib.hid (four_step s k hlt)
      have hq2 : Hid (s / 256 ^ (k + 1) = s / 256 ^ k / 256) := by
        show _ = _
        rw [Nat.pow_succ, Nat.div_div_eq_div_mul]
      generalize s / 256 ^ k = q at hq hst hq2 ⊢
      go_wp2_with (at_builtin; refine appB (.tmp 15) (.tmp 19) rfl rfl w.heap.size (ho.ext ((Ext.refl wr).alloc _)) (bytes_lit1 wr q) (by simp [fourF]; omega) (by simp only [size_alloc']; exact Nat.le_succ_of_le hx.size) ?_; intro v2 w2 ho2 hg2)
      have hx2 : Ext w w2 := (hx.alloc _).mono_grown (ho.ext ((Ext.refl wr).alloc _)) (Nat.le_refl _) hg2
      go_roundw
      case rel => exact ⟨k + 1, by omega, by go_num, by rw [hq2.out]; simp, by rw [hst.out, ← List.append_assoc]; exact ho2, hx2⟩
      case measure => simp [intOf]; omega
    · have hd : decide ((k : Int) < 4) = false := by simp; omega
      obtain rfl : k = 4 := by omega
      go_wp2_with fail
      go_ret
      refine ⟨_, rfl, ?_, hx⟩
      unfold putF
      rw [HS.out]; exact ho
theorem beq_l (l : List UInt8) : (l == l) = true := by simp

theorem bytes_lit (w : World) (C : Array Value) (fr : Nat × Nat) (n : Nat) (l : List UInt8) (hC : C.toList = l.map fun b => Value.int .u8 (b.toNat : Int)) (hn : l.length = n) (hm : n ≤ maxLen) :
    Bytes (w.alloc (.cells C 5 fr)) (.slice (some ⟨w.heap.size, 0, none⟩) n n) l := by
  subst hn
  refine ⟨by simp, _, _, rfl, Nat.le_refl _, hm, by simp, by simp, fun j u hj => ⟨_, rfl, ?_⟩⟩
  rw [Nat.zero_add, cell_of_row _ _ _ _ _ _ (heap_alloc_new _ _), ← Array.getElem?_toList, hC]
  exact hj

end Go.Proofs.YtkaepcjkpaplfaaDoor
