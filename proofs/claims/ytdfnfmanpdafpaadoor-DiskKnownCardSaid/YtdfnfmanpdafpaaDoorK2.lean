/- Laws for slices that are only read, told by what they hold: cutting, conversion to a string, appending behind memory of the call's own. -/
import Derived.Test.YtdfnfmanpdafpaaDoorK1
import Derived.WalkSpells
import Derived.WalkLawsBesides
namespace Go.Proofs.YtdfnfmanpdafpaaDoor
open Go.RowKit

/-- The slice v has n elements of 'size' cells each, the cells hold xs. -/
def Row (w : World) (size : Nat) (v : Value) (n : Nat) (xs : List Value) : Prop :=
  xs.length = n * size ∧ ∃ a cap, v = .slice a n cap ∧ n ≤ cap ∧ cap ≤ maxLen ∧ (a = none → cap = 0) ∧ (∀ p, a = some p → 0 < cap → p.spot = none) ∧
    ∀ j u, xs[j]? = some u → ∃ p, a = some p ∧ w.cell? ⟨p.block, p.off + j, none⟩ = some u

theorem Row.ext {w w' : World} {size n : Nat} {v : Value} {xs : List Value} (h : Row w size v n xs) (hx : Ext w w') : Row w' size v n xs := by
  obtain ⟨h1, a, cap, h2, h3, h4, h5, h6, h7⟩ := h
  exact ⟨h1, a, cap, h2, h3, h4, h5, h6, fun j u hj => let ⟨p, hp, hc⟩ := h7 j u hj; ⟨p, hp, hx.cell hc⟩⟩

theorem Row.nil (w : World) (size : Nat) : Row w size (.slice none 0 0) 0 [] :=
  ⟨by simp, none, 0, rfl, Nat.le_refl _, by simp [maxLen], fun _ => rfl, by simp, by simp⟩

/-- What the call owns can be read. -/
theorem Row.of_own {w : World} {base : Nat} {e : TypeId} {size n : Nat} {v : Value} {xs : List Value} (h : w.ownsRow base e size v n xs) : Row w size v n xs := by
  refine ⟨h.1, ?_⟩
  rcases h.2 with ⟨rfl, rfl⟩ | ⟨g, cap, cur, rfl, _, hg, hn, hc, hs, ht⟩
  · have : xs = [] := List.eq_nil_of_length_eq_zero (by simpa using h.1)
    subst this
    exact ⟨none, 0, rfl, Nat.le_refl _, by simp [maxLen], fun _ => rfl, by simp, by simp⟩
  · refine ⟨some ⟨g, 0, none⟩, cap, rfl, hn, hc, by simp, by simp, fun j u hj => ⟨_, rfl, ?_⟩⟩
    simp only [Nat.zero_add]
    rw [cell_of_row w g j cur e (0, 0) hg]
    rw [← ht, List.getElem?_take] at hj
    split at hj
    · simpa using hj
    · cases hj

theorem Row.len_le {w : World} {size n : Nat} {v : Value} {xs : List Value} (h : Row w size v n xs) : n ≤ maxLen := by
  obtain ⟨_, _, _, _, h3, h4, _⟩ := h; omega

section
variable {P : Program}

theorem wpList_val {ops : Array Oper} {Q : Exit → Act → World → Prop} {a : Act} {w w' : World} {rest : List Oper} {o : Oper} {v : Value}
    (hw : Region.wanted o (yielded ops a.tmps) = true) (hr : (execOp a.eval o).run P w = .ok (.value v) w')
    (h : wpList P ops Q rest (a.put o.dst v) w') : wpList P ops Q (o :: rest) a w := by
  simp only [wpList, hw, if_true]
  refine .inl ?_
  unfold Oper.wp
  rw [hr]
  exact h

theorem wpList_skipped {ops : Array Oper} {Q : Exit → Act → World → Prop} {a : Act} {w : World} {rest : List Oper} {o : Oper}
    (hw : Region.wanted o (yielded ops a.tmps) = false) (h : wpList P ops Q rest (a.put o.dst undef) w) : wpList P ops Q (o :: rest) a w := by
  simp only [wpList, hw]; exact h

/-- A bound of a cut: absent, or a number. -/
def BoundIs (a : Act) (x : Option Operand) (d i : Nat) : Prop :=
  match x with
  | none => i = d
  | some y => ∃ k n, a.eval y = .int k n ∧ 0 ≤ n ∧ n.toNat = i

theorem run_sliceBound_nat (w : World) (k : IntKind) (n : Int) (y i : Nat) (code : BoundsCode) (h0 : 0 ≤ n) (hn : n.toNat = i) (hy : i ≤ y) :
    (Instr.sliceBound (.int k n) y code).run P w = .ok i w := by
  rw [run_sliceBound w k n y code h0 (by omega), hn]

theorem run_sliceBounds_nat (w : World) (a : Act) (lo hi : Option Operand) {len cap i j : Nat} (hlo : BoundIs a lo 0 i) (hhi : BoundIs a hi len j) (hij : i ≤ j) (hj : j ≤ len) (hc : len ≤ cap) :
    (Instr.sliceBounds true len cap (lo.map a.eval) (hi.map a.eval) none).run P w = .ok (i, j, cap) w := by
  cases hi with
  | none =>
    simp only [BoundIs] at hhi
    subst hhi
    cases lo with
    | none => simp only [BoundIs] at hlo; subst hlo; simp [Instr.sliceBounds]
    | some y =>
      obtain ⟨k, n, he, h0, hn⟩ := hlo
      simp [Instr.sliceBounds, he, run_sliceBound_nat w k n j i _ h0 hn hij]
  | some x =>
    obtain ⟨k', n', he', h0', hn'⟩ := hhi
    cases lo with
    | none => simp only [BoundIs] at hlo; subst hlo; simp [Instr.sliceBounds, he', run_sliceBound_nat w k' n' cap j _ h0' hn' (by omega)]
    | some y =>
      obtain ⟨k, n, he, h0, hn⟩ := hlo
      simp [Instr.sliceBounds, he, he', run_sliceBound_nat w k n j i _ h0 hn hij, run_sliceBound_nat w k' n' cap j _ h0' hn' (by omega)]

/-- 'x[lo:hi]' of a slice, within its length. -/
theorem wpList_cut {ops : Array Oper} {Q : Exit → Act → World → Prop} {a : Act} {w : World} {rest : List Oper} {o : Oper}
    (t e : TypeId) (x : Operand) (lo hi : Option Operand) (size n i j : Nat) (xs : List Value)
    (ho : o.op = .slice t x lo hi none) (ht : P.underlying t = some (.slice e)) (hs : (P.info? e).map (·.size) = some size)
    (hw : Region.wanted o (yielded ops a.tmps) = true) (hx : Row w size (a.eval x) n xs)
    (hlo : BoundIs a lo 0 i) (hhi : BoundIs a hi n j) (hij : i ≤ j) (hj : j ≤ n)
    (h : ∀ v, Row w size v (j - i) ((xs.take (j * size)).drop (i * size)) → wpList P ops Q rest (a.put o.dst v) w) : wpList P ops Q (o :: rest) a w := by
  obtain ⟨hl, ad, cap, hv, hc, hm, hnil, hspot, hcell⟩ := hx
  have hi' : ∃ q, P.info? e = some q ∧ q.size = size := by
    cases hq : P.info? e with
    | none => rw [hq] at hs; cases hs
    | some q => rw [hq] at hs; exact ⟨q, rfl, by simpa using hs⟩
  obtain ⟨q, hq, hqs⟩ := hi'
  have hr : (execOp a.eval o).run P w = .ok (.value (.slice (if cap = i then ad else ad.map (·.add (i * size))) (j - i) (cap - i))) w := by
    simp [execOp, ho, Instr.sliceAt, run_underlying ht, Instr.slice, hv, run_sliceBounds_nat w a lo hi hlo hhi hij hj hc, sizeOf, typeInfo, hq, hqs]
  refine wpList_val hw hr (h _ ?_)
  refine ⟨?_, _, _, rfl, by omega, by omega, ?_, ?_, ?_⟩
  · rw [List.length_drop, List.length_take, hl, Nat.sub_mul, Nat.min_eq_left (Nat.mul_le_mul_right _ hj)]
  · intro he
    split at he
    · have := hnil he; omega
    · cases ad with
      | none => have := hnil rfl; omega
      | some p => simp at he
  · intro p hp h0
    split at hp
    · exact hspot p hp (by omega)
    · cases ad with
      | none => simp at hp
      | some p' =>
        simp at hp
        rw [← hp]
        unfold Addr.add
        split
        · exact hspot p' rfl (by omega)
        · rfl
  · intro k u hk
    rw [List.getElem?_drop, List.getElem?_take] at hk
    split at hk
    · rename_i hlt
      obtain ⟨p, hp, hcl⟩ := hcell _ _ hk
      have hne : ¬ cap = i := by
        intro he
        have : j = i := by omega
        subst this
        omega
      rw [if_neg hne, hp]
      refine ⟨p.add (i * size), rfl, ?_⟩
      have hps := hspot p hp (by omega)
      have e1 : (p.add (i * size)).block = p.block := by unfold Addr.add; split <;> rfl
      have e2 : (p.add (i * size)).off = p.off + i * size := by
        unfold Addr.add; split
        · simp_all
        · rfl
      rw [e1, e2, Nat.add_assoc]; exact hcl
    · cases hk

/-- The address of an element, and what it holds. -/
def CellIs (w : World) (v u : Value) : Prop := ∃ p, v = .pointer (some p) ∧ p.spot = none ∧ w.cell? p = some u
theorem CellIs.ext {w w' : World} {v u : Value} (h : CellIs w v u) (hx : Ext w w') : CellIs w' v u := by
  obtain ⟨p, h1, h2, h3⟩ := h; exact ⟨p, h1, h2, hx.cell h3⟩

theorem wpList_indexAddr {ops : Array Oper} {Q : Exit → Act → World → Prop} {a : Act} {w : World} {rest : List Oper} {o : Oper}
    (t e : TypeId) (x y : Operand) (n i : Nat) (k : IntKind) (xs : List Value)
    (ho : o.op = .indexAddr t x y) (ht : P.underlying t = some (.slice e)) (hs : (P.info? e).map (·.size) = some 1)
    (hw : Region.wanted o (yielded ops a.tmps) = true) (hx : Row w 1 (a.eval x) n xs) (hy : a.eval y = .int k i) (hi : i < n)
    (h : ∀ v u, xs[i]? = some u → CellIs w v u → wpList P ops Q rest (a.put o.dst v) w) : wpList P ops Q (o :: rest) a w := by
  obtain ⟨hl, ad, cap, hv, hc, hm, hnil, hspot, hcell⟩ := hx
  have hi' : ∃ q, P.info? e = some q ∧ q.size = 1 := by
    cases hq : P.info? e with
    | none => rw [hq] at hs; cases hs
    | some q => rw [hq] at hs; exact ⟨q, rfl, by simpa using hs⟩
  obtain ⟨q, hq, hqs⟩ := hi'
  have hil : i < xs.length := by omega
  obtain ⟨p, rfl, hcl⟩ := hcell i xs[i] (by simp [hil])
  have hr : (execOp a.eval o).run P w = .ok (.value (.pointer (some (p.add i)))) w := by
    have h0 : (0 : Int) ≤ (i : Int) ∧ (i : Int) < (n : Int) := by omega
    simp [execOp, ho, Instr.indexAt, run_underlying ht, hv, hy, asIntOf, hi, sizeOf, typeInfo, hq, hqs]
  refine wpList_val hw hr (h _ xs[i] (by simp [hil]) ⟨p.add i, rfl, ?_, ?_⟩)
  · unfold Addr.add; split
    · exact hspot p rfl (by omega)
    · rfl
  · have hps := hspot p rfl (by omega)
    have : p.add i = ⟨p.block, p.off + i, none⟩ := by
      obtain ⟨pb, po, ps⟩ := p
      simp only at hps; subst hps
      unfold Addr.add; split <;> simp_all
    rw [this]; exact hcl

def Bytes (w : World) (v : Value) (l : List UInt8) : Prop := Row w 1 v l.length (l.map fun b => Value.int .u8 (b.toNat : Int))

theorem Bytes.ext {w w' : World} {v : Value} {l : List UInt8} (h : Bytes w v l) (hx : Ext w w') : Bytes w' v l := Row.ext h hx
theorem Bytes.nil (w : World) : Bytes w (.slice none 0 0) [] := Row.nil w 1
theorem Bytes.shape {w : World} {v : Value} {l : List UInt8} (h : Bytes w v l) : ∃ a cap, v = .slice a l.length cap ∧ l.length ≤ cap ∧ cap ≤ maxLen := by
  obtain ⟨_, a, cap, h1, h2, h3, _⟩ := h; exact ⟨a, cap, h1, h2, h3⟩

def strOf (l : List UInt8) : ByteArray := ⟨l.toArray⟩
theorem strOf_inj {l m : List UInt8} : strOf l = strOf m ↔ l = m := by
  constructor
  · intro h; have := congrArg (fun b : ByteArray => b.data.toList) h; simpa [strOf] using this
  · rintro rfl; rfl

theorem ba_len (b : ByteArray) : b.data.toList.length = b.size := by cases b; exact Array.length_toList
theorem toList_loop (b : ByteArray) : ∀ (n i : Nat) (acc : List UInt8), b.size - i = n → ByteArray.toList.loop b i acc = acc.reverse ++ b.data.toList.drop i
  | 0, i, acc, h => by
    unfold ByteArray.toList.loop
    have := ba_len b
    rw [if_neg (by omega), List.drop_eq_nil_of_le (by omega), List.append_nil]
  | n + 1, i, acc, h => by
    unfold ByteArray.toList.loop
    have hi : i < b.size := by omega
    have hl : i < b.data.toList.length := by rw [ba_len]; exact hi
    have hl2 : i < b.data.size := by rw [← Array.length_toList]; exact hl
    rw [if_pos hi, toList_loop b n (i + 1) _ (by omega), List.reverse_cons, List.append_assoc, List.drop_eq_getElem_cons hl]
    congr 2
    cases b with | mk d =>
    show [d[i]!] ++ _ = _
    simp only [] at hl2
    rw [getElem!_pos d i hl2]; rfl
theorem toList_data (b : ByteArray) : b.toList = b.data.toList := by
  rw [ByteArray.toList, toList_loop b _ 0 [] rfl]; rfl
@[go_sem] theorem strOf_toList (l : List UInt8) : (strOf l).toList = l := by rw [toList_data]; rfl

theorem run_bytes_str (w : World) (src dst e : TypeId) (hs : P.underlying src = some (.slice e)) (he : P.underlying e = some (.int .u8)) (hd : P.underlying dst = some .string)
    {v : Value} {l : List UInt8} (hv : Bytes w v l) : (convert src dst v).run P w = .ok (.string (strOf l)) w := by
  obtain ⟨hl, ad, cap, rfl, hc, hm, hnil, hspot, hcell⟩ := hv
  cases ad with
  | none =>
    have : cap = 0 := hnil rfl
    have hl0 : l = [] := List.eq_nil_of_length_eq_zero (by omega)
    subst hl0
    rw [run_convert_bytes_nil w src e hs he _ _ dst hd]
    rfl
  | some p =>
    by_cases hl0 : l = []
    · subst hl0
      rw [run_convert_bytes_string w src dst e _ _ _ hs he hd]
      rw [List.length_nil, run_bytesToString w p 0 cap [] (by simp [loadCells, loadCellsFrom])]
      rfl
    obtain ⟨pb, po, ps⟩ := p
    have hpos : 0 < l.length := List.length_pos_iff.2 hl0
    have := hspot _ rfl (by omega)
    simp only at this; subst this
    have hr := run_convert_bytes_arg (P := P) w src e hs he pb po l.length cap (l.map fun b => (b.toNat : Int)) (by simp) (fun i hi => by
      obtain ⟨p, hp, hcl⟩ := hcell i (.int .u8 (l[i].toNat : Int)) (by simp [hi])
      simp at hp; subst hp
      simp only at hcl
      rw [hcl]; simp [List.getD, hi]) dst hd
    rw [hr]
    congr 2
    simp only [strOfNums, strOf, List.map_map]
    congr 2
    conv => rhs; rw [← List.map_id l]
    apply List.map_congr_left
    intro b _
    simp

theorem wpList_str {ops : Array Oper} {Q : Exit → Act → World → Prop} {a : Act} {w : World} {rest : List Oper} {o : Oper}
    (src dst e : TypeId) (x : Operand) (l : List UInt8)
    (ho : o.op = .convert src dst x) (hs : P.underlying src = some (.slice e)) (he : P.underlying e = some (.int .u8)) (hd : P.underlying dst = some .string)
    (hw : Region.wanted o (yielded ops a.tmps) = true) (hx : Bytes w (a.eval x) l)
    (h : wpList P ops Q rest (a.put o.dst (.string (strOf l))) w) : wpList P ops Q (o :: rest) a w :=
  wpList_val hw (by simp [execOp, ho, run_bytes_str w src dst e hs he hd hx]) h

/-- 'append(s, x...)' behind memory of the call's own, any x that can be read. -/
theorem wpList_append_row {ops : Array Oper} {Q : Exit → Act → World → Prop} {a : Act} {w : World} {rest : List Oper} {o : Oper}
    (t e : TypeId) (s x : Operand) (ho : o.op = .call { callee := .builtin .append, args := #[s, x], argTypes := #[t, t] })
    (base : Nat) (z : Value) (size bytes : Nat) (ht : P.underlying t = some (.slice e)) (hi : (P.info? e).map (fun i => (i.zero, i.size, i.bytes)) = some (some z, size, bytes))
    (hzs : z.cells.size = size) (hsz : 0 < size)
    (hw : Region.wanted o (yielded ops a.tmps) = true)
    (v : Value) (n : Nat) (xs : List Value) (hs : a.eval s = v) (hown : w.ownsRow base e size v n xs)
    (m : Nat) (news : List Value) (hx : Row w size (a.eval x) m news) (h1 : ∀ u ∈ news, u.oneCell' = true)
    (hbytes : (n + m) * bytes ≤ 140737488355328) (h63 : n + m ≤ maxLen) (hbase : base ≤ w.heap.size)
    (h : ∀ v' w', w'.ownsRow base e size v' (n + m) (xs ++ news) → w.grownBy w' v.ownBlock → wpList P ops Q rest (a.put o.dst v') w') : wpList P ops Q (o :: rest) a w := by
  obtain ⟨i, hi1, hi2, hi3, hi4⟩ := info_parts hi
  obtain ⟨hl, ad, cap, hv, hc, hm, hnil, hspot, hcell⟩ := hx
  have hexec : ∀ r : Result Value, (Builtin.append_ #[t, t] o.type #[v, a.eval x]).run P w = r → (execOp a.eval o).run P w = r.andThen fun y w' => .ok (.value y) w' := by
    intro r hr
    simp only [execOp, ho, resolve, invoke, builtin, Sem.run_bind, Sem.run_pure, Result.andThen_ok, List.map_toArray, List.map_cons, List.map_nil, hs, hr]
  cases ad with
  | none =>
    have hc0 : cap = 0 := hnil rfl
    subst hc0
    have hm0 : m = 0 := by omega
    subst hm0
    have hn0 : news = [] := List.eq_nil_of_length_eq_zero (by simpa using hl)
    subst hn0
    have hr := run_append_owned_none (P := P) (w := w) base t o.type e i size ht hi1 v n xs hown
    rw [← hv] at hr
    refine wpList_val hw (hexec _ hr) ?_
    have := h v w (by simpa using hown) (World.grownBy.refl w _)
    exact this
  | some p =>
    obtain ⟨v', w', hr, ho', hg, _⟩ := run_append_own (P := P) w base t o.type e i z size bytes ht hi1 hi2 hi3 hi4 hzs hsz v n xs hown p m cap news hl (fun j u hj => by
      obtain ⟨p', hp', hcl⟩ := hcell j u hj
      simp at hp'; subst hp'
      have hps := hspot _ rfl (by
        have hjl : j < news.length := by
          rcases Nat.lt_or_ge j news.length with h' | h'
          · exact h'
          · rw [List.getElem?_eq_none h'] at hj; cases hj
        rcases Nat.eq_zero_or_pos m with h' | h'
        · subst h'; simp at hl; subst hl; simp at hjl
        · omega)
      have : p.add j = ⟨p.block, p.off + j, none⟩ := by
        obtain ⟨pb, po, ps⟩ := p
        simp only at hps; subst hps
        unfold Addr.add; split <;> simp_all
      rw [this]; exact hcl) h1 h63 hbytes hbase
    rw [← hv] at hr
    exact wpList_val hw (hexec _ hr) (h v' w' ho' hg)

/-- A whole array or struct is stored into a block of its size. -/
theorem wpList_store_whole {ops : Array Oper} {Q : Exit → Act → World → Prop} {a : Act} {w : World} {rest : List Oper} {o : Oper}
    (ty : TypeId) (x y : Operand) (ho : o.op = .store ty x y) (hw : Region.wanted o (yielded ops a.tmps) = true)
    (g : Nat) (hx : a.eval x = .pointer (some ⟨g, 0, none⟩)) (cs : Array Value) (hy : a.eval y = .agg cs) (c : Array Value) (t : TypeId)
    (hg : w.heap[g]? = some (.cells c t (0, 0))) (hsz : c.size = cs.size) (hi : (P.info? ty).map (·.size) = some cs.size) (h1 : ∀ v ∈ cs.toList, v.oneCell' = true)
    (h : wpList P ops Q rest (a.put o.dst undef) (w.setRow g cs)) : wpList P ops Q (o :: rest) a w := by
  have hst := run_storeCells_at P g 0 t cs.toList 0 c w hg (by simp [hsz]) h1
  have hlen : List.drop cs.size c.toList = [] := List.drop_eq_nil_of_le (by simp [hsz])
  simp [hlen] at hst
  have hr : (execOp a.eval o).run P w = .ok .skip (w.setRow g cs) := by
    cases hq : P.info? ty with
    | none => simp [hq] at hi
    | some i =>
      have hs : cs.size = i.size := by simp [hq] at hi; omega
      simp [execOp, ho, hx, hy, Instr.storeAt, Instr.sureAddr, storeVar, sizeOf, typeInfo, hq, Value.cells, hs, hst]
  simp only [wpList, hw, if_true]
  refine .inl ?_
  unfold Oper.wp
  rw [hr]
  exact h

theorem Ext.setRow {a w : World} (h : Ext a w) {g : Nat} (hg : a.heap.size ≤ g) (cs : Array Value) : Ext a (w.setRow g cs) :=
  Below.trans h ⟨rfl, rfl, rfl, by simp, fun k hk => setRow_other w g k cs (by omega)⟩
theorem Ext.setCell {a w : World} (h : Ext a w) {p : Addr} (hp : a.heap.size ≤ p.block) (u : Value) : Ext a (w.setCell p u) := Below.setCell h hp u

/-! The small operations of a region that draws -/
theorem ob_val {F : Value → World → Prop} {ops : Array Oper} {a : Act} {w w' : World} {o : Oper} {v : Value} {d : Nat}
    (hw : Region.wanted o (yielded ops a.tmps) = true) (hr : (execOp a.eval o).run P w = .ok (.value v) w') (hx : Ext w w') (hd : o.dst = some d) (hs : decide (d < a.tmps.size) = true) (hf : F v w') :
    wpList P ops (endQ F o a w) [o] a w := by
  refine wpList_val hw hr (wpList_nil ⟨rfl, hx, put_defers _ _ _, ?_⟩)
  rw [hd]
  show F ((a.put (some d) v).tmps.getD d undef) w'
  rw [put_getD_eq _ (of_decide_eq_true hs)]; exact hf
theorem ob_move {F : Value → World → Prop} {ops : Array Oper} {a : Act} {w : World} {o : Oper} {x : Operand} {d : Nat}
    (hw : Region.wanted o (yielded ops a.tmps) = true) (ho : o.op = .move x) (hd : o.dst = some d) (hs : decide (d < a.tmps.size) = true) (hf : F (a.eval x) w) :
    wpList P ops (endQ F o a w) [o] a w := ob_val hw (by simp [execOp, ho]) (Ext.refl w) hd hs hf
theorem ob_assign {F : Value → World → Prop} {ops : Array Oper} {a : Act} {w : World} {o : Oper} {x : Operand} {d : Nat}
    (hw : Region.wanted o (yielded ops a.tmps) = true) (ho : o.op = .assign x) (hd : o.dst = some d) (hs : decide (d < a.tmps.size) = true) (hf : F (a.eval x) w) :
    wpList P ops (endQ F o a w) [o] a w := ob_val hw (by simp [execOp, ho]) (Ext.refl w) hd hs hf
theorem ob_pick {F : Value → World → Prop} {ops : Array Oper} {a : Act} {w : World} {o : Oper} {c x y : Operand} {d : Nat} {b : Bool}
    (hw : Region.wanted o (yielded ops a.tmps) = true) (ho : o.op = .pick c x y) (hd : o.dst = some d) (hs : decide (d < a.tmps.size) = true) (hb : a.eval c = .bool b) (hf : F (if b then a.eval x else a.eval y) w) :
    wpList P ops (endQ F o a w) [o] a w := ob_val hw (by simp [execOp, ho, hb, asBool]) (Ext.refl w) hd hs hf
theorem ob_skip {F : Value → World → Prop} {ops : Array Oper} {a : Act} {w : World} {o : Oper} {d : Nat}
    (hw : Region.wanted o (yielded ops a.tmps) = false) (hd : o.dst = some d) (hs : decide (d < a.tmps.size) = true) (hf : F undef w) :
    wpList P ops (endQ F o a w) [o] a w := by
  refine wpList_skipped hw (wpList_nil ⟨rfl, Ext.refl w, put_defers _ _ _, ?_⟩)
  rw [hd]
  show F ((a.put (some d) undef).tmps.getD d undef) w
  rw [put_getD_eq _ (of_decide_eq_true hs)]; exact hf

theorem Ext.grown_none {a w w' : World} {v : Value} (h : Ext a w) (hg : w.grownBy w' v.ownBlock) (hr : ∀ k, v.ownBlock = some k → a.heap.size ≤ k) : Ext a w' :=
  Below.grown h hg h.size hr

theorem own_base {w : World} {base : Nat} {e : TypeId} {size n : Nat} {v : Value} {xs : List Value} (h : w.ownsRow base e size v n xs) : ∀ k, v.ownBlock = some k → base ≤ k :=
  fun k hk => (h.lt k hk).1

end
end Go.Proofs.YtdfnfmanpdafpaaDoor
