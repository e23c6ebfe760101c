/- What NetAnyOrder's rows keep: the head of an own row, what is behind one element put behind what is ahead of it. -/
import Derived.Test.YtlgopjfnknjgjaaN14
import Derived.ArgAppend
import Derived.Deep.Upon
namespace Go.Proofs.Ytlgopjfnknjgjaa
open Go.RowKit Go.MapKept

theorem and1 (n : Int) : bits .and .i64 n 1 = n % 2 := by
  have h3 : (BitVec.ofInt 64 1).toNat = 2 ^ 1 - 1 := by decide
  have key : (BitVec.ofInt 64 n &&& BitVec.ofInt 64 1).toNat = (n % ((2 ^ 64 : Nat) : Int)).toNat % 2 ^ 1 := by
    rw [BitVec.toNat_and, BitVec.toNat_ofInt, h3, Nat.and_two_pow_sub_one_eq_mod]
  show IntKind.i64.wrap ((BitVec.ofInt 64 n &&& BitVec.ofInt 64 1).toNat : Nat) = n % 2
  rw [key, IntKind.wrap_i64]
  omega

/-- The head of an own row. -/
structure Pre (w : World) (base : Nat) (e : TypeId) (size g n c : Nat) (xs : List Value) : Prop where
  nc : n ≤ c
  own : ∃ n' cap' ys, c ≤ cap' ∧ n ≤ n' ∧ w.ownsRow base e size (.slice (some ⟨g, 0, none⟩) n' cap') n' ys ∧ xs = ys.take (n * size)

theorem Pre.of_own {w : World} {base size g n c : Nat} {e : TypeId} {xs : List Value} (h : w.ownsRow base e size (.slice (some ⟨g, 0, none⟩) n c) n xs) : Pre w base e size g n c xs := by
  have hl := h.1
  have hs := h
  obtain ⟨_, (⟨h1, _⟩ | ⟨g', cap, cur, h1, h2, h3, h4, h5⟩)⟩ := h
  · cases h1
  · cases h1
    exact ⟨h4, n, c, xs, Nat.le_refl _, Nat.le_refl _, hs, by rw [← hl, List.take_length]⟩
theorem Pre.row {w : World} {base size g n c : Nat} {e : TypeId} {xs : List Value} (h : Pre w base e size g n c xs) : Row w size (.slice (some ⟨g, 0, none⟩) n c) n xs := by
  obtain ⟨hnc, n', cap', ys, h1, h2, ho, rfl⟩ := h
  obtain ⟨hl, ad, cap, hv, hc, hm, hnil, hspot, hcell⟩ := Row.of_own ho
  cases hv
  refine ⟨by rw [List.length_take, hl]; exact Nat.min_eq_left (Nat.mul_le_mul_right _ h2), _, _, rfl, hnc, Nat.le_trans h1 hm, fun h => (by cases h), fun p hp _ => (by cases hp; rfl), fun j u hj => ⟨_, rfl, ?_⟩⟩
  rw [List.getElem?_take] at hj
  split at hj
  · obtain ⟨p, hp, hq⟩ := hcell j u hj
    cases hp
    exact hq
  · cases hj
theorem Pre.ext {w w' : World} {base size g n c : Nat} {e : TypeId} {xs : List Value} (h : Pre w base e size g n c xs) (hx : Ext w w') : Pre w' base e size g n c xs := by
  obtain ⟨hnc, n', cap', ys, h1, h2, ho, rfl⟩ := h
  exact ⟨hnc, n', cap', ys, h1, h2, own_ext ho hx, rfl⟩
theorem Pre.len {w : World} {base size g n c : Nat} {e : TypeId} {xs : List Value} (h : Pre w base e size g n c xs) : xs.length = n * size := h.row.1
/-- The value of such a head, none of nothing. -/
def PreV (w : World) (base : Nat) (e : TypeId) (size : Nat) (v : Value) (n : Nat) (xs : List Value) : Prop :=
  (v = .slice none 0 0 ∧ n = 0 ∧ xs = []) ∨ ∃ g c, v = .slice (some ⟨g, 0, none⟩) n c ∧ Pre w base e size g n c xs
theorem PreV.of_own {w : World} {base size n : Nat} {e : TypeId} {v : Value} {xs : List Value} (h : w.ownsRow base e size v n xs) : PreV w base e size v n xs := by
  have hs := h
  obtain ⟨hl, (⟨h1, h2⟩ | ⟨g', cap, cur, h1, h2, h3, h4, h5⟩)⟩ := h
  · subst h2
    exact .inl ⟨h1, rfl, List.eq_nil_of_length_eq_zero (by simpa using hl)⟩
  · subst h1
    exact .inr ⟨g', cap, rfl, Pre.of_own hs⟩
theorem PreV.ext {w w' : World} {base size n : Nat} {e : TypeId} {v : Value} {xs : List Value} (h : PreV w base e size v n xs) (hx : Ext w w') : PreV w' base e size v n xs := by
  rcases h with h | ⟨g, c, h1, h2⟩
  · exact .inl h
  · exact .inr ⟨g, c, h1, h2.ext hx⟩
theorem PreV.shape {w : World} {base size n : Nat} {e : TypeId} {v : Value} {xs : List Value} (h : PreV w base e size v n xs) : ∃ a c, v = .slice a n c := by
  rcases h with ⟨h, rfl, _⟩ | ⟨g, c, h1, _⟩
  · exact ⟨_, _, h⟩
  · exact ⟨_, _, h1⟩
theorem PreV.some {w : World} {base size n : Nat} {e : TypeId} {v : Value} {xs : List Value} (h : PreV w base e size v n xs) (hn : 0 < n) : ∃ g c, v = .slice (some ⟨g, 0, none⟩) n c ∧ Pre w base e size g n c xs := by
  rcases h with ⟨_, rfl, _⟩ | h
  · exact absurd hn (Nat.lt_irrefl _)
  · exact h
def srcAt (g c k size : Nat) : Addr := if c = k + 1 then ⟨g, 0, none⟩ else ⟨g, (k + 1) * size, none⟩

theorem pre_app {P : Program} {w : World} {base size bytes g n c k : Nat} {e t ty : TypeId} {i : TypeInfo} {z : Value} {xs : List Value} (h : Pre w base e size g n c xs) (hk : k < n) (ht : P.underlying t = some (.slice e)) (hi : P.info? e = some i) (hz : i.zero = some z)
    (hsize : i.size = size) (hby : i.bytes = bytes) (hzs : z.cells.size = size) (hsz : 0 < size) (hb : n * bytes ≤ 140737488355328) (hbase : base ≤ w.heap.size) :
    ∃ v' w', (Builtin.append_ #[t, t] ty #[.slice (some ⟨g, 0, none⟩) k k, .slice (some (srcAt g c k size)) (n - (k + 1)) (c - (k + 1))]).run P w = .ok v' w' ∧ Ext w w' ∧ PreV w' base e size v' (n - 1) (xs.take (k * size) ++ xs.drop ((k + 1) * size)) := by
  have hrow := h.row
  have hxl := hrow.1
  obtain ⟨hl, ad, cap, hv, hc, hm, hnil, hspot, hcell⟩ := hrow
  cases hv
  by_cases hm0 : n = k + 1
  · have hs : Src P i.size t (.slice (some (srcAt g c k size)) (n - (k + 1)) (c - (k + 1))) 0 [] w := by
      have : n - (k + 1) = 0 := by omega
      rw [this]
      exact Src.ofSlice w ht _ 0 _ [] (by simp) (fun j u hj => by simp at hj) (fun _ h => by cases h)
    refine ⟨_, w, run_append_nothing w t t ty e i ht hi _ k k (Nat.le_refl _) _ hs, Ext.refl _, .inr ⟨g, k, ?_, ?_⟩⟩
    · have : n - 1 = k := by omega
      rw [this]
    · obtain ⟨hnc, n', cap', ys, h1, h2, ho, rfl⟩ := h
      have e1 : n - 1 = k := by omega
      have e2 : (List.take (n * size) ys).drop ((k + 1) * size) = [] := by
        rw [List.drop_eq_nil_iff]; rw [hl, hm0]; exact Nat.le_refl _
      have e3 : (List.take (n * size) ys).take (k * size) = ys.take (k * size) := by
        rw [List.take_take, Nat.min_eq_left (Nat.mul_le_mul_right _ (by omega))]
      rw [e1, e2, e3, List.append_nil]
      exact ⟨Nat.le_refl _, n', cap', ys, by omega, by omega, ho, rfl⟩
  · have hne : ¬ c = k + 1 := by omega
    have hsa : srcAt g c k size = ⟨g, (k + 1) * size, none⟩ := by unfold srcAt; rw [if_neg hne]
    rw [hsa]
    have hk1 : (k + 1) * size ≤ n * size := Nat.mul_le_mul_right _ (by omega)
    have hk0 : k * size ≤ n * size := Nat.mul_le_mul_right _ (by omega)
    have hadd : ∀ o j, (⟨g, o, none⟩ : Addr).add j = ⟨g, o + j, none⟩ := fun o j => by unfold Addr.add; split <;> simp_all
    have hat : ∀ j u, xs[j]? = some u → w.cell? ⟨g, j, none⟩ = some u := fun j u hj => by
      obtain ⟨p, hp, hq⟩ := hcell j u hj
      cases hp
      simpa using hq
    obtain ⟨v', w', hr, ho, hg⟩ := run_append_arg_grows (P := P) w t ty e i z size bytes ht hi hz hsize hby hzs hsz ⟨g, 0, none⟩ k k (xs.take (k * size)) (by rw [List.length_take, hl]; exact Nat.min_eq_left hk0) (fun j u hj => by
        rw [List.getElem?_take] at hj
        split at hj
        · rw [hadd, Nat.zero_add]; exact hat j u hj
        · cases hj) ⟨g, (k + 1) * size, none⟩ (n - (k + 1)) (c - (k + 1)) (xs.drop ((k + 1) * size)) (by rw [List.length_drop, hl, Nat.sub_mul]) (fun j u hj => by
        rw [List.getElem?_drop] at hj
        rw [hadd]; exact hat _ u hj) (by omega) (by omega) (Nat.le_trans (Nat.mul_le_mul_right _ (by omega)) hb)
    have e1 : k + (n - (k + 1)) = n - 1 := by omega
    rw [e1] at ho
    exact ⟨v', w', hr, (Ext.refl w).grown_none (v := .slice none 0 0) hg (fun _ h => by cases h), PreV.of_own (own_low ho hbase)⟩

section
variable {P : Program} {ops : Array Oper} {Q : Exit → Act → World → Prop} {a : Act} {w : World} {rest : List Oper} {o : Oper}
/-- 'x[:k:k]'. -/
theorem wpList_headAt (t e : TypeId) (x h m : Operand) (size g n c k : Nat) (hop : o.op = .slice t x none (some h) (some m)) (ht : P.underlying t = some (.slice e)) (hs : (P.info? e).map (·.size) = some size)
    (hw : Region.wanted o (yielded ops a.tmps) = true) (hx : a.eval x = .slice (some ⟨g, 0, none⟩) n c) (hh : a.eval h = .int .i64 k) (hm : a.eval m = .int .i64 k) (hkc : k ≤ c)
    (next : wpList P ops Q rest (a.put o.dst (.slice (some ⟨g, 0, none⟩) k k)) w) : wpList P ops Q (o :: rest) a w := by
  have hi' : ∃ q, P.info? e = some q ∧ q.size = size := by
    cases hq : P.info? e with
    | none => rw [hq] at hs; cases hs
    | some q => rw [hq] at hs; exact ⟨q, rfl, by simpa using hs⟩
  obtain ⟨q, hq, hqs⟩ := hi'
  refine wpList_val hw ?_ next
  have hadd : (⟨g, 0, none⟩ : Addr).add 0 = ⟨g, 0, none⟩ := by unfold Addr.add; split <;> simp_all
  have hb : (Instr.sliceBounds true n c none (some (.int .i64 k)) (some (.int .i64 k))).run P w = .ok (0, k, k) w := by
    simp [Instr.sliceBounds, run_sliceBound_nat w .i64 (k : Int) c k _ (by omega) (by omega) hkc, run_sliceBound_nat w .i64 (k : Int) k k _ (by omega) (by omega) (Nat.le_refl _)]
  simp [execOp, hop, Instr.sliceAt, run_underlying ht, Instr.slice, hx, hh, hm, hb, sizeOf, typeInfo, hq, hqs, hadd]
/-- 'x[k+1:]'. -/
theorem wpList_tailAt (t e : TypeId) (x l : Operand) (size g n c k : Nat) (hop : o.op = .slice t x (some l) none none) (ht : P.underlying t = some (.slice e)) (hs : (P.info? e).map (·.size) = some size)
    (hw : Region.wanted o (yielded ops a.tmps) = true) (hx : a.eval x = .slice (some ⟨g, 0, none⟩) n c) {q1 : Int} (hl : a.eval l = .int .i64 q1) (hq1 : q1 = (k : Int) + 1) (hkn : k + 1 ≤ n)
    (next : wpList P ops Q rest (a.put o.dst (.slice (some (srcAt g c k size)) (n - (k + 1)) (c - (k + 1)))) w) : wpList P ops Q (o :: rest) a w := by
  have hi' : ∃ q, P.info? e = some q ∧ q.size = size := by
    cases hq : P.info? e with
    | none => rw [hq] at hs; cases hs
    | some q => rw [hq] at hs; exact ⟨q, rfl, by simpa using hs⟩
  obtain ⟨q, hq, hqs⟩ := hi'
  refine wpList_val hw ?_ next
  have hadd : (⟨g, 0, none⟩ : Addr).add ((k + 1) * size) = ⟨g, (k + 1) * size, none⟩ := by unfold Addr.add; split <;> simp_all
  have hb : (Instr.sliceBounds true n c (some (.int .i64 q1)) none none).run P w = .ok (k + 1, n, c) w := by
    simp [Instr.sliceBounds, run_sliceBound_nat w .i64 q1 n (k + 1) _ (by omega) (by omega) hkn]
  have hsa : (if c = k + 1 then some (⟨g, 0, none⟩ : Addr) else some (⟨g, (k + 1) * size, none⟩ : Addr)) = some (srcAt g c k size) := by
    unfold srcAt
    split <;> rfl
  simp [execOp, hop, Instr.sliceAt, run_underlying ht, Instr.slice, hx, hl, hb, sizeOf, typeInfo, hq, hqs, hadd, hsa]
/-- What is behind, put behind what is ahead. -/
theorem wpList_without (t e : TypeId) (s x : Operand) (hop : o.op = .call { callee := .builtin .append, args := #[s, x], argTypes := #[t, t] }) (base : Nat) (z : Value) (size bytes : Nat) (ht : P.underlying t = some (.slice e)) (hi : (P.info? e).map (fun i => (i.zero, i.size, i.bytes)) = some (some z, size, bytes))
    (hzs : z.cells.size = size) (hsz : 0 < size) (hw : Region.wanted o (yielded ops a.tmps) = true) (g n c k : Nat) (xs : List Value) (hs : a.eval s = .slice (some ⟨g, 0, none⟩) k k) (hx : a.eval x = .slice (some (srcAt g c k size)) (n - (k + 1)) (c - (k + 1)))
    (h : Pre w base e size g n c xs) (hk : k < n) (hb : n * bytes ≤ 140737488355328) (hbase : base ≤ w.heap.size)
    (next : ∀ v' w', Ext w w' → PreV w' base e size v' (n - 1) (xs.take (k * size) ++ xs.drop ((k + 1) * size)) → wpList P ops Q rest (a.put o.dst v') w') : wpList P ops Q (o :: rest) a w := by
  obtain ⟨i, hi1, hi2, hi3, hi4⟩ := info_parts hi
  obtain ⟨v', w', hr, h1, h2⟩ := pre_app (P := P) (ty := o.type) h hk ht hi1 hi2 hi3 hi4 hzs hsz hb hbase
  refine wpList_val hw ?_ (next v' w' h1 h2)
  simp only [execOp, hop, resolve, invoke, builtin, Sem.run_bind, Sem.run_pure, Result.andThen_ok, List.map_toArray, List.map_cons, List.map_nil, hs, hx, hr]
end
end Go.Proofs.Ytlgopjfnknjgjaa
