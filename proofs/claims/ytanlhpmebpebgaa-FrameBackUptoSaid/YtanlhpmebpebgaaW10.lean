/- Two rows of the call's own that grow beside each other: what stays true whichever is put behind first. -/
import Derived.Test.YtanlhpmebpebgaaW8
import Derived.Test.YtanlhpmebpebgaaK3
namespace Go.Proofs.Ytanlhpmebpebgaa
open Go.RowKit

/-- Block k has been put behind in place: it begins with p now. -/
def Behind (t : TypeId) (p : List Value) (o o' : Option Obj) : Prop :=
  ∃ c c', o = some (.cells c t (0, 0)) ∧ o' = some (.cells c' t (0, 0)) ∧ c'.size = c.size ∧ c'.toList.take p.length = p

structure Two (kb ko : Option Nat) (pb po : List Value) (w w' : World) : Prop where
  os : w'.os = w.os
  tape : w'.tape = w.tape
  output : w'.output = w.output
  size : w.heap.size ≤ w'.heap.size
  block : ∀ k, k < w.heap.size → w'.heap[k]? = w.heap[k]? ∨ (some k = kb ∧ Behind 5 pb w.heap[k]? w'.heap[k]?) ∨ (some k = ko ∧ Behind 22 po w.heap[k]? w'.heap[k]?)

theorem Behind.trans {t : TypeId} {p : List Value} {a b c : Option Obj} (h : Behind t p a b) (k : Behind t p b c) : Behind t p a c := by
  obtain ⟨c1, c2, e1, e2, e3, e4⟩ := h
  obtain ⟨c3, c4, f1, f2, f3, f4⟩ := k
  rw [e2] at f1
  cases f1
  exact ⟨c1, c4, e1, f2, f3.trans e3, f4⟩

theorem Two.trans {kb ko : Option Nat} {pb po : List Value} {a b c : World} (h : Two kb ko pb po a b) (k : Two kb ko pb po b c) : Two kb ko pb po a c where
  os := k.os.trans h.os
  tape := k.tape.trans h.tape
  output := k.output.trans h.output
  size := Nat.le_trans h.size k.size
  block := fun i hi => by
    rcases h.block i hi with h1 | ⟨e1, h1⟩ | ⟨e1, h1⟩ <;> rcases k.block i (Nat.lt_of_lt_of_le hi h.size) with h2 | ⟨e2, h2⟩ | ⟨e2, h2⟩
    · exact .inl (h2.trans h1)
    · rw [h1] at h2; exact .inr (.inl ⟨e2, h2⟩)
    · rw [h1] at h2; exact .inr (.inr ⟨e2, h2⟩)
    · rw [h2]; exact .inr (.inl ⟨e1, h1⟩)
    · exact .inr (.inl ⟨e1, h1.trans h2⟩)
    · obtain ⟨_, _, _, f, _⟩ := h1
      obtain ⟨_, _, g, _⟩ := h2
      rw [f] at g; cases g
    · rw [h2]; exact .inr (.inr ⟨e1, h1⟩)
    · obtain ⟨_, _, _, f, _⟩ := h1
      obtain ⟨_, _, g, _⟩ := h2
      rw [f] at g; cases g
    · exact .inr (.inr ⟨e1, h1.trans h2⟩)

def two (kb ko : Option Nat) (pb po : List Value) : Rg.Step where
  rel := Two kb ko pb po
  refl := fun _ => ⟨rfl, rfl, rfl, Nat.le_refl _, fun _ _ => .inl rfl⟩
  trans := Two.trans
  drew := fun _ => ⟨rfl, rfl, rfl, Nat.le_refl _, fun _ _ => .inl rfl⟩

theorem Two.of_ext {kb ko : Option Nat} {pb po : List Value} {w w' : World} (h : Ext w w') : Two kb ko pb po w w' :=
  ⟨h.os, h.tape, h.output, h.size, fun k hk => .inl (h.block k hk)⟩

/-- What lay in W is as it was, where both rows are newer. -/
theorem Two.ext {kb ko : Option Nat} {pb po : List Value} {W w w' : World} (hx : Ext W w) (hb : ∀ k, some k = kb → W.heap.size ≤ k) (ho : ∀ k, some k = ko → W.heap.size ≤ k) (h : Two kb ko pb po w w') : Ext W w' :=
  ⟨h.os.trans hx.os, h.tape.trans hx.tape, h.output.trans hx.output, Nat.le_trans hx.size h.size, fun k hk => by
    rcases h.block k (Nat.lt_of_lt_of_le hk hx.size) with h1 | ⟨e, _⟩ | ⟨e, _⟩
    · exact h1.trans (hx.block k hk)
    · have := hb k e; omega
    · have := ho k e; omega⟩

/-- A row of the call's own whose cells are a beginning of what stands there behind the step stays. -/
theorem Two.own {kb ko : Option Nat} {pb po : List Value} {w w' : World} (h : Two kb ko pb po w w') {base n : Nat} {v : Value} {xs : List Value} {t : TypeId} (ho : w.ownsRow base t 1 v n xs)
    (hb : t = 5 → v.ownBlock = kb → ∃ r, pb = xs ++ r) (hc : t = 22 → v.ownBlock = ko → ∃ r, po = xs ++ r) : w'.ownsRow base t 1 v n xs := by
  obtain ⟨h1, h2⟩ := ho
  refine ⟨h1, ?_⟩
  rcases h2 with h2 | ⟨g, cap, cur, hv, hg, hh, hn, hm, hs, ht⟩
  · exact .inl h2
  · have hob : v.ownBlock = some g := by rw [hv]; rfl
    have fin : ∀ (p : List Value) (c' : Array Value), (∃ r, p = xs ++ r) → w'.heap[g]? = some (.cells c' t (0, 0)) → c'.size = cur.size → c'.toList.take p.length = p →
        (v = .slice none 0 0 ∧ n = 0) ∨ ∃ g cap cur, v = .slice (some ⟨g, 0, none⟩) n cap ∧ base ≤ g ∧ w'.heap[g]? = some (.cells cur t (0, 0)) ∧ n ≤ cap ∧ cap ≤ maxLen ∧ cur.size = cap * 1 ∧ cur.toList.take (n * 1) = xs := by
      rintro p c' ⟨r, rfl⟩ e1 e2 e3
      refine .inr ⟨g, cap, c', hv, hg, e1, hn, hm, by rw [e2, hs], ?_⟩
      have := congrArg (List.take xs.length) e3
      rw [List.take_take, List.take_left' rfl, Nat.min_eq_left (by rw [List.length_append]; omega)] at this
      rw [← h1]; exact this
    rcases h.block g (Array.getElem?_eq_some_iff.1 hh).1 with e | ⟨e, c, c', e1, e2, e3, e4⟩ | ⟨e, c, c', e1, e2, e3, e4⟩
    · exact .inr ⟨g, cap, cur, hv, hg, by rw [e]; exact hh, hn, hm, hs, ht⟩
    · rw [hh] at e1
      cases e1
      exact fin pb c' (hb rfl (hob.trans e)) e2 e3 e4
    · rw [hh] at e1
      cases e1
      exact fin po c' (hc rfl (hob.trans e)) e2 e3 e4

/-- Appending behind a row of the call's own: what the memory comes to. -/
theorem run_append_beh {P : Program} {w : World} (base : Nat) (t ty e : TypeId) (i : TypeInfo) (z : Value) (bytes : Nat) (ht : P.underlying t = some (.slice e)) (hi : P.info? e = some i) (hz : i.zero = some z)
    (hsize : i.size = 1) (hby : i.bytes = bytes) (hzs : z.cells.size = 1) (v : Value) (n : Nat) (xs : List Value) (hown : w.ownsRow base e 1 v n xs)
    (a : Addr) (m c : Nat) (news : List Value) (hl : news.length = m * 1) (hnews : ∀ j u, news[j]? = some u → w.cell? (a.add j) = some u) (h1 : ∀ u ∈ news, u.oneCell' = true) (hm : 0 < m)
    (h63 : n + m ≤ maxLen) (hbytes : (n + m) * bytes ≤ 140737488355328) (hbase : base ≤ w.heap.size) :
    ∃ v' w', (Builtin.append_ #[t, t] ty #[v, .slice (some a) m c]).run P w = .ok v' w' ∧ w'.ownsRow base e 1 v' (n + m) (xs ++ news) ∧
      ((Ext w w' ∧ v'.ownBlock = some w.heap.size) ∨ (v'.ownBlock = v.ownBlock ∧ w.grownBy w' v.ownBlock ∧ ∃ g, v.ownBlock = some g ∧ Behind e (xs ++ news) w.heap[g]? w'.heap[g]?)) := by
  obtain ⟨v', w', hr, ho, hg, _⟩ := run_append_own (P := P) (w := w) base t ty e i z 1 bytes ht hi hz hsize hby hzs (by decide) v n xs hown a m c news hl hnews h1 h63 hbytes hbase
  refine ⟨v', w', hr, ho, ?_⟩
  have hsmall : n + m ≤ 9223372036854775807 := by simp only [maxLen] at h63; omega
  have fresh : ∀ C : Array Value, Ext w (w.drew.alloc (.cells C e)) := fun C => (Ext.drew (Ext.refl w)).alloc _
  rcases hown.2 with ⟨rfl, rfl⟩ | ⟨g, cap, cur, rfl, hbg, hgh, hnc, hcm, hcs, htake⟩
  · have hr2 := run_append_nil (P := P) w t ty e i z ht hi hz a m c news (by rw [hsize]; exact hl) hnews hm (by omega) (by rw [hby]; simp only [Nat.zero_add] at hbytes; omega)
    rw [hr2] at hr
    cases hr
    exact .inl ⟨fresh _, rfl⟩
  · by_cases hroom : n + m ≤ cap
    · have hfit : n * i.size + news.length ≤ cur.size := by rw [hsize, hl, hcs, ← Nat.add_mul]; exact Nat.mul_le_mul_right _ hroom
      have hr2 := run_append_room (P := P) w t ty e i ht hi g n cap cur hgh a m c news (by rw [hsize]; exact hl) hnews h1 hroom hfit
      rw [hr2] at hr
      cases hr
      refine .inr ⟨rfl, hg, g, rfl, ?_⟩
      rcases ho.2 with ⟨e1, _⟩ | ⟨g2, cap2, cur2, e1, _, hg2, _, _, hs2, ht2⟩
      · cases e1
      · simp only [Value.slice.injEq, Option.some.injEq, Addr.mk.injEq, and_true] at e1
        obtain ⟨rfl, _, rfl⟩ := e1
        refine ⟨cur, cur2, hgh, hg2, by rw [hs2, hcs], ?_⟩
        rw [← ho.1] at ht2
        exact ht2
    · have holds : ∀ j u, xs[j]? = some u → w.cell? ((⟨g, 0, none⟩ : Addr).add j) = some u := hown.cells (g := g) rfl
      have hr2 := run_append_grow (P := P) w t ty e i z ht hi hz ⟨g, 0, none⟩ n cap xs (by rw [hsize]; exact hown.1) holds a m c news (by rw [hsize]; exact hl) hnews (by omega) (by omega) (growslice_fits (by omega) (by rw [hby]; exact hbytes))
      rw [hr2] at hr
      cases hr
      exact .inl ⟨fresh _, rfl⟩

section
variable {kb ko : Option Nat} {pb po : List Value}
/-- A row of bytes of the call's own, a beginning of what its block may come to. -/
def factB (base n : Nat) (xs : List Value) (h : ∃ r, pb = xs ++ r) : Rg.Fact (two kb ko pb po) :=
  ⟨fun v w => w.ownsRow base 5 1 v n xs, fun _ _ _ hx ho => Two.own hx ho (fun _ _ => h) (fun e => by cases e)⟩
def factO (base n : Nat) (xs : List Value) (h : ∃ r, po = xs ++ r) : Rg.Fact (two kb ko pb po) :=
  ⟨fun v w => w.ownsRow base 22 1 v n xs, fun _ _ _ hx ho => Two.own hx ho (fun e => by cases e) (fun _ _ => h)⟩
/-- What can be read and lay ahead of both rows. -/
def factA (W : World) (p : Value → World → Prop) (hb : ∀ k, some k = kb → W.heap.size ≤ k) (ho : ∀ k, some k = ko → W.heap.size ≤ k) : Rg.Fact (two kb ko pb po) :=
  ⟨fun v w => p v W ∧ Ext W w, fun _ _ _ hx h => ⟨h.1, Two.ext h.2 hb ho hx⟩⟩
theorem Two.of_beh5 {w w' : World} {g : Nat} (hg : w.grownBy w' (some g)) (hk : kb = some g) (hb : Behind 5 pb w.heap[g]? w'.heap[g]?) : Two kb ko pb po w w' :=
  ⟨hg.os, hg.tape, hg.output, hg.size, fun k hk' => by
    by_cases e : k = g
    · subst e; exact .inr (.inl ⟨hk.symm, hb⟩)
    · exact .inl (hg.block k hk' (fun h => e (Option.some.inj h)))⟩
theorem Two.of_beh22 {w w' : World} {g : Nat} (hg : w.grownBy w' (some g)) (hk : ko = some g) (hb : Behind 22 po w.heap[g]? w'.heap[g]?) : Two kb ko pb po w w' :=
  ⟨hg.os, hg.tape, hg.output, hg.size, fun k hk' => by
    by_cases e : k = g
    · subst e; exact .inr (.inr ⟨hk.symm, hb⟩)
    · exact .inl (hg.block k hk' (fun h => e (Option.some.inj h)))⟩

/-- 'append(s, x...)' as an operation of such a region: bytes. -/
theorem ob_appB {ops : Array Oper} {a : Act} {w : World} {o : Oper} {d : Nat} (s x : Operand) (ho : o.op = .call { callee := .builtin .append, args := #[s, x], argTypes := #[22, 22] })
    (hw : Region.wanted o (yielded ops a.tmps) = true) (hd : o.dst = some d) (hs : decide (d < a.tmps.size) = true) {base n m : Nat} {xs news : List Value}
    (hown : w.ownsRow base 5 1 (a.eval s) n xs) (hx : Row w 1 (a.eval x) m news) (h1 : ∀ u ∈ news, u.oneCell' = true) (hm : 0 < m) (hkb : kb = (a.eval s).ownBlock) (hpb : pb = xs ++ news)
    (hlen : n + m ≤ 140737488355328) (hbase : base ≤ w.heap.size) :
    wpList Try.prog ops (Rg.endQ (two kb ko pb po) (factB (kb := kb) (ko := ko) (pb := pb) (po := po) base (n + m) pb ⟨[], (List.append_nil _).symm⟩).p o a w) [o] a w := by
  subst hpb
  obtain ⟨i, hi1, hi2, hi3, hi4⟩ := info_parts info5
  obtain ⟨hl, ad, cap, hv, hc, hmx, hnil, hspot, hcell⟩ := hx
  cases ad with
  | none => have := hnil rfl; omega
  | some p =>
    have hps : p.spot = none := hspot p rfl (by omega)
    have hadd : ∀ j, p.add j = ⟨p.block, p.off + j, none⟩ := fun j => by
      obtain ⟨pb', po', ps⟩ := p
      simp only at hps; subst hps
      unfold Addr.add; split <;> simp_all
    obtain ⟨v', w', hr, ho', hcase⟩ := run_append_beh (P := Try.prog) (w := w) base 22 o.type 5 i (.int .u8 0) 1 Try.underlying22 hi1 hi2 hi3 hi4 rfl (a.eval s) n xs hown p m cap news hl (fun j u hj => by
      obtain ⟨p', hp', hcl⟩ := hcell j u hj
      simp only [Option.some.injEq] at hp'; subst hp'
      rw [hadd]; exact hcl) h1 hm (by simp only [maxLen]; omega) (by omega) hbase
    refine Rg.ob_val _ hw (by simp only [execOp, ho, resolve, invoke, builtin, Sem.run_bind, Sem.run_pure, Result.andThen_ok, List.map_toArray, List.map_cons, List.map_nil, hv, hr]) ?_ hd hs ho'
    rcases hcase with ⟨hx', _⟩ | ⟨_, hg, g, hgk, hbe⟩
    · exact Two.of_ext hx'
    · rw [hgk] at hg
      exact Two.of_beh5 hg (hkb.trans hgk) hbe

/-- 'append(s, x...)' as an operation of such a region: slices. -/
theorem ob_appO {ops : Array Oper} {a : Act} {w : World} {o : Oper} {d : Nat} (s x : Operand) (ho : o.op = .call { callee := .builtin .append, args := #[s, x], argTypes := #[41, 41] })
    (hw : Region.wanted o (yielded ops a.tmps) = true) (hd : o.dst = some d) (hs : decide (d < a.tmps.size) = true) {base n m : Nat} {xs news : List Value}
    (hown : w.ownsRow base 22 1 (a.eval s) n xs) (hx : Row w 1 (a.eval x) m news) (h1 : ∀ u ∈ news, u.oneCell' = true) (hm : 0 < m) (hkb : ko = (a.eval s).ownBlock) (hpb : po = xs ++ news)
    (hlen : n + m ≤ 1000000) (hbase : base ≤ w.heap.size) :
    wpList Try.prog ops (Rg.endQ (two kb ko pb po) (factO (kb := kb) (ko := ko) (pb := pb) (po := po) base (n + m) po ⟨[], (List.append_nil _).symm⟩).p o a w) [o] a w := by
  subst hpb
  obtain ⟨i, hi1, hi2, hi3, hi4⟩ := info_parts info22
  obtain ⟨hl, ad, cap, hv, hc, hmx, hnil, hspot, hcell⟩ := hx
  cases ad with
  | none => have := hnil rfl; omega
  | some p =>
    have hps : p.spot = none := hspot p rfl (by omega)
    have hadd : ∀ j, p.add j = ⟨p.block, p.off + j, none⟩ := fun j => by
      obtain ⟨pb', po', ps⟩ := p
      simp only at hps; subst hps
      unfold Addr.add; split <;> simp_all
    obtain ⟨v', w', hr, ho', hcase⟩ := run_append_beh (P := Try.prog) (w := w) base 41 o.type 22 i (.slice none 0 0) 24 Try.underlying41 hi1 hi2 hi3 hi4 rfl (a.eval s) n xs hown p m cap news hl (fun j u hj => by
      obtain ⟨p', hp', hcl⟩ := hcell j u hj
      simp only [Option.some.injEq] at hp'; subst hp'
      rw [hadd]; exact hcl) h1 hm (by simp only [maxLen]; omega) (by omega) hbase
    refine Rg.ob_val _ hw (by simp only [execOp, ho, resolve, invoke, builtin, Sem.run_bind, Sem.run_pure, Result.andThen_ok, List.map_toArray, List.map_cons, List.map_nil, hv, hr]) ?_ hd hs ho'
    rcases hcase with ⟨hx', _⟩ | ⟨_, hg, g, hgk, hbe⟩
    · exact Two.of_ext hx'
    · rw [hgk] at hg
      exact Two.of_beh22 hg (hkb.trans hgk) hbe

/-- A literal of one cell. -/
def factL (u : Value) : Rg.Fact (two kb ko pb po) :=
  ⟨fun v w => ∃ g, v = .slice (some ⟨g, 0, none⟩) 1 1 ∧ some g ≠ kb ∧ some g ≠ ko ∧ w.heap[g]? = some (.cells #[u] 22 (0, 0)), fun v w w' hx h => by
    obtain ⟨g, h1, h2, h3, h4⟩ := h
    refine ⟨g, h1, h2, h3, ?_⟩
    rcases (show Two kb ko pb po w w' from hx).block g (Array.getElem?_eq_some_iff.1 h4).1 with e | ⟨e, _⟩ | ⟨e, _⟩
    · rw [e]; exact h4
    · exact absurd e h2
    · exact absurd e h3⟩
end

end Go.Proofs.Ytanlhpmebpebgaa
