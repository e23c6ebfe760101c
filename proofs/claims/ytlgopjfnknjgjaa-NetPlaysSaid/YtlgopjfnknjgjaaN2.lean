/- A net where it lies in memory. -/
import Derived.Test.YtlgopjfnknjgjaaM2
import Derived.Test.YtlgopjfnknjgjaaK13
import Derived.Test.YtlgopjfnknjgjaaK8
import Derived.Test.YtlgopjfnknjgjaaProg
import Derived.Lib.Hide
import Derived.Deep.DeepCutAuto
namespace Go.Proofs.Ytlgopjfnknjgjaa
open Go.RowKit Go.MapKept

theorem frozen_row {w : World} {b : Nat} {c : Array Value} {t : TypeId} (h : w.heap[b]? = some (.cells c t (0, 0))) (o : Nat) : w.frozen? ⟨b, o, none⟩ = false := by simp [World.frozen?, h]
/-- A packet on its way: its number, from whom, for whom, its bytes; h: where these lie. -/
structure PK where
  id : Nat
  fr : Nat
  dst : Nat
  b : List UInt8
  h : Value
def bC (l : List UInt8) : List Value := l.map fun b => Value.int .u8 (b.toNat : Int)
theorem bC_len (l : List UInt8) : (bC l).length = l.length := List.length_map ..
theorem bC_one (l : List UInt8) : ∀ u ∈ bC l, u.oneCell' = true := by
  intro u hu
  obtain ⟨b, _, rfl⟩ := List.mem_map.1 hu
  rfl
/-- Bytes of the net's own. -/
def OwnB (w : World) (base : Nat) (v : Value) (l : List UInt8) : Prop := w.ownsRow base 5 1 v l.length (bC l)
theorem OwnB.bytes {w : World} {base : Nat} {v : Value} {l : List UInt8} (h : OwnB w base v l) : Bytes w v l := Row.of_own h
theorem OwnB.slice {w : World} {base : Nat} {v : Value} {l : List UInt8} (h : OwnB w base v l) : ∃ a c, v = .slice a l.length c := by
  obtain ⟨a, c, e, _⟩ := own_shape h
  exact ⟨a, c, e⟩
def pV (x : PK) : Value := .agg #[.int .u64 x.id, .int .i64 x.fr, .int .i64 x.dst, x.h]
def pE (x : PK) : Value × Value := (.int .u64 (x.id : Nat), pV x)
def apartP (a b : PK) : Prop := ∀ g, a.h.ownBlock = some g → b.h.ownBlock ≠ some g
structure NetR (w : World) (base bn bm k last : Nat) (L : List PK) : Prop where
  net : w.heap[bn]? = some (.cells #[.int .i64 k, .int .u64 last, .map (some bm)] 87 (0, 0))
  map : MapE w bm (.int .u64) (L.map pE)
  lo : base ≤ bn ∧ base ≤ bm
  rise : L.Pairwise fun a b => a.id < b.id
  low : ∀ x ∈ L, 1 ≤ x.id ∧ x.id ≤ last
  own : ∀ x ∈ L, OwnB w base x.h x.b
  apart : L.Pairwise apartP
  inn : ∀ x ∈ L, x.fr < k ∧ x.dst < k
  max : k ≤ 64 ∧ L.length ≤ 4096 ∧ ∀ x ∈ L, x.b.length ≤ 4096

theorem NetR.ext {w w' : World} {base bn bm k last : Nat} {L : List PK} (h : NetR w base bn bm k last L) (hx : Ext w w') : NetR w' base bn bm k last L :=
  ⟨block_later h.net hx, h.map.ext hx, h.lo, h.rise, h.low, fun x hxL => own_ext (h.own x hxL) hx, h.apart, h.inn, h.max⟩
theorem NetR.ne {w : World} {base bn bm k last : Nat} {L : List PK} (h : NetR w base bn bm k last L) : bn ≠ bm := by
  intro e
  have h1 := h.net
  obtain ⟨es, clock, h2, _⟩ := h.map
  rw [e, h2] at h1
  cases h1
theorem NetR.cell {w : World} {base bn bm k last : Nat} {L : List PK} (h : NetR w base bn bm k last L) :
    w.cell? ⟨bn, 0, none⟩ = some (.int .i64 k) ∧ w.cell? ⟨bn, 1, none⟩ = some (.int .u64 last) ∧ w.cell? ⟨bn, 2, none⟩ = some (.map (some bm)) :=
  ⟨cell_of_row _ _ 0 _ _ _ h.net, cell_of_row _ _ 1 _ _ _ h.net, cell_of_row _ _ 2 _ _ _ h.net⟩
theorem NetR.frees {w : World} {base bn bm k last : Nat} {L : List PK} (h : NetR w base bn bm k last L) : ∀ j, w.frozen? ⟨bn, j, none⟩ = false := fun j => frozen_row h.net j
/-- What a net's calls leave: all but the net's own two blocks. -/
def Net2 (bn bm : Nat) (w w' : World) : Prop := Rr.Buts [some bn, some bm] w w'
theorem Net2.of {bn bm : Nat} {w w' : World} (h : Ext w w') : Net2 bn bm w w' := ⟨h.os, h.tape, h.output, h.size, fun k hk _ => h.block k hk⟩
theorem Net2.trans {bn bm : Nat} {a b c : World} (h : Net2 bn bm a b) (k : Net2 bn bm b c) : Net2 bn bm a c :=
  ⟨k.os.trans h.os, k.tape.trans h.tape, k.output.trans h.output, Nat.le_trans h.size k.size, fun i hi hn => (k.block i (Nat.lt_of_lt_of_le hi h.size) hn).trans (h.block i hi hn)⟩
theorem Net2.ext {bn bm : Nat} {w0 w w' : World} (h : Net2 bn bm w w') (hx : Ext w0 w) (h1 : w0.heap.size ≤ bn) (h2 : w0.heap.size ≤ bm) : Ext w0 w' :=
  Rr.Buts.ext h hx fun k hk => by
    simp only [List.mem_cons, List.not_mem_nil, or_false, Option.some.injEq] at hk
    rcases hk with rfl | rfl
    · exact h1
    · exact h2
theorem Net2.keep {bn bm k : Nat} {w w' : World} (h : Net2 bn bm w w') (hk : k < w.heap.size) (h1 : k ≠ bn) (h2 : k ≠ bm) : w'.heap[k]? = w.heap[k]? :=
  h.block k hk fun hm => by
    simp only [List.mem_cons, List.not_mem_nil, or_false, Option.some.injEq] at hm
    rcases hm with e | e
    · exact h1 e
    · exact h2 e
theorem Net2.row {bn bm : Nat} {w w' : World} (h : Net2 bn bm w w') {base size n : Nat} {e : TypeId} {v : Value} {xs : List Value} (ho : w.ownsRow base e size v n xs) (h1 : v.ownBlock ≠ some bn) (h2 : v.ownBlock ≠ some bm) : w'.ownsRow base e size v n xs := by
  refine ⟨ho.1, ?_⟩
  rcases ho.2 with h0 | ⟨g, cap, cur, rfl, hb, hg, rest⟩
  · exact .inl h0
  · have hg1 : g ≠ bn := fun e => h1 (by rw [e]; rfl)
    have hg2 : g ≠ bm := fun e => h2 (by rw [e]; rfl)
    exact .inr ⟨g, cap, cur, rfl, hb, by rw [h.keep (Array.getElem?_eq_some_iff.1 hg).1 hg1 hg2]; exact hg, rest⟩
theorem own_not_map {w : World} {base size n b : Nat} {e : TypeId} {v : Value} {xs : List Value} (ho : w.ownsRow base e size v n xs) {d : TypeDesc} {E : List (Value × Value)} (hm : MapE w b d E) : v.ownBlock ≠ some b := by
  intro hv
  obtain ⟨es, clock, h2, _⟩ := hm
  rcases ho.2 with ⟨rfl, _⟩ | ⟨g, cap, cur, rfl, _, hg, _⟩
  · simp [Value.ownBlock] at hv
  · simp only [Value.ownBlock, Option.some.injEq] at hv
    subst hv
    rw [h2] at hg
    cases hg
theorem NetR.row {w w' : World} {base bn bm k last : Nat} {L : List PK} (h : NetR w base bn bm k last L) (h2 : Net2 bn bm w w') {b2 size n : Nat} {e : TypeId} {v : Value} {xs : List Value} (ho : w.ownsRow b2 e size v n xs) (he : e ≠ 87) : w'.ownsRow b2 e size v n xs :=
  h2.row ho (own_ne ho h.net he) (own_not_map ho h.map)
theorem NetR.bnlt {w : World} {base bn bm k last : Nat} {L : List PK} (h : NetR w base bn bm k last L) : bn < w.heap.size := (Array.getElem?_eq_some_iff.1 h.net).1
theorem NetR.bmlt {w : World} {base bn bm k last : Nat} {L : List PK} (h : NetR w base bn bm k last L) : bm < w.heap.size := h.map.lt
/-- Another map lies as it lay. -/
theorem NetR.mapE {w w' : World} {base bn bm k last b : Nat} {L : List PK} (h : NetR w base bn bm k last L) (h2 : Net2 bn bm w w') {d : TypeDesc} {E : List (Value × Value)} (hm : MapE w b d E) (hb : b ≠ bm) : MapE w' b d E := by
  have hlt := hm.lt
  have hbn : b ≠ bn := fun e => by
    obtain ⟨es, clock, h1, _⟩ := hm
    rw [e, h.net] at h1
    cases h1
  obtain ⟨es, clock, h1, rest⟩ := hm
  exact ⟨es, clock, (h2.keep hlt hbn hb).trans h1, rest⟩
theorem net_find (L : List PK) (id : Nat) : (∀ x ∈ L, x.id ≠ id) ∨ ∃ L1 x L2, L = L1 ++ x :: L2 ∧ x.id = id := by
  by_cases h : ∃ x ∈ L, x.id = id
  · obtain ⟨x, hx, e⟩ := h
    obtain ⟨L1, L2, rfl⟩ := List.append_of_mem hx
    exact .inr ⟨L1, x, L2, rfl, e⟩
  · exact .inl fun x hx e => h ⟨x, hx, e⟩
theorem NetR.sub {w : World} {base bn bm k last : Nat} {L L' : List PK} (h : NetR w base bn bm k last L) (hs : L'.Sublist L) {w' : World} (hn : w'.heap[bn]? = some (.cells #[.int .i64 k, .int .u64 last, .map (some bm)] 87 (0, 0))) (hm : MapE w' bm (.int .u64) (L'.map pE)) (ho : ∀ x ∈ L, OwnB w' base x.h x.b) : NetR w' base bn bm k last L' :=
  ⟨hn, hm, h.lo, h.rise.sublist hs, fun x hx => h.low x (hs.subset hx), fun x hx => ho x (hs.subset hx), h.apart.sublist hs, fun x hx => h.inn x (hs.subset hx), h.max.1, Nat.le_trans hs.length_le h.max.2.1, fun x hx => h.max.2.2 x (hs.subset hx)⟩
theorem u64_ne {a b : Nat} (h : a ≠ b) : Value.int .u64 (a : Nat) ≠ Value.int .u64 (b : Nat) := fun e => h (by simp only [Value.int.injEq, true_and] at e; omega)
end Go.Proofs.Ytlgopjfnknjgjaa
