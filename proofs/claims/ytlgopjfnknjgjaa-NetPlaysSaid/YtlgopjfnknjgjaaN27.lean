/- NetPlays: what its walk keeps of the two nets side by side. -/
import Derived.Test.YtlgopjfnknjgjaaN24
import Derived.Test.YtlgopjfnknjgjaaN12
import Derived.Test.YtlgopjfnknjgjaaN26
import Derived.Test.YtlgopjfnknjgjaaN28
import Derived.Test.YtlgopjfnknjgjaaN14
namespace Go.Proofs.Ytlgopjfnknjgjaa
open Go.RowKit Go.MapKept

/-- Both nets, and what lay there before. -/
structure Two (w0 w : World) (base bn bm k last : Nat) (L : List PK) (base2 rb last2 : Nat) (lv : Value) (R : List PK) : Prop where
  net : NetR w base bn bm k last L
  ref : RefR w base2 rb k last2 lv R
  away : AwayL L R
  ext : Ext w0 w
  lo : w0.heap.size ≤ base ∧ w0.heap.size ≤ base2
section
variable {w0 w w' : World} {base bn bm k last : Nat} {L : List PK} {base2 rb last2 : Nat} {lv : Value} {R : List PK}
theorem Two.ext' (h : Two w0 w base bn bm k last L base2 rb last2 lv R) (hx : Ext w w') : Two w0 w' base bn bm k last L base2 rb last2 lv R :=
  ⟨h.net.ext hx, h.ref.ext hx, h.away, h.ext.trans hx, h.lo⟩
theorem Two.lows (h : Two w0 w base bn bm k last L base2 rb last2 lv R) : w0.heap.size ≤ bn ∧ w0.heap.size ≤ bm ∧ w0.heap.size ≤ rb ∧ NewB w0.heap.size lv :=
  ⟨Nat.le_trans h.lo.1 h.net.lo.1, Nat.le_trans h.lo.1 h.net.lo.2, Nat.le_trans h.lo.2 h.ref.lo, fun g hg => Nat.le_trans h.lo.2 (own_base h.ref.row g hg)⟩
theorem Two.net' (h : Two w0 w base bn bm k last L base2 rb last2 lv R) {last' : Nat} {L' : List PK} (hn : NetR w' base bn bm k last' L') (h2 : Net2 bn bm w w') (hl : NewL w.heap.size L L') : Two w0 w' base bn bm k last' L' base2 rb last2 lv R := by
  refine ⟨hn, h.ref.beside h.net h2, fun x hx y hy g hg e => ?_, h2.ext h.ext h.lows.1 h.lows.2.1, h.lo⟩
  rcases hl x hx with hx | hx
  · exact h.away x hx y hy g hg e
  · have h1 := hx g hg
    have h2 := ((h.ref.own y hy).lt g e).2
    omega
theorem Two.ref' (h : Two w0 w base bn bm k last L base2 rb last2 lv R) {last2' : Nat} {lv' : Value} {R' : List PK} (hn : RefR w' base2 rb k last2' lv' R') (h2 : RefF rb lv w w') (hl : NewL w.heap.size R R') : Two w0 w' base bn bm k last L base2 rb last2' lv' R' := by
  refine ⟨h.net.beside h.ref h2, hn, fun x hx y hy g hg e => ?_, h2.ext h.ext h.lows.2.2.1 h.lows.2.2.2, h.lo⟩
  rcases hl y hy with hy | hy
  · exact h.away x hx y hy g hg e
  · have h1 := hy g e
    have h2 := ((h.net.own x hx).lt g hg).2
    omega
theorem Two.turn (h : Two w0 w base bn bm k last L base2 rb last2 lv R) {b2 n : Nat} {v : Value} {xs : List Value} (ho : w.ownsRow b2 5 1 v n xs) (hb : w0.heap.size ≤ b2) (ha : AwayV v L) (hr : AwayV v R) (hg : w.grownBy w' v.ownBlock) : Two w0 w' base bn bm k last L base2 rb last2 lv R :=
  ⟨h.net.turn ho ha hg, h.ref.turn ho hr hg, h.away, h.ext.grown_none hg fun g hgg => Nat.le_trans hb (own_base ho g hgg), h.lo⟩
/-- A copy goes on in the net's place. -/
theorem Two.copy (h : Two w0 w base bn bm k last L base2 rb last2 lv R) {cn cm : Nat} {L' : List PK} (hn : NetR w' w.heap.size cn cm k last L') (hx : Ext w w') : Two w0 w' w.heap.size cn cm k last L' base2 rb last2 lv R := by
  refine ⟨hn, h.ref.ext hx, fun x hx' y hy g hg e => ?_, h.ext.trans hx, h.ext.size, h.lo.2⟩
  have h1 := own_base (hn.own x hx') g hg
  have h2 := ((h.ref.own y hy).lt g e).2
  omega
end
theorem AwayV.new {v : Value} {n : Nat} {L L' : List PK} (h : AwayV v L) (hl : NewL n L L') (hv : ∀ g, v.ownBlock = some g → g < n) : AwayV v L' := fun y hy g hg e => by
  rcases hl y hy with hy | hy
  · exact h y hy g hg e
  · have h1 := hy g e
    have h2 := hv g hg
    omega
theorem AwayV.fresh {w : World} {base : Nat} {L : List PK} {v : Value} (hL : ∀ x ∈ L, OwnB w base x.h x.b) (hv : NewB w.heap.size v) : AwayV v L := fun y hy g hg e => by
  have h1 := hv g hg
  have h2 := ((hL y hy).lt g e).2
  omega
/-- A net whose blocks are all newer stays, whatever an older one does. -/
theorem NetR.far {w w' : World} {base bn bm k last : Nat} {L : List PK} (h : NetR w base bn bm k last L) {on om : Nat} (h2 : Net2 on om w w') (h1 : on < base) (h1' : om < base) : NetR w' base bn bm k last L := by
  have hn : bn ≠ on := by have := h.lo.1; omega
  have hm : bn ≠ om := by have := h.lo.1; omega
  have hn' : bm ≠ on := by have := h.lo.2; omega
  have hm' : bm ≠ om := by have := h.lo.2; omega
  refine ⟨(h2.keep h.bnlt hn hm).trans h.net, ?_, h.lo, h.rise, h.low, fun x hx => h2.row (h.own x hx) (fun e => ?_) (fun e => ?_), h.apart, h.inn, h.max⟩
  · obtain ⟨es, clock, hb, rest⟩ := h.map
    exact ⟨es, clock, (h2.keep h.bmlt hn' hm').trans hb, rest⟩
  · have := own_base (h.own x hx) _ e; omega
  · have := own_base (h.own x hx) _ e; omega
section
variable {w0 w w' : World} {base bn bm k last : Nat} {L : List PK} {base2 rb last2 : Nat} {lv : Value} {R : List PK}
/-- An older net's calls beside both. -/
theorem Two.old (h : Two w0 w base bn bm k last L base2 rb last2 lv R) {base3 on om k3 last3 : Nat} {L3 : List PK} (hn : NetR w base3 on om k3 last3 L3) (h2 : Net2 on om w w') (h1 : on < base) (h1' : om < base) (h3 : w0.heap.size ≤ on) (h3' : w0.heap.size ≤ om) : Two w0 w' base bn bm k last L base2 rb last2 lv R :=
  ⟨h.net.far h2 h1 h1', h.ref.beside hn h2, h.away, h2.ext h.ext h3 h3', h.lo⟩
end
theorem NetR.few {w : World} {base bn bm k last : Nat} {L : List PK} (h : NetR w base bn bm k last L) : L.length ≤ last := by
  have key : ∀ (l : List PK) (lo hi : Nat), (l.Pairwise fun a b => a.id < b.id) → (∀ x ∈ l, lo < x.id ∧ x.id ≤ hi) → lo + l.length ≤ hi ∨ l = [] := by
    intro l
    induction l with
    | nil => exact fun _ _ _ _ => .inr rfl
    | cons a l ih =>
      intro lo hi hp hl
      have ha := hl a (List.mem_cons_self ..)
      rw [List.pairwise_cons] at hp
      rcases ih a.id hi hp.2 (fun x hx => ⟨hp.1 x hx, (hl x (List.mem_cons_of_mem _ hx)).2⟩) with h | h
      · left; rw [List.length_cons]; omega
      · left; subst h; simp only [List.length_cons, List.length_nil]; omega
  rcases key L 0 last h.rise (fun x hx => h.low x hx) with h | h
  · omega
  · subst h; exact Nat.zero_le _

/-- Both nets, and the call's box. -/
structure TwoB (w0 w : World) (base bn bm k last : Nat) (L : List PK) (base2 rb last2 : Nat) (lv : Value) (R : List PK) (bx : Nat) (bc : Array Value) : Prop where
  t : Two w0 w base bn bm k last L base2 rb last2 lv R
  box : w.heap[bx]? = some (.cells bc 54 (0, 0))
/-- Bytes of the call's own, in neither net. -/
structure MineB (w0 w : World) (L R : List PK) (v : Value) (l : List UInt8) : Prop where
  own : ∃ b, w0.heap.size ≤ b ∧ OwnB w b v l
  net : AwayV v L
  ref : AwayV v R
theorem RefR.boxF {w w' : World} {base rb k last : Nat} {lv : Value} {R : List PK} (h : RefR w base rb k last lv R) (hf : RefF rb lv w w') {bx : Nat} {c : Array Value} {t : TypeId} {fr : Nat × Nat} (hb : w.heap[bx]? = some (.cells c t fr)) (ht : t ≠ 82) (ht2 : t ≠ 75) : w'.heap[bx]? = some (.cells c t fr) := by
  refine (hf.keep (Array.getElem?_eq_some_iff.1 hb).1 (fun e => ?_) (fun e => ?_)).trans hb
  · rw [e, h.net] at hb; cases hb; exact ht rfl
  · exact own_ne h.row hb (Ne.symm ht2) e
section
variable {w0 w w' : World} {base bn bm k last : Nat} {L : List PK} {base2 rb last2 : Nat} {lv : Value} {R : List PK} {bx : Nat} {bc : Array Value}
theorem TwoB.ext' (h : TwoB w0 w base bn bm k last L base2 rb last2 lv R bx bc) (hx : Ext w w') : TwoB w0 w' base bn bm k last L base2 rb last2 lv R bx bc := ⟨h.t.ext' hx, block_later h.box hx⟩
theorem TwoB.net' (h : TwoB w0 w base bn bm k last L base2 rb last2 lv R bx bc) {last' : Nat} {L' : List PK} (hn : NetR w' base bn bm k last' L') (h2 : Net2 bn bm w w') (hl : NewL w.heap.size L L') : TwoB w0 w' base bn bm k last' L' base2 rb last2 lv R bx bc :=
  ⟨h.t.net' hn h2 hl, h.t.net.box h2 h.box (by decide)⟩
theorem TwoB.ref' (h : TwoB w0 w base bn bm k last L base2 rb last2 lv R bx bc) {last2' : Nat} {lv' : Value} {R' : List PK} (hn : RefR w' base2 rb k last2' lv' R') (h2 : RefF rb lv w w') (hl : NewL w.heap.size R R') : TwoB w0 w' base bn bm k last L base2 rb last2' lv' R' bx bc :=
  ⟨h.t.ref' hn h2 hl, h.t.ref.boxF h2 h.box (by decide) (by decide)⟩
theorem TwoB.cells {a b c d e : Value} (h : TwoB w0 w base bn bm k last L base2 rb last2 lv R bx #[a, b, c, d, e]) : w.cell? ⟨bx, 0, none⟩ = some a ∧ w.cell? ⟨bx, 1, none⟩ = some b ∧ w.cell? ⟨bx, 2, none⟩ = some c ∧ w.cell? ⟨bx, 3, none⟩ = some d ∧ w.cell? ⟨bx, 4, none⟩ = some e :=
  ⟨cell_of_row _ _ 0 _ _ _ h.box, cell_of_row _ _ 1 _ _ _ h.box, cell_of_row _ _ 2 _ _ _ h.box, cell_of_row _ _ 3 _ _ _ h.box, cell_of_row _ _ 4 _ _ _ h.box⟩
theorem TwoB.mine (h : TwoB w0 w base bn bm k last L base2 rb last2 lv R bx bc) {v : Value} {lb : List UInt8} (ho : w'.ownsRow w.heap.size 5 1 v lb.length (bC lb)) (hx : Ext w w') : TwoB w0 w' base bn bm k last L base2 rb last2 lv R bx bc ∧ MineB w0 w' L R v lb :=
  ⟨h.ext' hx, ⟨w.heap.size, h.t.ext.size, ho⟩, AwayV.fresh h.t.net.own (own_base ho), AwayV.fresh h.t.ref.own (own_base ho)⟩
theorem MineB.ext {v : Value} {l : List UInt8} (h : MineB w0 w L R v l) (hx : Ext w w') : MineB w0 w' L R v l := by
  obtain ⟨b, hb, ho⟩ := h.own
  exact ⟨⟨b, hb, own_ext ho hx⟩, h.net, h.ref⟩
theorem MineB.bytes {v : Value} {l : List UInt8} (h : MineB w0 w L R v l) : Bytes w v l := by
  obtain ⟨b, hb, ho⟩ := h.own
  exact OwnB.bytes ho
theorem MineB.len {a : Option Addr} {n c : Nat} {l : List UInt8} (h : MineB w0 w L R (.slice a n c) l) : n ≤ 9223372036854775807 := by
  obtain ⟨b, hb, ho⟩ := h.own
  obtain ⟨_, _, e, h1, h2⟩ := own_shape ho
  unfold maxLen at h2
  simp only [Value.slice.injEq] at e
  omega
theorem MineB.spot {a : Option Addr} {n c : Nat} {l : List UInt8} (h : MineB w0 w L R (.slice a n c) l) (hn : 0 < n) : ∃ g, a = some ⟨g, 0, none⟩ := by
  obtain ⟨b, hb, ho⟩ := h.own
  rcases ho.2 with ⟨e, h0⟩ | ⟨g, cap, cur, e, _⟩
  · cases e; omega
  · simp only [Value.slice.injEq] at e
    exact ⟨g, e.1⟩
theorem TwoB.few (h : TwoB w0 w base bn bm k last L base2 rb last2 lv R bx bc) (hk : L.map kK = R.map kK) (hl : last ≤ 200) : L.length < 4096 ∧ R.length < 4096 ∧ (∀ x ∈ R, x.b.length ≤ 4096) := by
  have h1 := h.t.net.few
  have h2 := congrArg List.length hk
  rw [List.length_map, List.length_map] at h2
  refine ⟨by omega, by omega, fun x hx => ?_⟩
  have hm : kK x ∈ L.map kK := by rw [hk]; exact List.mem_map.2 ⟨x, hx, rfl⟩
  obtain ⟨y, hy, e⟩ := List.mem_map.1 hm
  simp only [kK, Prod.mk.injEq] at e
  rw [← e.2.2.2]
  exact h.t.net.max.2.2 y hy
/-- The program's Send. -/
theorem TwoB.send (h : TwoB w0 w base bn bm k last L base2 rb last2 lv R bx bc) {K : List KP} (hK : L.map kK = K) {v : Value} {lb : List UInt8} (hv : MineB w0 w L R v lb) (hf : L.length < 4096) (hlast : last < 1000000000) (p q : Int) {eN aN : Nat} (he : sE k p q lb.length = eN) (ha : aE eN last = aN) :
    Calls Try.prog 22 #[.pointer (some ⟨bn, 0, none⟩), .int .i64 p, .int .i64 q, v] w fun e w' => e = .returned (.tuple #[.int .u64 aN, .int .i64 eN]) ∧ ∃ L', L'.map kK = moreK K eN last p.toNat q.toNat lb ∧ TwoB w0 w' base bn bm k (lE eN last) L' base2 rb last2 lv R bx bc ∧ MineB w0 w' L' R v lb := by
  obtain ⟨b, hb, ho⟩ := hv.own
  subst he; subst ha
  refine (sdP w base bn bm k last L h.t.net K hK p q b v lb ho hf hlast).mono ?_
  rintro e w' ⟨rfl, L', h1, h2, h3, h4⟩
  exact ⟨rfl, L', h1, h.net' h3 h4 h2, ⟨b, hb, h.t.net.row h4 ho (by decide)⟩, hv.net.new h2 fun g hg => (ho.lt g hg).2, hv.ref⟩
/-- The document's. -/
theorem TwoB.rsend (h : TwoB w0 w base bn bm k last L base2 rb last2 lv R bx bc) {K : List KP} (hK : R.map kK = K) {v vb : Value} {lv0 lb : List UInt8} (hv : MineB w0 w L R v lv0) (hb : Bytes w0 vb lb) (hf : R.length < 4096) (hlast : last2 < 1000000000) (p q : Int) {eN aN : Nat} (he : sE k p q lb.length = eN) (ha : aE eN last2 = aN) :
    Calls Try.prog 29 #[.pointer (some ⟨rb, 0, none⟩), .int .i64 p, .int .i64 q, vb] w fun e w' => e = .returned (.tuple #[.int .u64 aN, .int .i64 eN]) ∧ ∃ lv' R', R'.map kK = moreK K eN last2 p.toNat q.toNat lb ∧ TwoB w0 w' base bn bm k last L base2 rb (lE eN last2) lv' R' bx bc ∧ MineB w0 w' L R' v lv0 := by
  obtain ⟨b, hb2, ho⟩ := hv.own
  subst he; subst ha
  refine (rsdR w base2 rb k last2 lv R h.t.ref K hK p q vb lb (fun w' hw => Bytes.ext hb (hw.ext h.t.ext h.t.lows.2.2.1 h.t.lows.2.2.2)) hf hlast).mono ?_
  rintro e w' ⟨rfl, ⟨lv', R', h1, h2, h3⟩, h4⟩
  exact ⟨rfl, lv', R', h1, h.ref' h3 h4 h2, ⟨b, hb2, h.t.ref.rowF h4 ho (by decide) (by decide)⟩, hv.net, hv.ref.new h2 fun g hg => (ho.lt g hg).2⟩
/-- The program's Deliver. -/
theorem TwoB.deliver (h : TwoB w0 w base bn bm k last L base2 rb last2 lv R bx bc) {K : List KP} (hK : L.map kK = K) (id : Nat) {eN fN tN : Nat} {bN : List UInt8} (he : dE K id = eN) (hf : dF K id = fN) (ht : dT K id = tN) (hb : dB K id = bN) :
    Calls Try.prog 23 #[.pointer (some ⟨bn, 0, none⟩), .int .u64 id] w fun e w' => ∃ a c L', e = .returned (.tuple #[.int .i64 fN, .int .i64 tN, .slice a bN.length c, .int .i64 eN]) ∧ L'.map kK = lessK K id ∧ TwoB w0 w' base bn bm k last L' base2 rb last2 lv R bx bc ∧ MineB w0 w' L' R (.slice a bN.length c) bN := by
  subst he; subst hf; subst ht; subst hb
  refine (dlP w base bn bm k last L h.t.net K hK id).mono ?_
  rintro e w' ⟨data, L', rfl, h1, h2, h3, h4, h5, h6, h7⟩
  obtain ⟨a, c, rfl⟩ := OwnB.slice h5
  refine ⟨a, c, L', rfl, h1, h.net' h3 h4 (NewL.sub h2), ⟨base, h.t.lo.1, h5⟩, h6, ?_⟩
  rcases h7 with h7 | ⟨x, hx, e⟩
  · rw [h7]; exact AwayV.none
  · rw [e]; exact h.t.away x hx
/-- The document's, beside bytes of the call's own. -/
theorem TwoB.rdeliver (h : TwoB w0 w base bn bm k last L base2 rb last2 lv R bx bc) {K : List KP} (hK : R.map kK = K) (hlen : R.length ≤ 4096) {v : Value} {l : List UInt8} (hv : MineB w0 w L R v l) (id : Nat) {eN fN tN : Nat} {bN : List UInt8} (he : dE K id = eN) (hf : dF K id = fN) (ht : dT K id = tN) (hb : dB K id = bN) :
    Calls Try.prog 30 #[.pointer (some ⟨rb, 0, none⟩), .int .u64 id] w fun e w' => ∃ iN a c lv' R', e = .returned (.tuple #[.agg #[.int .u64 (iN : Nat), .int .i64 fN, .int .i64 tN, .slice a bN.length c], .int .i64 eN]) ∧ R'.map kK = lessK K id ∧ TwoB w0 w' base bn bm k last L base2 rb last2 lv' R' bx bc ∧ MineB w0 w' L R' v l ∧ Bytes w' (.slice a bN.length c) bN := by
  obtain ⟨b, hb2, ho⟩ := hv.own
  subst he; subst hf; subst ht; subst hb
  refine (rdlR w base2 rb k last2 lv R h.t.ref K hK id hlen).mono ?_
  rintro e w' ⟨pb, lv', R', rfl, h1, h2, h3, h4, h5⟩
  obtain ⟨a, c, rfl⟩ := OwnB.slice h5
  exact ⟨dI K id, a, c, lv', R', rfl, h1, h.ref' h3 h4 (NewL.sub h2), ⟨⟨b, hb2, h.t.ref.rowF h4 ho (by decide) (by decide)⟩, hv.net, hv.ref.sub h2.subset⟩, OwnB.bytes h5⟩
theorem MineB.nil (w0 w : World) (L R : List PK) : MineB w0 w L R (.slice none 0 0) [] := ⟨⟨w0.heap.size, Nat.le_refl _, own_none _ _ _ _⟩, AwayV.none, AwayV.none⟩
theorem TwoB.drop (h : TwoB w0 w base bn bm k last L base2 rb last2 lv R bx bc) {K : List KP} (hK : L.map kK = K) (id : Nat) {eN : Nat} (he : dE K id = eN) :
    Calls Try.prog 24 #[.pointer (some ⟨bn, 0, none⟩), .int .u64 id] w fun e w' => e = .returned (.int .i64 eN) ∧ ∃ L', L'.map kK = lessK K id ∧ TwoB w0 w' base bn bm k last L' base2 rb last2 lv R bx bc := by
  subst he
  refine (drP w base bn bm k last L h.t.net K hK id).mono ?_
  rintro e w' ⟨rfl, L', h1, h2, h3, h4⟩
  exact ⟨rfl, L', h1, h.net' h3 h4 (NewL.sub h2)⟩
theorem TwoB.double (h : TwoB w0 w base bn bm k last L base2 rb last2 lv R bx bc) {K : List KP} (hK : L.map kK = K) (id : Nat) (hf : L.length < 4096) (hlast : last < 1000000000) {eN aN : Nat} (he : dE K id = eN) (ha : aE eN last = aN) :
    Calls Try.prog 25 #[.pointer (some ⟨bn, 0, none⟩), .int .u64 id] w fun e w' => e = .returned (.tuple #[.int .u64 aN, .int .i64 eN]) ∧ ∃ L', L'.map kK = moreK K eN last (dF K id) (dT K id) (dB K id) ∧ TwoB w0 w' base bn bm k (lE eN last) L' base2 rb last2 lv R bx bc := by
  subst he; subst ha
  refine (dbP w base bn bm k last L h.t.net K hK id hf hlast).mono ?_
  rintro e w' ⟨rfl, L', h1, h2, h3, h4⟩
  exact ⟨rfl, L', h1, h.net' h3 h4 h2⟩
theorem TwoB.rdouble (h : TwoB w0 w base bn bm k last L base2 rb last2 lv R bx bc) {K : List KP} (hK : R.map kK = K) (id : Nat) (hbl : ∀ x ∈ R, x.b.length ≤ 4096) (hf : R.length < 4096) (hlast : last2 < 1000000000) {eN aN : Nat} (he : dE K id = eN) (ha : aE eN last2 = aN) :
    Calls Try.prog 31 #[.pointer (some ⟨rb, 0, none⟩), .int .u64 id] w fun e w' => e = .returned (.tuple #[.int .u64 aN, .int .i64 eN]) ∧ ∃ lv' R', R'.map kK = moreK K eN last2 (dF K id) (dT K id) (dB K id) ∧ TwoB w0 w' base bn bm k last L base2 rb (lE eN last2) lv' R' bx bc := by
  subst he; subst ha
  refine (rdbR w base2 rb k last2 lv R h.t.ref K hK id hbl hf hlast).mono ?_
  rintro e w' ⟨rfl, ⟨lv', R', h1, h2, h3⟩, h4⟩
  exact ⟨rfl, lv', R', h1, h.ref' h3 h4 h2⟩
/-- One of the bytes is turned. -/
theorem TwoB.turn (h : TwoB w0 w base bn bm k last L base2 rb last2 lv R bx bc) {g n c : Nat} {l : List UInt8} (hv : MineB w0 w L R (.slice (some ⟨g, 0, none⟩) n c) l) {j : Nat} (hj : j < l.length) (b : UInt8) :
    TwoB w0 (w.setCell ⟨g, j, none⟩ (.int .u8 (b.toNat : Int))) base bn bm k last L base2 rb last2 lv R bx bc ∧ MineB w0 (w.setCell ⟨g, j, none⟩ (.int .u8 (b.toNat : Int))) L R (.slice (some ⟨g, 0, none⟩) n c) (l.set j b) := by
  obtain ⟨b2, hb, ho⟩ := hv.own
  have hn : n = l.length := by obtain ⟨_, _, e, _⟩ := own_shape ho; simp only [Value.slice.injEq] at e; exact e.2.1
  subst hn
  obtain ⟨s1, s2⟩ := own_set1 ho (j := j) (by rw [bC_len]; exact hj) (.int .u8 (b.toNat : Int))
  have e : (bC l).set j (.int .u8 (b.toNat : Int)) = bC (l.set j b) := by unfold bC; rw [List.map_set]
  rw [e] at s1
  refine ⟨⟨h.t.turn ho hb hv.net hv.ref s2, (s2.block bx (Array.getElem?_eq_some_iff.1 h.box).1 (fun q => own_ne ho h.box (by decide) q.symm)).trans h.box⟩, ⟨b2, hb, ?_⟩, hv.net, hv.ref⟩
  show World.ownsRow _ _ _ _ _ _ _
  rw [List.length_set]; exact s1
end
theorem own_free2 {base size n cap g : Nat} {e : TypeId} {w : World} {xs : List Value} (h : w.ownsRow base e size (.slice (some ⟨g, 0, none⟩) n cap) n xs) (i : Nat) : w.frozen? ⟨g, i, none⟩ = false := by
  rcases h.2 with ⟨e, _⟩ | ⟨g', c, cur, e, hb, hg, _⟩
  · cases e
  · cases e
    exact frozen_row hg i
theorem MineB.cell {w0 w : World} {L R : List PK} {g n c : Nat} {l : List UInt8} (h : MineB w0 w L R (.slice (some ⟨g, 0, none⟩) n c) l) {j : Nat} (hj : j < l.length) : w.cell? ⟨g, j, none⟩ = some (.int .u8 (l[j].toNat : Int)) ∧ w.frozen? ⟨g, j, none⟩ = false := by
  obtain ⟨b2, hb, ho⟩ := h.own
  have hn : n = l.length := by obtain ⟨_, _, e, _⟩ := own_shape ho; simp only [Value.slice.injEq] at e; exact e.2.1
  subst hn
  have h1 := Row.cellAt (Row.of_own ho) (j := j) (u := .int .u8 (l[j].toNat : Int)) (by unfold bC; rw [List.getElem?_map, List.getElem?_eq_getElem hj]; rfl) (by omega)
  rw [Nat.zero_add] at h1
  exact ⟨h1, own_free2 ho j⟩
theorem beq_int_ne {a b : Int} (h : a ≠ b) : (a == b) = false := beq_eq_false_iff_ne.2 h
theorem xor1 (b : UInt8) : ∃ m : UInt8, bits .xor .u8 (b.toNat : Int) 1 = (m.toNat : Int) := by
  have h : ∃ x : Int, bits .xor .u8 (b.toNat : Int) 1 = IntKind.u8.wrap x := ⟨_, rfl⟩
  obtain ⟨x, hx⟩ := h
  have hb : 0 ≤ IntKind.u8.wrap x ∧ IntKind.u8.wrap x < 256 := by simp [IntKind.wrap, IntKind.bits, IntKind.signed]; omega
  refine ⟨UInt8.ofNat (IntKind.u8.wrap x).toNat, ?_⟩
  rw [hx, UInt8.toNat_ofNat']
  omega
/-- The numbers between two: where the next one stands. -/
theorem betw_at {p q : Int} {l : List WY} {k : Nat} (hk : k < l.length) (h : isB p q l[k] = true) : (betw p q l)[(betw p q (l.take k)).length]? = some l[k].i ∧ (betw p q (l.take k)).length < (betw p q l).length := by
  have e : l = l.take k ++ l[k] :: l.drop (k + 1) := by rw [List.getElem_cons_drop, List.take_append_drop]
  have hb : betw p q l = betw p q (l.take k) ++ l[k].i :: betw p q (l.drop (k + 1)) := by
    conv => lhs; rw [e]
    unfold betw
    rw [List.filter_append, List.map_append, List.filter_cons_of_pos h, List.map_cons]
  rw [hb]
  refine ⟨by rw [List.getElem?_append_right (Nat.le_refl _), Nat.sub_self]; rfl, by rw [List.length_append, List.length_cons]; omega⟩
/-- What two rounds' ends keep. -/
def PlayW (w0 w : World) (k rb bn i : Nat) : Prop := ∃ base bm last L base2 lv R, Two w0 w base bn bm k last L base2 rb last lv R ∧ L.map kK = R.map kK ∧ last ≤ i
theorem PlayW.ext' {w0 w w' : World} {k rb bn i : Nat} (h : PlayW w0 w k rb bn i) (hx : Ext w w') : PlayW w0 w' k rb bn i := by
  obtain ⟨base, bm, last, L, base2, lv, R, h1, h2, h3⟩ := h
  exact ⟨base, bm, last, L, base2, lv, R, h1.ext' hx, h2, h3⟩
theorem same_ways {L R : List PK} (h : L.map kK = R.map kK) : L.map wOf = R.map wOf := by
  have e : wOf = (fun y : KP => (⟨y.1, y.2.1, y.2.2.1⟩ : WY)) ∘ kK := rfl
  rw [e, ← List.map_map, h, List.map_map]
theorem betw_count (p q : Int) (W : List WY) : ∃ f : Nat → Nat, f 0 = 0 ∧ (∀ j (hj : j < W.length), isB p q W[j] = true → f (j + 1) = f j + 1 ∧ (betw p q W)[f j]? = some W[j].i ∧ f j < (betw p q W).length) ∧ (∀ j (hj : j < W.length), isB p q W[j] = false → f (j + 1) = f j) ∧ f W.length = (betw p q W).length := by
  refine ⟨fun j => (betw p q (W.take j)).length, by simp [betw], fun j hj h => ?_, fun j hj h => ?_, by simp⟩
  · have h2 := betw_at hj h
    exact ⟨by simp only [betw_yes hj h, List.length_append, List.length_singleton], h2.1, h2.2⟩
  · simp only [betw_no hj h]
theorem lE_le {e last i : Nat} (h : last ≤ i) : lE e last ≤ i + 1 := by unfold lE; split <;> omega
section
variable {w0 w w' : World} {base bn bm k last : Nat} {L : List PK} {base2 rb last2 : Nat} {lv : Value} {R : List PK} {bx : Nat} {bc : Array Value}
/-- A net that was copied is called on; both others stay. -/
structure OldB (w0 w : World) (base bn bm k last : Nat) (L : List PK) (base3 on om last3 : Nat) (M : List PK) (base2 rb last2 : Nat) (lv : Value) (R : List PK) (bx : Nat) (bc : Array Value) : Prop where
  b : TwoB w0 w base bn bm k last L base2 rb last2 lv R bx bc
  o : NetR w base3 on om k last3 M
  lt : on < base ∧ om < base ∧ w0.heap.size ≤ on ∧ w0.heap.size ≤ om
theorem OldB.call {base3 on om last3 last3' : Nat} {M M' : List PK} (h : OldB w0 w base bn bm k last L base3 on om last3 M base2 rb last2 lv R bx bc) (hn : NetR w' base3 on om k last3' M') (h2 : Net2 on om w w') : OldB w0 w' base bn bm k last L base3 on om last3' M' base2 rb last2 lv R bx bc :=
  ⟨⟨h.b.t.old h.o h2 h.lt.1 h.lt.2.1 h.lt.2.2.1 h.lt.2.2.2, h.o.box h2 h.b.box (by decide)⟩, hn, h.lt⟩
theorem TwoB.copy (h : TwoB w0 w base bn bm k last L base2 rb last2 lv R bx bc) : Calls Try.prog 32 #[.pointer (some ⟨bn, 0, none⟩)] w fun e w' => ∃ cn cm L', e = .returned (.pointer (some ⟨cn, 0, none⟩)) ∧ L'.map kK = L.map kK ∧ OldB w0 w' w.heap.size cn cm k last L' base bn bm last L base2 rb last2 lv R bx bc ∧ TwoB w0 w' base bn bm k last L base2 rb last2 lv R bx bc ∧ NetR w' w.heap.size cn cm k last L' ∧ Ext w w' := by
  refine (copy_any w base bn bm k last L h.t.net).mono ?_
  rintro e w' ⟨cn, cm, L', rfl, h1, h2, h3⟩
  exact ⟨cn, cm, L', rfl, h1, ⟨⟨h.t.copy h2 h3, block_later h.box h3⟩, h.t.net.ext h3, h.t.net.bnlt, h.t.net.bmlt, h.t.lows.1, h.t.lows.2.1⟩, h.ext' h3, h2, h3⟩
theorem OldB.deliver {base3 on om last3 : Nat} {M : List PK} (h : OldB w0 w base bn bm k last L base3 on om last3 M base2 rb last2 lv R bx bc) (id : Nat) : Calls Try.prog 23 #[.pointer (some ⟨on, 0, none⟩), .int .u64 id] w fun e w' => ∃ a n c f t r M', e = .returned (.tuple #[.int .i64 (f : Nat), .int .i64 (t : Nat), .slice a n c, .int .i64 (r : Nat)]) ∧ M'.length ≤ M.length ∧ OldB w0 w' base bn bm k last L base3 on om last3 M' base2 rb last2 lv R bx bc := by
  refine (dlP w base3 on om k last3 M h.o _ rfl id).mono ?_
  rintro e w' ⟨data, L', rfl, h1, h2, h3, h4, h5, h6, h7⟩
  obtain ⟨a, c, rfl⟩ := OwnB.slice h5
  exact ⟨a, _, c, _, _, _, L', rfl, h2.length_le, h.call h3 h4⟩
theorem OldB.double {base3 on om last3 : Nat} {M : List PK} (h : OldB w0 w base bn bm k last L base3 on om last3 M base2 rb last2 lv R bx bc) (I : Int) (id : Nat) (hI : I = id) (hl : last3 ≤ 200) : Calls Try.prog 25 #[.pointer (some ⟨on, 0, none⟩), .int .u64 I] w fun e w' => ∃ a r : Nat, e = .returned (.tuple #[.int .u64 a, .int .i64 r]) ∧ TwoB w0 w' base bn bm k last L base2 rb last2 lv R bx bc := by
  subst hI
  have := h.o.few
  refine (dbP w base3 on om k last3 M h.o _ rfl id (by omega) (by omega)).mono ?_
  rintro e w' ⟨rfl, L', h1, h2, h3, h4⟩
  exact ⟨_, _, rfl, (h.call h3 h4).b⟩
/-- A copy is called; all that was there before stays. -/
structure NewN (w0 w : World) (base bn bm k last : Nat) (L : List PK) : Prop where
  n : NetR w base bn bm k last L
  ext : Ext w0 w
  lo : w0.heap.size ≤ base
theorem NewN.deliver (h : NewN w0 w base bn bm k last L) (id : Nat) : Calls Try.prog 23 #[.pointer (some ⟨bn, 0, none⟩), .int .u64 id] w fun e w' => ∃ a c f t r l L', e = .returned (.tuple #[.int .i64 (f : Nat), .int .i64 (t : Nat), .slice a (l : List UInt8).length c, .int .i64 (r : Nat)]) ∧ L'.length ≤ L.length ∧ NewN w0 w' base bn bm k last L' ∧ MineB w0 w' L' [] (.slice a l.length c) l := by
  refine (dlP w base bn bm k last L h.n _ rfl id).mono ?_
  rintro e w' ⟨data, L', rfl, h1, h2, h3, h4, h5, h6, h7⟩
  obtain ⟨a, c, rfl⟩ := OwnB.slice h5
  exact ⟨a, c, _, _, _, _, L', rfl, h2.length_le, ⟨h3, h4.ext h.ext (Nat.le_trans h.lo h.n.lo.1) (Nat.le_trans h.lo h.n.lo.2), h.lo⟩, ⟨base, h.lo, h5⟩, h6, fun _ h => nomatch h⟩
theorem NewN.turn (h : NewN w0 w base bn bm k last L) {g n c : Nat} {l : List UInt8} (hv : MineB w0 w L [] (.slice (some ⟨g, 0, none⟩) n c) l) {j : Nat} (hj : j < l.length) (b : UInt8) :
    NewN w0 (w.setCell ⟨g, j, none⟩ (.int .u8 (b.toNat : Int))) base bn bm k last L ∧ MineB w0 (w.setCell ⟨g, j, none⟩ (.int .u8 (b.toNat : Int))) L [] (.slice (some ⟨g, 0, none⟩) n c) (l.set j b) := by
  obtain ⟨b2, hb, ho⟩ := hv.own
  have hn : n = l.length := by obtain ⟨_, _, e, _⟩ := own_shape ho; simp only [Value.slice.injEq] at e; exact e.2.1
  subst hn
  obtain ⟨s1, s2⟩ := own_set1 ho (j := j) (by rw [bC_len]; exact hj) (.int .u8 (b.toNat : Int))
  have e : (bC l).set j (.int .u8 (b.toNat : Int)) = bC (l.set j b) := by unfold bC; rw [List.map_set]
  rw [e] at s1
  refine ⟨⟨h.n.turn ho hv.net s2, h.ext.grown_none (v := .slice (some ⟨g, 0, none⟩) l.length c) s2 fun q hq => Nat.le_trans hb (own_base ho q hq), h.lo⟩, ⟨b2, hb, ?_⟩, hv.net, hv.ref⟩
  show World.ownsRow _ _ _ _ _ _ _
  rw [List.length_set]; exact s1
theorem NewN.double (h : NewN w0 w base bn bm k last L) (I : Int) (id : Nat) (hI : I = id) (hl : last ≤ 200) : Calls Try.prog 25 #[.pointer (some ⟨bn, 0, none⟩), .int .u64 I] w fun e w' => ∃ a r : Nat, e = .returned (.tuple #[.int .u64 a, .int .i64 r]) ∧ Ext w0 w' := by
  subst hI
  have := h.n.few
  refine (dbP w base bn bm k last L h.n _ rfl id (by omega) (by omega)).mono ?_
  rintro e w' ⟨rfl, L', h1, h2, h3, h4⟩
  exact ⟨_, _, rfl, h4.ext h.ext (Nat.le_trans h.lo h.n.lo.1) (Nat.le_trans h.lo h.n.lo.2)⟩
end
end Go.Proofs.Ytlgopjfnknjgjaa
