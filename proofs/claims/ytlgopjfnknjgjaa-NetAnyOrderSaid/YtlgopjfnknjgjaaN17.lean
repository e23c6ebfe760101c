/- What NetAnyOrder's walk keeps. -/
import Derived.Test.YtlgopjfnknjgjaaN16
namespace Go.Proofs.Ytlgopjfnknjgjaa
open Go.RowKit Go.MapKept

/-- A packet that was sent: its number, its bytes, the value that was handed in. -/
structure SZ where
  id : Nat
  b : List UInt8
  h : Value
def zI (z : SZ) : Value := .int .u64 z.id
structure AnyC (w0 w : World) (base bn bm last : Nat) (L : List PK) (Z : List SZ) : Prop where
  net : NetR w base bn bm 2 last L
  keys : (L.map fun x => (x.id, x.b)).Perm (Z.map fun z => (z.id, z.b))
  ok : ∀ z ∈ Z, (∃ a c, z.h = .slice a z.b.length c) ∧ Bytes w0 z.h z.b
  ext : Ext w0 w
  lo : w0.heap.size ≤ base
theorem AnyC.ext' {w0 w w' : World} {base bn bm last : Nat} {L : List PK} {Z : List SZ} (h : AnyC w0 w base bn bm last L Z) (hx : Ext w w') : AnyC w0 w' base bn bm last L Z :=
  ⟨h.net.ext hx, h.keys, h.ok, h.ext.trans hx, h.lo⟩
theorem AnyC.low {w0 w : World} {base bn bm last : Nat} {L : List PK} {Z : List SZ} (h : AnyC w0 w base bn bm last L Z) : w0.heap.size ≤ bn ∧ w0.heap.size ≤ bm := ⟨Nat.le_trans h.lo h.net.lo.1, Nat.le_trans h.lo h.net.lo.2⟩
theorem AnyC.len {w0 w : World} {base bn bm last : Nat} {L : List PK} {Z : List SZ} (h : AnyC w0 w base bn bm last L Z) : L.length = Z.length := by
  have := h.keys.length_eq
  simpa using this
/-- While packets set out. -/
structure AnyS (w0 w : World) (base bn bm last : Nat) (iv sv : Value) (L : List PK) (Z : List SZ) : Prop where
  c : AnyC w0 w base bn bm last L Z
  ids : w.ownsRow base 28 1 iv Z.length (Z.map zI)
  sent : w.ownsRow base 52 1 sv Z.length (Z.map SZ.h)
theorem AnyS.ext' {w0 w w' : World} {base bn bm last : Nat} {iv sv : Value} {L : List PK} {Z : List SZ} (h : AnyS w0 w base bn bm last iv sv L Z) (hx : Ext w w') : AnyS w0 w' base bn bm last iv sv L Z :=
  ⟨h.c.ext' hx, own_ext h.ids hx, own_ext h.sent hx⟩
/-- Behind a call that let one set out. -/
structure AnyO (w0 w : World) (base bn bm last : Nat) (iv sv : Value) (L : List PK) (Z : List SZ) (x : PK) : Prop where
  net : NetR w base bn bm 2 last (L ++ [x])
  keys : (L.map fun x => (x.id, x.b)).Perm (Z.map fun z => (z.id, z.b))
  ok : ∀ z ∈ Z, (∃ a c, z.h = .slice a z.b.length c) ∧ Bytes w0 z.h z.b
  ext : Ext w0 w
  lo : w0.heap.size ≤ base
  ids : w.ownsRow base 28 1 iv Z.length (Z.map zI)
  sent : w.ownsRow base 52 1 sv Z.length (Z.map SZ.h)
theorem AnyS.out {w0 w w' : World} {base bn bm last l2 : Nat} {iv sv : Value} {L : List PK} {Z : List SZ} {x : PK} (h : AnyS w0 w base bn bm last iv sv L Z) (hn : NetR w' base bn bm 2 l2 (L ++ [x])) (h2 : Net2 bn bm w w') : AnyO w0 w' base bn bm l2 iv sv L Z x :=
  ⟨hn, h.c.keys, h.c.ok, h2.ext h.c.ext h.c.low.1 h.c.low.2, h.c.lo, h.c.net.row h2 h.ids (by decide), h.c.net.row h2 h.sent (by decide)⟩
theorem AnyO.ext' {w0 w w' : World} {base bn bm last : Nat} {iv sv : Value} {L : List PK} {Z : List SZ} {x : PK} (h : AnyO w0 w base bn bm last iv sv L Z x) (hx : Ext w w') : AnyO w0 w' base bn bm last iv sv L Z x :=
  ⟨h.net.ext hx, h.keys, h.ok, h.ext.trans hx, h.lo, own_ext h.ids hx, own_ext h.sent hx⟩
theorem AnyO.told {w0 w w1 w2 : World} {base bn bm last : Nat} {iv sv iv' sv' : Value} {L : List PK} {Z : List SZ} {x : PK} (h : AnyO w0 w base bn bm last iv sv L Z x) (z : SZ) (hg1 : w.grownBy w1 iv.ownBlock) (ho1 : w1.ownsRow base 28 1 iv' (Z.length + 1) (Z.map zI ++ [zI z]))
    (hg2 : w1.grownBy w2 sv.ownBlock) (ho2 : w2.ownsRow base 52 1 sv' (Z.length + 1) (Z.map SZ.h ++ [z.h])) (hid : x.id = z.id) (hb : x.b = z.b) (hok : (∃ a c, z.h = .slice a z.b.length c) ∧ Bytes w0 z.h z.b) : AnyS w0 w2 base bn bm last iv' sv' (L ++ [x]) (Z ++ [z]) := by
  have hs1 : w1.ownsRow base 52 1 sv Z.length (Z.map SZ.h) := own_keep h.sent hg1 (own_apart h.ids h.sent (by decide))
  have hl : (Z ++ [z]).length = Z.length + 1 := by rw [List.length_append]; rfl
  refine ⟨⟨(h.net.grown h.ids (by decide) (by decide) hg1).grown hs1 (by decide) (by decide) hg2, ?_, fun y hy => ?_, ?_, h.lo⟩, ?_, ?_⟩
  · rw [List.map_append, List.map_append]
    refine h.keys.append ?_
    simp [hid, hb]
  · rcases List.mem_append.1 hy with hy | hy
    · exact h.ok y hy
    · rw [List.mem_singleton] at hy; subst hy; exact hok
  · exact (h.ext.grown_none hg1 fun g hg => Nat.le_trans h.lo (own_base h.ids g hg)).grown_none hg2 fun g hg => Nat.le_trans h.lo (own_base hs1 g hg)
  · rw [hl, List.map_append]
    exact own_keep ho1 hg2 (own_apart hs1 ho1 (by decide))
  · rw [hl, List.map_append]
    exact ho2
/-- While packets are delivered. -/
structure AnyW (w0 w : World) (base bn bm last : Nat) (iv sv : Value) (L : List PK) (Z : List SZ) : Prop where
  c : AnyC w0 w base bn bm last L Z
  ids : PreV w base 28 1 iv Z.length (Z.map zI)
  sent : PreV w base 52 1 sv Z.length (Z.map SZ.h)
theorem AnyS.done {w0 w : World} {base bn bm last : Nat} {iv sv : Value} {L : List PK} {Z : List SZ} (h : AnyS w0 w base bn bm last iv sv L Z) : AnyW w0 w base bn bm last iv sv L Z := ⟨h.c, PreV.of_own h.ids, PreV.of_own h.sent⟩
theorem AnyW.ext' {w0 w w' : World} {base bn bm last : Nat} {iv sv : Value} {L : List PK} {Z : List SZ} (h : AnyW w0 w base bn bm last iv sv L Z) (hx : Ext w w') : AnyW w0 w' base bn bm last iv sv L Z :=
  ⟨h.c.ext' hx, h.ids.ext hx, h.sent.ext hx⟩
theorem PreV.net {w w' : World} {base bn bm k last : Nat} {L : List PK} (h : NetR w base bn bm k last L) (h2 : Net2 bn bm w w') {b2 size n : Nat} {e : TypeId} {v : Value} {xs : List Value} (ho : PreV w b2 e size v n xs) (he : e ≠ 87) : PreV w' b2 e size v n xs := by
  rcases ho with ho | ⟨g, c, h1, hnc, n', cap', ys, q1, q2, ho, q3⟩
  · exact .inl ho
  · exact .inr ⟨g, c, h1, hnc, n', cap', ys, q1, q2, h.row h2 ho he, q3⟩
/-- The packet of the number that was drawn. -/
theorem AnyC.pick {w0 w : World} {base bn bm last : Nat} {L : List PK} {Z : List SZ} (h : AnyC w0 w base bn bm last L Z) {k : Nat} (hk : k < Z.length) :
    ∃ L1 x L2, L = L1 ++ x :: L2 ∧ x.id = Z[k].id ∧ x.b = Z[k].b ∧ ((L1 ++ L2).map fun x => (x.id, x.b)).Perm ((Z.take k ++ Z.drop (k + 1)).map fun z => (z.id, z.b)) := by
  have hm : (Z[k].id, Z[k].b) ∈ L.map fun x => (x.id, x.b) := h.keys.mem_iff.2 (List.mem_map.2 ⟨Z[k], List.getElem_mem hk, rfl⟩)
  obtain ⟨x, hx, e⟩ := List.mem_map.1 hm
  obtain ⟨L1, L2, rfl⟩ := List.append_of_mem hx
  have e1 : x.id = Z[k].id := (Prod.mk.inj e).1
  have e2 : x.b = Z[k].b := (Prod.mk.inj e).2
  refine ⟨L1, x, L2, rfl, e1, e2, ?_⟩
  have hz : Z = Z.take k ++ Z[k] :: Z.drop (k + 1) := by rw [← List.drop_eq_getElem_cons hk, List.take_append_drop]
  have hp := h.keys
  rw [hz, List.map_append, List.map_cons, List.map_append, List.map_cons] at hp
  have hp2 := (List.perm_middle.symm.trans hp).trans List.perm_middle
  rw [e] at hp2
  rw [List.map_append, List.map_append]
  exact hp2.cons_inv
/-- Behind a delivery, told. -/
theorem AnyW.took {w0 w w1 w2 : World} {base bn bm last k : Nat} {iv sv iv' sv' : Value} {L1 L2 : List PK} {x : PK} {Z : List SZ} (h : AnyW w0 w base bn bm last iv sv (L1 ++ x :: L2) Z) (hk : k < Z.length) (hp : ((L1 ++ L2).map fun x => (x.id, x.b)).Perm ((Z.take k ++ Z.drop (k + 1)).map fun z => (z.id, z.b))) (hn : NetR w1 base bn bm 2 last (L1 ++ L2)) (h2 : Net2 bn bm w w1) (hx : Ext w1 w2)
    (hi : PreV w2 base 28 1 iv' (Z.length - 1) ((Z.map zI).take (k * 1) ++ (Z.map zI).drop ((k + 1) * 1))) (hs : PreV w2 base 52 1 sv' (Z.length - 1) ((Z.map SZ.h).take (k * 1) ++ (Z.map SZ.h).drop ((k + 1) * 1))) : AnyW w0 w2 base bn bm last iv' sv' (L1 ++ L2) (Z.take k ++ Z.drop (k + 1)) ∧ (Z.take k ++ Z.drop (k + 1)).length = Z.length - 1 := by
  have hl : (Z.take k ++ Z.drop (k + 1)).length = Z.length - 1 := by
    rw [List.length_append, List.length_take, List.length_drop]; omega
  refine ⟨⟨⟨hn.ext hx, hp, fun z hz => h.c.ok z ?_, (h2.ext h.c.ext h.c.low.1 h.c.low.2).trans hx, h.c.lo⟩, ?_, ?_⟩, hl⟩
  · rcases List.mem_append.1 hz with hz | hz
    · exact List.mem_of_mem_take hz
    · exact List.mem_of_mem_drop hz
  · rw [hl, List.map_append, List.map_take, List.map_drop]
    simpa using hi
  · rw [hl, List.map_append, List.map_take, List.map_drop]
    simpa using hs
end Go.Proofs.Ytlgopjfnknjgjaa
