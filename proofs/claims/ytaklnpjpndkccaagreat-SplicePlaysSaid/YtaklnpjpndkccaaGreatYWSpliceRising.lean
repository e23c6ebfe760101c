import Derived.Deep.CutBlock
import Derived.Test.YtaklnpjpndkccaaGreatPk12
import Derived.Test.YtaklnpjpndkccaaGreatPk13
namespace Go.Proofs.YtaklnpjpndkccaaGreat
open Go.RowKit Go.Sort
theorem AssR.ext {w w' : World} {v : Value} {us : List AS} (h : AssR w v us) (hx : Ext w w') : AssR w' v us := ⟨h.row.ext hx, fun x hm => (h.is x hm).ext hx, fun x hm => Row.ext (h.gs x hm) hx⟩
theorem AssR.at {w : World} {a : Option Addr} {n cap : Nat} {us : List AS} (h : AssR w (.slice a n cap) us) {k : Nat} (hk : k < us.length) :
 ∃ B o, a = some ⟨B, o, none⟩ ∧ ∀ j u, j < 9 → (asC us[k])[j]? = some u → w.cell? ⟨B, o + k * 9 + j, none⟩ = some u := by
 obtain ⟨B, o, rfl⟩ := Row.base h.row (by omega) (by decide)
 refine ⟨B, o, rfl, fun j u hj e => ?_⟩
 have := Row.cellAt h.row ((flat_get asC 9 asC_len us k hk j hj).trans e) (by omega)
 rwa [← Nat.add_assoc] at this
theorem wpList_store_part {P : Program} {ops : Array Oper} {Q : Exit → Act → World → Prop} {a : Act} {w : World} {rest : List Oper} {o : Oper}
 (ty : TypeId) (x y : Operand) (ho : o.op = .store ty x y) (hw : Region.wanted o (yielded ops a.tmps) = true)
 (g off : Nat) (hx : a.eval x = .pointer (some ⟨g, off, none⟩)) (cs : Array Value) (hy : a.eval y = .agg cs) (c : Array Value) (t : TypeId) (R : Array Value)
 (hg : w.heap[g]? = some (.cells c t (0, 0))) (hsz : off + cs.size ≤ c.size) (hi : (P.info? ty).map (·.size) = some cs.size) (h1 : ∀ v ∈ cs.toList, v.oneCell' = true)
 (hR : (c.toList.take off ++ cs.toList ++ c.toList.drop (off + cs.size)).toArray = R)
 (h : wpList P ops Q rest (a.put o.dst undef) (w.setRow g R)) : wpList P ops Q (o :: rest) a w := by
 have hst := run_storeCells_at (P := P) g off t cs.toList 0 c w hg (by simpa using hsz) h1
 simp only [Nat.add_zero, Array.length_toList] at hst
 rw [hR] at hst
 have hr : (execOp a.eval o).run P w = .ok .skip (w.setRow g R) := by
  cases hq : P.info? ty with
  | none => simp [hq] at hi
  | some i =>
    have hs : cs.size = i.size := by simp [hq] at hi; omega
    simp [execOp, ho, hx, hy, Instr.storeAt, Instr.sureAddr, storeVar, sizeOf, typeInfo, hq, Value.cells, hs, hst]
 simp only [wpList, hw, if_true]
 refine .inl ?_
 unfold Oper.wp
 rw [hr]
 exact h
def OutR (w0 W : World) (bs : Nat) (pv : Value) (p : List C) (ov : Value) (nk : Nat) (room : Int) : Prop :=
 ∃ (O : List DM) (nx : Nat) (st cnt : Int), SplR w0 W bs pv p nx st cnt ∧ W.ownsRow 0 53 6 ov O.length (O.flatMap dmC) ∧ (∀ x ∈ O, AttrO 0 W x.h x.av) ∧ RiseL p nk (O.map DM.pd) nx ∧ (O.length : Int) ≤ max room 0
theorem OutR.none {w0 W : World} {bs : Nat} {pv : Value} {p : List C} {nk : Nat} {st cnt room : Int} (h : SplR w0 W bs pv p nk st cnt) : OutR w0 W bs pv p (.slice none 0 0) nk room :=
 ⟨[], nk, st, cnt, h, own_none _ _ _ _, (fun _ h => by cases h), Nat.le_refl _, by simp only [List.length_nil]; omega⟩
structure ShO (wB w w' : World) (hi hg : Value) (I : List IM) (G : List (Nat × Nat)) : Prop where
 i : ImR wB hi I
 g : GpR wB hg G
 x : Ext w w'
 li : I.length ≤ 40
 lg : G.length ≤ 40
 av : ∀ y ∈ I, y.av.length * 56 ≤ 140737488355328
theorem short_ok (wB w : World) (hxB : Ext wB w) (fr en : Nat) (hi hg : Value) (last : Bool) (items : List IM) (gaps : List (Nat × Nat)) (h1 : ImR wB hi items) (h2 : GpR wB hg gaps) (hav : ∀ y ∈ items, y.av.length * 56 ≤ 140737488355328) :
 Calls Tryz.prog 9 #[.agg #[.int .u64 fr, .int .u64 en, hi, hg, .bool last]] w
  fun e w' => ∃ I G ai ci ag cg, e = .returned (.agg #[.int .u64 fr, .int .u64 en, .slice ai (List.length I) ci, .slice ag (List.length G) cg, .bool last]) ∧ Hid (ShO wB w w' (.slice ai (List.length I) ci) (.slice ag (List.length G) cg) I G) := by
 refine (short_any wB w hxB fr en hi hg last items gaps h1 h2).mono ?_
 rintro e w' ⟨hi', hg', rfl, h⟩
 obtain ⟨a, b, c⟩ := h.out
 obtain ⟨ai, ci, rfl, _, _⟩ := Row.shape a.row
 obtain ⟨ag, cg, rfl, _, _⟩ := Row.shape b
 exact ⟨items.take 40, gaps.take 40, ai, ci, ag, cg, rfl, ⟨a, b, c, List.length_take_le .., List.length_take_le .., fun y hy => hav y (List.mem_of_mem_take hy)⟩⟩
structure RisA (w0 wr W : World) (bs : Nat) (pv : Value) (p : List C) (nk : Nat) (st cnt : Int) (b : Nat) (x : AS) (ai : Option Addr) (ci : Nat) (ag : Option Addr) (cg : Nat) (I : List IM) (G : List (Nat × Nat)) : Prop where
 s : SplR w0 W bs pv p nk st cnt
 hx : Ext wr W
 bx : W.heap[b]? = some (.cells #[.int .i64 x.what, .bool x.known, .int .u64 x.cnt, .int .u64 x.fr, .int .u64 x.en, .slice ai I.length ci, .slice ag G.length cg, .bool x.last, .int .i64 x.room] 36 (0, 0))
 i : ImR W (.slice ai I.length ci) I
 g : GpR W (.slice ag G.length cg) G
 li : I.length ≤ 40
 lg : G.length ≤ 40
 av : ∀ y ∈ I, y.av.length * 56 ≤ 140737488355328
structure RisB (w0 W : World) (bs : Nat) (pv : Value) (p : List C) (nk : Nat) (b : Nat) (ov : Value) (room : Int) : Prop where
 o : OutR w0 W bs pv p ov nk room
 bx : W.cell? ⟨b, 8, none⟩ = some (.int .i64 room)
section
variable {w0 wr W : World} {bs : Nat} {pv : Value} {p : List C} {nk : Nat} {st cnt : Int} {b : Nat} {x : AS} {ai : Option Addr} {ci : Nat} {ag : Option Addr} {cg : Nat} {I : List IM} {G : List (Nat × Nat)}
theorem RisA.ne (h : RisA w0 wr W bs pv p nk st cnt b x ai ci ag cg I G) : b ≠ bs := by
 rintro rfl
 have h1 := h.bx
 have h2 : W.heap[b]? = _ := h.s.sp
 rw [h1] at h2
 simp at h2
theorem RisA.keep {w' : World} (h : RisA w0 wr W bs pv p nk st cnt b x ai ci ag cg I G) (hg : W.grownBy w' (some bs)) : w'.cell? ⟨b, 8, none⟩ = some (.int .i64 x.room) :=
 cell_of_row _ _ 8 _ _ _ ((hg.block b (Array.getElem?_eq_some_iff.1 h.bx).1 (by intro e; cases e; exact h.ne rfl)).trans h.bx)
theorem RisA.none (h : RisA w0 wr W bs pv p nk st cnt b x ai ci ag cg I G) : RisB w0 W bs pv p nk b (.slice none 0 0) x.room :=
 ⟨OutR.none h.s, h.keep (grown_extJ (Ext.refl W))⟩
theorem RisA.later {W' : World} (h : RisA w0 wr W bs pv p nk st cnt b x ai ci ag cg I G) (k : Ext W W') : RisA w0 wr W' bs pv p nk st cnt b x ai ci ag cg I G :=
 ⟨h.s.later k, h.hx.trans k, block_later h.bx k, h.i.ext k, Row.ext h.g k, h.li, h.lg, h.av⟩
end
end Go.Proofs.YtaklnpjpndkccaaGreat
