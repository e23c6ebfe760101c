/- Disk: a disk in memory: its map, its files' boxes, their bytes; what stays while others turn. -/
import Derived.Test.YtdfnfmanpdafpaaDoorD0
import Derived.Test.YtdfnfmanpdafpaaDoorD3
import Derived.Test.YtdfnfmanpdafpaaDoorM2
import Derived.Test.YtdfnfmanpdafpaaDoorK6
import Derived.Test.YtdfnfmanpdafpaaDoorY1
namespace Go.Proofs.YtdfnfmanpdafpaaDoor
open Go.RowKit Go.MapKept

theorem setCell_farD (w : World) (a : Addr) (v : Value) (k : Nat) (h : k ≠ a.block) : (w.setCell a v).heap[k]? = w.heap[k]? := by
  show (w.heap.modify a.block _)[k]? = w.heap[k]?
  rw [Array.getElem?_modify, if_neg (fun e => h e.symm)]
/-- A file where it lies: its box, its bytes' slice. -/
structure FG where
  nm : List UInt8
  b : List UInt8
  fast : Nat
  p : Nat
  h : Value
def FG.fl (g : FG) : Fl := ⟨g.nm, g.b, g.fast⟩
theorem fl_nm (g : FG) : (FG.fl g).nm = g.nm := rfl
def eG (g : FG) : Value × Value := (.string (strOf g.nm), .pointer (some ⟨g.p, 0, none⟩))
def ftG (g : FG) : List Nat := g.p :: g.h.ownBlock.toList
def foot (b bm : Nat) (gs : List FG) : List Nat := b :: bm :: gs.flatMap ftG
/-- Two files lie in blocks of their own. -/
def Ap (g h : FG) : Prop := ∀ x ∈ ftG g, x ∉ ftG h
theorem Ap.symm {g h : FG} (k : Ap g h) : Ap h g := fun x hx hy => k x hy hx
def bV (l : List UInt8) : List Value := l.map fun c => Value.int .u8 (c.toNat : Int)
theorem bV_len (l : List UInt8) : (bV l).length = l.length := List.length_map _
structure FileR (w : World) (g : FG) : Prop where
  cell : w.heap[g.p]? = some (.cells #[g.h, .int .i64 g.fast] 70 (0, 0))
  row : w.ownsRow 0 5 1 g.h g.b.length (bV g.b)
structure DkR (w : World) (b bm : Nat) (gs : List FG) (q fz : Int) (off : Bool) : Prop where
  box : DkB w b (.map (some bm)) q fz off
  map : ∃ E, MapE w bm .string E ∧ E.Perm (gs.map eG)
  up : UpK FG.nm gs
  files : ∀ g ∈ gs, FileR w g
  apart : gs.Pairwise Ap
/-- The disk in block b says S; it lies in the blocks F. -/
def Dk (w : World) (b : Nat) (F : List Nat) (S : DS) : Prop := ∃ bm gs, DkR w b bm gs S.q S.fz S.off ∧ gs.map FG.fl = S.fs ∧ foot b bm gs = F

/-- Only the blocks of F turn. -/
structure Turns (F : List Nat) (w w' : World) : Prop where
  os : w'.os = w.os
  tape : w'.tape = w.tape
  output : w'.output = w.output
  size : w.heap.size ≤ w'.heap.size
  block : ∀ k, k < w.heap.size → k ∉ F → w'.heap[k]? = w.heap[k]?
theorem Turns.refl (F : List Nat) (w : World) : Turns F w w := ⟨rfl, rfl, rfl, Nat.le_refl _, fun _ _ _ => rfl⟩
theorem Turns.of_ext {F : List Nat} {w w' : World} (h : Ext w w') : Turns F w w' := ⟨h.os, h.tape, h.output, h.size, fun k hk _ => h.block k hk⟩
theorem Turns.trans {F G : List Nat} {x y z : World} (h : Turns F x y) (k : Turns G y z) (hF : ∀ i ∈ G, i ∈ F ∨ x.heap.size ≤ i) : Turns F x z :=
  ⟨k.os.trans h.os, k.tape.trans h.tape, k.output.trans h.output, Nat.le_trans h.size k.size, fun i hi hn =>
    (k.block i (Nat.lt_of_lt_of_le hi h.size) fun hg => (hF i hg).elim hn fun h1 => Nat.not_lt.2 h1 hi).trans (h.block i hi hn)⟩
theorem Turns.wide {F G : List Nat} {w w' : World} (h : Turns F w w') (hF : ∀ i ∈ F, i ∈ G) : Turns G w w' := ⟨h.os, h.tape, h.output, h.size, fun k hk hn => h.block k hk fun hf => hn (hF k hf)⟩
theorem Turns.ext {F : List Nat} {a w w' : World} (h : Turns F w w') (hx : Ext a w) (hF : ∀ i ∈ F, a.heap.size ≤ i) : Ext a w' :=
  ⟨h.os.trans hx.os, h.tape.trans hx.tape, h.output.trans hx.output, Nat.le_trans hx.size h.size, fun k hk => (h.block k (Nat.lt_of_lt_of_le hk hx.size) fun hf => by have := hF k hf; omega).trans (hx.block k hk)⟩
theorem Turns.ext0 {w w' : World} (h : Turns [] w w') : Ext w w' := h.ext (Ext.refl w) (fun _ h => by cases h)
theorem Turns.at {F : List Nat} {w w' : World} (h : Turns F w w') {k : Nat} {o : Obj} (hk : w.heap[k]? = some o) (hn : k ∉ F) : w'.heap[k]? = some o := (h.block k (Array.getElem?_eq_some_iff.1 hk).1 hn).trans hk
theorem Turns.own {F : List Nat} {w w' : World} (h : Turns F w w') {base size n : Nat} {e : TypeId} {v : Value} {xs : List Value} (k : w.ownsRow base e size v n xs) (hn : ∀ q, v.ownBlock = some q → q ∉ F) : w'.ownsRow base e size v n xs := by
  obtain ⟨h1, h2⟩ := k
  refine ⟨h1, ?_⟩
  rcases h2 with h2 | ⟨g, cap, cur, rfl, hb, hg, rest⟩
  · exact .inl h2
  · exact .inr ⟨g, cap, cur, rfl, hb, h.at hg (hn g rfl), rest⟩
theorem ownD_lt {w : World} {base size n : Nat} {e : TypeId} {v : Value} {xs : List Value} (h : w.ownsRow base e size v n xs) : ∀ q, v.ownBlock = some q → q < w.heap.size := fun q hq => (h.lt q hq).2
/-- What a call does to a disk's blocks. -/
structure Moves (F F' : List Nat) (w w' : World) : Prop where
  turns : Turns F w w'
  blocks : ∀ k ∈ F', k ∈ F ∨ w.heap.size ≤ k
theorem Moves.trans {F G H : List Nat} {x y z : World} (h : Moves F G x y) (k : Moves G H y z) : Moves F H x z :=
  ⟨h.turns.trans k.turns h.blocks, fun i hi => by
    rcases k.blocks i hi with h1 | h1
    · exact h.blocks i h1
    · exact .inr (Nat.le_trans h.turns.size h1)⟩
theorem Moves.of_ext {F : List Nat} {w w' : World} (h : Ext w w') : Moves F F w w' := ⟨Turns.of_ext h, fun _ hk => .inl hk⟩
theorem Moves.above {F F' : List Nat} {a w w' : World} (h : Moves F F' w w') (hx : a.heap.size ≤ w.heap.size) (hF : ∀ i ∈ F, a.heap.size ≤ i) : ∀ i ∈ F', a.heap.size ≤ i := fun i hi => by
  rcases h.blocks i hi with h1 | h1
  · exact hF i h1
  · omega

theorem FileR.lt {w : World} {g : FG} (h : FileR w g) : ∀ k ∈ ftG g, k < w.heap.size := by
  intro k hk
  rcases List.mem_cons.1 hk with rfl | hk
  · exact (Array.getElem?_eq_some_iff.1 h.cell).1
  · exact ownD_lt h.row k (by simpa using hk)
theorem FileR.turn {w w' : World} {g : FG} {F : List Nat} (h : FileR w g) (ht : Turns F w w') (hn : ∀ k ∈ ftG g, k ∉ F) : FileR w' g :=
  ⟨ht.at h.cell (hn _ (by simp [ftG])), ht.own h.row fun q hq => hn q (by simp [ftG, hq])⟩
theorem DkR.lt {w : World} {b bm : Nat} {gs : List FG} {q fz : Int} {off : Bool} (h : DkR w b bm gs q fz off) : ∀ k ∈ foot b bm gs, k < w.heap.size := by
  intro k hk
  rcases List.mem_cons.1 hk with rfl | hk
  · exact (Array.getElem?_eq_some_iff.1 h.box).1
  rcases List.mem_cons.1 hk with rfl | hk
  · obtain ⟨E, hE, _⟩ := h.map; exact hE.lt
  · obtain ⟨g, hg, hk⟩ := List.mem_flatMap.1 hk
    exact (h.files g hg).lt k hk
theorem MapE.turnD {w w' : World} {F : List Nat} {b : Nat} {d : TypeDesc} {E : List (Value × Value)} (h : MapE w b d E) (ht : Turns F w w') (hb : b ∉ F) : MapE w' b d E := by
  obtain ⟨es, clock, h1, h2⟩ := h
  exact ⟨es, clock, ht.at h1 hb, h2⟩
theorem DkR.turn {w w' : World} {b bm : Nat} {gs : List FG} {q fz : Int} {off : Bool} {F : List Nat} (h : DkR w b bm gs q fz off) (ht : Turns F w w') (hn : ∀ k ∈ foot b bm gs, k ∉ F) : DkR w' b bm gs q fz off := by
  obtain ⟨E, hE, hp⟩ := h.map
  exact ⟨ht.at h.box (hn b (by simp [foot])), ⟨E, hE.turnD ht (hn bm (by simp [foot])), hp⟩, h.up, fun g hg => (h.files g hg).turn ht fun k hk => hn k (by unfold foot; simp only [List.mem_cons, List.mem_flatMap]; exact .inr (.inr ⟨g, hg, hk⟩)), h.apart⟩
theorem DkR.ext {w w' : World} {b bm : Nat} {gs : List FG} {q fz : Int} {off : Bool} (h : DkR w b bm gs q fz off) (hx : Ext w w') : DkR w' b bm gs q fz off := by
  obtain ⟨E, hE, hp⟩ := h.map
  refine ⟨block_later h.box hx, ⟨E, hE.ext hx, hp⟩, h.up, fun g hg => ⟨block_later (h.files g hg).cell hx, own_ext (h.files g hg).row hx⟩, h.apart⟩
theorem Dk.lt {w : World} {b : Nat} {F : List Nat} {S : DS} (h : Dk w b F S) : ∀ k ∈ F, k < w.heap.size := by
  obtain ⟨bm, gs, h1, h2, rfl⟩ := h; exact h1.lt
theorem Dk.turn {w w' : World} {b : Nat} {F G : List Nat} {S : DS} (h : Dk w b F S) (ht : Turns G w w') (hn : ∀ k ∈ F, k ∉ G) : Dk w' b F S := by
  obtain ⟨bm, gs, h1, h2, rfl⟩ := h; exact ⟨bm, gs, h1.turn ht hn, h2, rfl⟩
theorem Dk.ext {w w' : World} {b : Nat} {F : List Nat} {S : DS} (h : Dk w b F S) (hx : Ext w w') : Dk w' b F S := by
  obtain ⟨bm, gs, h1, h2, rfl⟩ := h; exact ⟨bm, gs, h1.ext hx, h2, rfl⟩
theorem Dk.up {w : World} {b : Nat} {F : List Nat} {S : DS} (h : Dk w b F S) : UpK Fl.nm S.fs := by
  obtain ⟨bm, gs, h1, h2, rfl⟩ := h; rw [← h2]; exact (upK_map fl_nm).2 h1.up

/-! Looking up. -/
def ptrG (gs : List FG) (n : List UInt8) : Option Addr := (nget FG.nm gs n).map fun g => ⟨g.p, 0, none⟩
theorem strV_inj {a b : List UInt8} (h : Value.string (strOf a) = Value.string (strOf b)) : a = b := strOf_inj.1 (by injection h)
theorem DkR.look {w : World} {b bm : Nat} {gs : List FG} {q fz : Int} {off : Bool} (h : DkR w b bm gs q fz off) (n : List UInt8) :
    (Instr.lookup 56 (.map (some bm)) (.string (strOf n)) false).run Tryd.prog w = .ok (.pointer (ptrG gs n)) w := by
  obtain ⟨E, hE, hp⟩ := h.map
  unfold ptrG
  cases hg : nget FG.nm gs n with
  | none =>
    refine (hE.unknown (P := Tryd.prog) Tryd.underlying56 Tryd.underlying9 (z := .pointer none) (by kernel_rfl) (key := .string (strOf n)) trivial fun p hpm e => ?_).1
    obtain ⟨g, hgm, rfl⟩ := List.mem_map.1 (hp.mem_iff.1 hpm)
    exact nget_none hg g hgm (strV_inj e)
  | some g =>
    obtain ⟨h1, h2⟩ := nget_some hg
    refine (hE.known (P := Tryd.prog) Tryd.underlying56 Tryd.underlying9 (z := .pointer none) (by kernel_rfl) (hp.mem_iff.2 (List.mem_map.2 ⟨g, h1, ?_⟩))).1
    subst h2; rfl
theorem DkR.len {w : World} {b bm : Nat} {gs : List FG} {q fz : Int} {off : Bool} (h : DkR w b bm gs q fz off) (ty : TypeId) :
    (Builtin.len_ #[56] ty #[.map (some bm)]).run Tryd.prog w = .ok (.int .i64 (gs.length : Nat)) w := by
  obtain ⟨E, hE, hp⟩ := h.map
  have := hE.len (P := Tryd.prog) Tryd.underlying56 ty
  rw [hp.length_eq, List.length_map] at this
  exact this
theorem dkG_get {gs : List FG} {fs : List Fl} (h : gs.map FG.fl = fs) (n : List UInt8) : fgetF fs n = (nget FG.nm gs n).map FG.fl := by
  subst h; exact nget_map fl_nm gs n
theorem dkG_len {gs : List FG} {fs : List Fl} (h : gs.map FG.fl = fs) : gs.length = fs.length := by subst h; rw [List.length_map]
end Go.Proofs.YtdfnfmanpdafpaaDoor
