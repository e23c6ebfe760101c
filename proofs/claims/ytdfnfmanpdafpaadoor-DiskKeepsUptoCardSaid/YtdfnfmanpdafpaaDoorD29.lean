/- Disk: a disk of one's own beside rows of one's own: names, what was, what is loose. -/
import Derived.Test.YtdfnfmanpdafpaaDoorD28
namespace Go.Proofs.YtdfnfmanpdafpaaDoor
open Go.RowKit

theorem infoSlU8 : (Tryd.prog.info? 24).map (fun i => (i.zero, i.size, i.bytes)) = some (some (.slice none 0 0), 1, 24) := by kernel_rfl
theorem infoIntD : (Tryd.prog.info? 3).map (fun i => (i.zero, i.size, i.bytes)) = some (some (.int .i64 0), 1, 8) := by kernel_rfl
theorem turns_grown {w w' : World} {row : Option Nat} (h : w.grownBy w' row) : Turns row.toList w w' :=
  ⟨h.os, h.tape, h.output, h.size, fun k hk hn => h.block k hk fun e => hn (by rw [← e]; simp)⟩
def intsV (l : List Nat) : List Value := l.map fun n => Value.int .i64 (n : Nat)
/-- The rows, all kept away from F. -/
structure KR (w : World) (F : List Nat) (nv wv lv : Value) (ns : List (List UInt8)) (ws : List Value) (ls : List Nat) (ds : List (Value × List UInt8)) (wr : World) : Prop where
  nm : wr.ownsRow w.heap.size 9 1 nv ns.length (ns.map stD)
  was : wr.ownsRow w.heap.size 24 1 wv ws.length ws
  loose : wr.ownsRow w.heap.size 3 1 lv ls.length (intsV ls)
  data : ∀ d ∈ ds, OwnU wr w.heap.size d.1 d.2
  an : ∀ q, nv.ownBlock = some q → q ∉ F
  aw : ∀ q, wv.ownBlock = some q → q ∉ F
  al : ∀ q, lv.ownBlock = some q → q ∉ F
  ad : ∀ d ∈ ds, ∀ q, d.1.ownBlock = some q → q ∉ F
theorem KR.moves {w wr w' : World} {F F' : List Nat} {nv wv lv : Value} {ns : List (List UInt8)} {ws : List Value} {ls : List Nat} {ds : List (Value × List UInt8)} (h : KR w F nv wv lv ns ws ls ds wr) (m : Moves F F' wr w') : KR w F' nv wv lv ns ws ls ds w' :=
  ⟨m.turns.own h.nm h.an, m.turns.own h.was h.aw, m.turns.own h.loose h.al, fun d hd => m.turns.own (h.data d hd) (h.ad d hd),
   fun q hq hF => (m.blocks q hF).elim (h.an q hq) fun h1 => by have := ownD_lt h.nm q hq; omega,
   fun q hq hF => (m.blocks q hF).elim (h.aw q hq) fun h1 => by have := ownD_lt h.was q hq; omega,
   fun q hq hF => (m.blocks q hF).elim (h.al q hq) fun h1 => by have := ownD_lt h.loose q hq; omega,
   fun d hd q hq hF => (m.blocks q hF).elim (h.ad d hd q hq) fun h1 => by have := ownD_lt (h.data d hd) q hq; omega⟩
def AtK (w : World) (b : Nat) (S : DS) (nv wv lv : Value) (ns : List (List UInt8)) (ws : List Value) (ls : List Nat) (ds : List (Value × List UInt8)) (wr : World) : Prop :=
  OkD S ∧ ∃ F, Dk wr b F S ∧ Ext w wr ∧ (∀ k ∈ F, w.heap.size ≤ k) ∧ KR w F nv wv lv ns ws ls ds wr
section
variable {w wr : World} {b : Nat} {S : DS} {nv wv lv : Value} {ns : List (List UInt8)} {ws : List Value} {ls : List Nat} {ds : List (Value × List UInt8)}
theorem AtK.atD (h : AtK w b S nv wv lv ns ws ls ds wr) : AtD w b S wr := by obtain ⟨ok, F, h1, h2, h3, _⟩ := h; exact ⟨ok, F, h1, h2, h3⟩
theorem AtK.out (h : AtK w b S nv wv lv ns ws ls ds wr) : Ext w wr := h.atD.out
theorem AtK.ext {w' : World} (h : AtK w b S nv wv lv ns ws ls ds wr) (hx : Ext wr w') : AtK w b S nv wv lv ns ws ls ds w' := by
  obtain ⟨ok, F, h1, h2, h3, h4⟩ := h
  exact ⟨ok, F, h1.ext hx, h2.trans hx, h3, h4.moves (Moves.of_ext hx)⟩
theorem AtK.nmRow (h : AtK w b S nv wv lv ns ws ls ds wr) : Row wr 1 nv ns.length (ns.map stD) := by obtain ⟨_, F, _, _, _, h4⟩ := h; exact Row.of_own h4.nm
theorem AtK.wasRow (h : AtK w b S nv wv lv ns ws ls ds wr) : Row wr 1 wv ws.length ws := by obtain ⟨_, F, _, _, _, h4⟩ := h; exact Row.of_own h4.was
theorem AtK.looseRow (h : AtK w b S nv wv lv ns ws ls ds wr) : Row wr 1 lv ls.length (intsV ls) := by obtain ⟨_, F, _, _, _, h4⟩ := h; exact Row.of_own h4.loose
theorem AtK.wasOwn (h : AtK w b S nv wv lv ns ws ls ds wr) : wr.ownsRow w.heap.size 24 1 wv ws.length ws := by obtain ⟨_, F, _, _, _, h4⟩ := h; exact h4.was
theorem AtK.bytes (h : AtK w b S nv wv lv ns ws ls ds wr) {d : Value × List UInt8} (hd : d ∈ ds) : Bytes wr d.1 d.2 := by obtain ⟨_, F, _, _, _, h4⟩ := h; exact (h4.data d hd).bytes
theorem AtK.start (h : AtD w b S wr) (hn : namesS S = ns) :
    Calls Tryd.prog 9 #[.pointer (some ⟨b, 0, none⟩)] wr fun e w' => ∃ v : Value, e = .returned v ∧ AtK w b S v (.slice none 0 0) (.slice none 0 0) ns [] [] [] w' := by
  subst hn
  obtain ⟨ok, F, h1, h2, h3⟩ := h
  have hlt := h1.lt
  refine (names_dk wr b F S h1 ok).mono ?_
  rintro e w' ⟨v, rfl, ho, hx⟩
  refine ⟨v, rfl, ok, F, h1.ext hx, h2.trans hx, h3, own_low ho h2.size, own_none _ _ _ _, own_none _ _ _ _, fun d hd => (by cases hd), fun q hq hF => ?_, fun q hq => (by cases hq), fun q hq => (by cases hq), fun d hd => (by cases hd)⟩
  have := own_base ho q hq
  have := hlt q hF
  omega
theorem AtK.names (h : AtK w b S nv wv lv ns ws ls ds wr) (l : List (List UInt8)) (hn : namesS S = l) :
    Calls Tryd.prog 9 #[.pointer (some ⟨b, 0, none⟩)] wr fun e w' => ∃ v : Value, e = .returned v ∧ Row w' 1 v l.length (l.map stD) ∧ AtK w b S nv wv lv ns ws ls ds w' := by
  subst hn
  have h' := h
  obtain ⟨ok, F, h1, h2, h3, h4⟩ := h
  refine (names_dk wr b F S h1 ok).mono ?_
  rintro e w' ⟨v, rfl, ho, hx⟩
  exact ⟨v, rfl, Row.of_own ho, h'.ext hx⟩
theorem AtK.loosed (h : AtK w b S nv wv lv ns ws ls ds wr) (n : List UInt8) (m : Nat) (hm : looseS S n = m) :
    Calls Tryd.prog 11 #[.pointer (some ⟨b, 0, none⟩), .string (strOf n)] wr fun e w' => e = .returned (.int .i64 (m : Nat)) ∧ Ext wr w' := by
  subst hm
  obtain ⟨ok, F, h1, h2, h3, h4⟩ := h
  exact loose_any wr b F S n h1 ok
theorem AtK.read (h : AtK w b S nv wv lv ns ws ls ds wr) (n l : List UInt8) (hc : firstE (syncL S n) = 0) (hl : readS S n = l) :
    Calls Tryd.prog 10 #[.pointer (some ⟨b, 0, none⟩), .string (strOf n)] wr fun e w' => ∃ v, e = .returned (.tuple #[v, .int .i64 0]) ∧ AtK w b S nv wv lv ns ws ls ((v, l) :: ds) w' := by
  subst hl
  obtain ⟨ok, F, h1, h2, h3, h4⟩ := h
  have hlt := h1.lt
  refine (read_any wr b F S n h1 ok.used).mono ?_
  rintro e w' ⟨v, rfl, ho, hx⟩
  have h5 := h4.moves (Moves.of_ext (F := F) hx)
  refine ⟨v, by rw [hc], ok, F, h1.ext hx, h2.trans hx, h3, { h5 with data := ?_, ad := ?_ }⟩
  · intro d hd
    rcases List.mem_cons.1 hd with rfl | hd
    · exact own_low ho h2.size
    · exact h5.data d hd
  · intro d hd q hq hF
    rcases List.mem_cons.1 hd with rfl | hd
    · have := own_base ho q hq
      have := hlt q hF
      omega
    · exact h5.ad d hd q hq hF
theorem AtK.left {w' : World} {S' : DS} (h : AtK w b S nv wv lv ns ws ls ds wr) (ok : OkD S') (k : ∀ F, Dk wr b F S → LeftD wr b F S' w') : AtK w b S' nv wv lv ns ws ls ds w' := by
  obtain ⟨_, F, h1, h2, h3, h4⟩ := h
  obtain ⟨F', q1, q2⟩ := k F h1
  exact ⟨ok, F', q1, q2.turns.ext h2 h3, q2.above h2.size h3, h4.moves q2⟩
theorem AtK.crash {w0 : World} (h : AtK w b S nv wv lv ns ws ls ds w0) (hx : Ext w0 wr) (vp vt : Value) (ps : List Nat) (ts : List UInt8) (hp : Row wr 1 vp ps.length (u16V ps)) (hps : ∀ p ∈ ps, p < 65536) (hv : Bytes wr vt ts)
    (ha1 : ∀ F : List Nat, (∀ i ∈ F, w.heap.size ≤ i ∧ i < w0.heap.size) → ps ≠ [] → ApartD F vp) (ha2 : ∀ F : List Nat, (∀ i ∈ F, w.heap.size ≤ i ∧ i < w0.heap.size) → ts ≠ [] → ApartD F vt) {S' : DS} (hs : crashS ps ts S = S') :
    Calls Tryd.prog 12 #[.pointer (some ⟨b, 0, none⟩), vp, vt] wr fun e w' => e = .returned (.int .i64 0) ∧ AtK w b S' nv wv lv ns ws ls ds w' := by
  subst hs
  obtain ⟨ok, F, h1, h2, h3, h4⟩ := h
  have hF : ∀ i ∈ F, w.heap.size ≤ i ∧ i < w0.heap.size := fun i hi => ⟨h3 i hi, h1.lt i hi⟩
  refine (crash_any wr b F S (h1.ext hx) ok vp vt ps ts hp hps hv (ha1 F hF) (ha2 F hF)).mono ?_
  rintro e w' ⟨rfl, F', q1, q2⟩
  exact ⟨rfl, okD_do ok ⟨8, [], [], ts, 0, ps⟩ (by show (0 : Int) < 9223372036854775808; omega), F', q1, q2.turns.ext (h2.trans hx) h3, q2.above (h2.trans hx).size h3, (h4.moves (Moves.of_ext hx)).moves q2⟩
theorem Row.apartOld {F : List Nat} {v : Value} {n : Nat} {xs : List Value} (hr : Row w 1 v n xs) (h0 : xs ≠ []) (hF : ∀ i ∈ F, w.heap.size ≤ i) : ApartD F v := by
  intro B o k' c e hm
  rw [e] at hr
  have := Row.lt hr h0
  have := hF B hm
  omega
theorem own_farD {w0 : World} {F : List Nat} {v : Value} {n size : Nat} {e : TypeId} {xs : List Value} (hr : wr.ownsRow w0.heap.size e size v n xs) (hF : ∀ i ∈ F, i < w0.heap.size) : ApartD F v := by
  intro B o k' c e hm
  have := own_base hr B (by rw [e]; rfl)
  have := hF B hm
  omega
theorem row_ne {base b2 size s2 n m : Nat} {e e2 : TypeId} {v u : Value} {xs ys : List Value} (h : wr.ownsRow base e size v n xs) (k : wr.ownsRow b2 e2 s2 u m ys) (he : e ≠ e2) : ∀ q, v.ownBlock = some q → q ∉ u.ownBlock.toList := by
  intro q hq hm
  cases hu : u.ownBlock with
  | none => rw [hu] at hm; cases hm
  | some p =>
    rw [hu] at hm
    have : q = p := by simpa using hm
    subst this
    exact own_apart h k he q hu hq
theorem AtK.wasTurn {w' : World} {wv' : Value} {ws' : List Value} (h : AtK w b S nv wv lv ns ws ls ds wr) (ht : Turns wv.ownBlock.toList wr w') (ho : w'.ownsRow w.heap.size 24 1 wv' ws'.length ws') (hn : wv'.ownBlock = wv.ownBlock ∨ wv'.ownBlock = some wr.heap.size) : AtK w b S nv wv' lv ns ws' ls ds w' := by
  obtain ⟨ok, F, h1, h2, h3, h4⟩ := h
  have hlt := h1.lt
  refine ⟨ok, F, h1.turn ht fun k hk hm => ?_, ht.ext h2 fun i hi => ?_, h3, ?_⟩
  · cases hw : wv.ownBlock with
    | none => rw [hw] at hm; cases hm
    | some p =>
      rw [hw] at hm
      have : k = p := by simpa using hm
      subst this
      exact h4.aw k hw hk
  · cases hw : wv.ownBlock with
    | none => rw [hw] at hi; cases hi
    | some p =>
      rw [hw] at hi
      have : i = p := by simpa using hi
      subst this
      exact own_base h4.was i hw
  · refine ⟨ht.own h4.nm (row_ne h4.nm h4.was (by decide)), ho, ht.own h4.loose (row_ne h4.loose h4.was (by decide)), fun d hd => ht.own (h4.data d hd) (row_ne (h4.data d hd) h4.was (by decide)), h4.an, fun q hq hF => ?_, h4.al, h4.ad⟩
    rcases hn with e | e
    · rw [e] at hq; exact h4.aw q hq hF
    · rw [e] at hq; cases hq; have := hlt _ hF; omega
theorem AtK.looseTurn {w' : World} {lv' : Value} {ls' : List Nat} (h : AtK w b S nv wv lv ns ws ls ds wr) (ht : Turns lv.ownBlock.toList wr w') (ho : w'.ownsRow w.heap.size 3 1 lv' ls'.length (intsV ls')) (hn : lv'.ownBlock = lv.ownBlock ∨ lv'.ownBlock = some wr.heap.size) : AtK w b S nv wv lv' ns ws ls' ds w' := by
  obtain ⟨ok, F, h1, h2, h3, h4⟩ := h
  have hlt := h1.lt
  refine ⟨ok, F, h1.turn ht fun k hk hm => ?_, ht.ext h2 fun i hi => ?_, h3, ?_⟩
  · cases hw : lv.ownBlock with
    | none => rw [hw] at hm; cases hm
    | some p =>
      rw [hw] at hm
      have : k = p := by simpa using hm
      subst this
      exact h4.al k hw hk
  · cases hw : lv.ownBlock with
    | none => rw [hw] at hi; cases hi
    | some p =>
      rw [hw] at hi
      have : i = p := by simpa using hi
      subst this
      exact own_base h4.loose i hw
  · refine ⟨ht.own h4.nm (row_ne h4.nm h4.loose (by decide)), ht.own h4.was (row_ne h4.was h4.loose (by decide)), ho, fun d hd => ht.own (h4.data d hd) (row_ne (h4.data d hd) h4.loose (by decide)), h4.an, h4.aw, fun q hq hF => ?_, h4.ad⟩
    rcases hn with e | e
    · rw [e] at hq; exact h4.al q hq hF
    · rw [e] at hq; cases hq; have := hlt _ hF; omega
theorem pushW {ops : Array Oper} {Q : Exit → Act → World → Prop} {a : Act} {rest : List Oper} {o : Oper} (s x : Operand) (ho : o.op = .call { callee := .builtin .append, args := #[s, x], argTypes := #[35, 35] }) (hw : Region.wanted o (yielded ops a.tmps) = true)
    (K : AtK w b S nv wv lv ns ws ls ds wr) (hs : a.eval s = wv) (u : Value) (hu : u.oneCell' = true) (hx : Row wr 1 (a.eval x) 1 [u]) (hl : ws.length ≤ 1000000)
    (h : ∀ v' w', AtK w b S nv v' lv ns (ws ++ [u]) ls ds w' → wpList Tryd.prog ops Q rest (a.put o.dst v') w') : wpList Tryd.prog ops Q (o :: rest) a wr := by
  have hk := K.wasOwn
  refine Rr.wpList_append_rowA 35 24 s x ho w.heap.size _ 1 24 Tryd.underlying35 infoSlU8 rfl (by decide) hw _ ws.length ws hs hk 1 [u] hx (fun y hy => by rw [List.mem_singleton.1 hy]; exact hu) (by omega) (by unfold maxLen; omega) K.out.size ?_
  intro v' w' ho2 hg2 hat
  exact h v' w' (K.wasTurn (turns_grown hg2) (by rw [List.length_append]; exact ho2) hat)
theorem pushL {ops : Array Oper} {Q : Exit → Act → World → Prop} {a : Act} {rest : List Oper} {o : Oper} (s x : Operand) (ho : o.op = .call { callee := .builtin .append, args := #[s, x], argTypes := #[36, 36] }) (hw : Region.wanted o (yielded ops a.tmps) = true)
    (K : AtK w b S nv wv lv ns ws ls ds wr) (hs : a.eval s = lv) (m : Nat) (hx : Row wr 1 (a.eval x) 1 [.int .i64 (m : Nat)]) (hl : ls.length ≤ 1000000)
    (h : ∀ v' w', AtK w b S nv wv v' ns ws (ls ++ [m]) ds w' → wpList Tryd.prog ops Q rest (a.put o.dst v') w') : wpList Tryd.prog ops Q (o :: rest) a wr := by
  have hk : wr.ownsRow w.heap.size 3 1 lv ls.length (intsV ls) := by obtain ⟨_, F, _, _, _, h4⟩ := K; exact h4.loose
  refine Rr.wpList_append_rowA 36 3 s x ho w.heap.size _ 1 8 Tryd.underlying36 infoIntD rfl (by decide) hw _ ls.length (intsV ls) hs hk 1 [.int .i64 (m : Nat)] hx (fun y hy => by rw [List.mem_singleton.1 hy]; rfl) (by omega) (by unfold maxLen; omega) K.out.size ?_
  intro v' w' ho2 hg2 hat
  refine h v' w' (K.looseTurn (turns_grown hg2) ?_ hat)
  rw [List.length_append]
  unfold intsV at ho2 ⊢
  rw [List.map_append]
  exact ho2
theorem AtK.setW {B n c : Nat} (h : AtK w b S nv (.slice (some ⟨B, 0, none⟩) n c) lv ns ws ls ds wr) {i : Nat} (u : Value) : AtK w b S nv (.slice (some ⟨B, 0, none⟩) n c) lv ns (ws.set i u) ls ds (wr.setCell ⟨B, i, none⟩ u) := by
  refine h.wasTurn (turns_cell wr B i u) ?_ (.inl rfl)
  obtain ⟨hl, ⟨e0, _⟩ | ⟨g, cap, cur, e0, hb, hg, hn, hm, hs, ht⟩⟩ := h.wasOwn
  · cases e0
  · cases e0
    refine ⟨by rw [List.length_set]; omega, .inr ⟨B, c, cur.setIfInBounds i u, by rw [List.length_set], hb, setCell_row hg u, by rw [List.length_set]; exact hn, hm, by rw [Array.size_setIfInBounds]; exact hs, ?_⟩⟩
    rw [List.length_set, Array.toList_setIfInBounds, List.take_set, ht]
end
theorem lit_slD (w : World) (u : Value) : Row (w.alloc (.cells #[u] 24)) 1 (.slice (some ⟨w.heap.size, 0, none⟩) 1 1) 1 [u] :=
  Row.of_own (base := 0) (e := 24) ⟨rfl, .inr ⟨w.heap.size, 1, #[u], rfl, Nat.zero_le _, heap_alloc_new w _, Nat.le_refl _, by unfold maxLen; omega, rfl, rfl⟩⟩
theorem lit_intD (w : World) (u : Value) : Row (w.alloc (.cells #[u] 3)) 1 (.slice (some ⟨w.heap.size, 0, none⟩) 1 1) 1 [u] :=
  Row.of_own (base := 0) (e := 3) ⟨rfl, .inr ⟨w.heap.size, 1, #[u], rfl, Nat.zero_le _, heap_alloc_new w _, Nat.le_refl _, by unfold maxLen; omega, rfl, rfl⟩⟩
end Go.Proofs.YtdfnfmanpdafpaaDoor
