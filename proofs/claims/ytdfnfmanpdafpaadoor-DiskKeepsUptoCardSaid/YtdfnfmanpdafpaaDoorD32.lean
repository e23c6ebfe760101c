/- Disk: DiskKeeps' crashes and names. -/
import Derived.Test.YtdfnfmanpdafpaaDoorD31
namespace Go.Proofs.YtdfnfmanpdafpaaDoor
open Go.RowKit

theorem own_baseD {w : World} {base size n : Nat} {e : TypeId} {a : Option Addr} {m c : Nat} {xs : List Value} (h : w.ownsRow base e size (.slice a m c) n xs) (hn : 0 < n) : ∃ B, a = some ⟨B, 0, none⟩ := by
  rcases h.2 with ⟨e0, h0⟩ | ⟨g, cap, cur, e0, _, _⟩
  · omega
  · cases e0; exact ⟨g, rfl⟩
section
variable {w wr : World} {b : Nat} {S T : DS} {nv wv lv : Value} {ns : List (List UInt8)} {ws : List Value} {ls : List Nat} {ds : List (Value × List UInt8)}
theorem AtK.crash1 (K : AtK w b S nv wv lv ns ws ls ds wr) {vp vt : Value} {pn : Nat} {ps : List Nat} {ts : List UInt8} (h1 : pn = ps.length) (h2 : Row w 1 vp pn (u16V ps)) (h3 : ∀ p ∈ ps, p < 65536) (h5 : Bytes w vt ts) (hs : crashS ps ts S = T) :
    Calls Tryd.prog 12 #[.pointer (some ⟨b, 0, none⟩), vp, vt] wr fun e w' => e = .returned (.int .i64 0) ∧ AtK w b T nv wv lv ns ws ls ds w' := by
  subst h1
  refine K.crash (Ext.refl _) vp vt ps ts (h2.ext K.out) h3 (h5.ext K.out) (fun F hF h0 => ?_) (fun F hF h0 => ?_) hs
  · exact Row.apartOld h2 (by unfold u16V; intro e; exact h0 (List.map_eq_nil_iff.1 e)) fun i hi => (hF i hi).1
  · exact Row.apartOld h5 (by intro e; exact h0 (List.map_eq_nil_iff.1 e)) fun i hi => (hF i hi).1
theorem AtK.torn (K : AtK w b S nv wv lv ns ws ls ds wr) {vt : Value} {ts : List UInt8} (h5 : Bytes w vt ts) (hm : ts.length ≤ 1048576) :
    Calls Tryd.prog 15 #[vt] wr fun e w' => ∃ v', e = .returned v' ∧ w'.ownsRow wr.heap.size 59 1 v' (pk16 ts).length (u16V (pk16 ts)) ∧ Ext wr w' := by
  exact torn16_any wr vt ts (h5.ext K.out) hm
theorem AtK.crash2 {W : World} (K : AtK w b S nv wv lv ns ws ls ds wr) (hx : Ext wr W) {vp vt : Value} {ts : List UInt8} (ho : W.ownsRow wr.heap.size 59 1 vp (pk16 ts).length (u16V (pk16 ts))) (h5 : Bytes w vt ts) (hs : ∀ qs rs, crashS qs rs S = S) :
    Calls Tryd.prog 12 #[.pointer (some ⟨b, 0, none⟩), vp, vt] W fun e w' => e = .returned (.int .i64 0) ∧ AtK w b S nv wv lv ns ws ls ds w' := by
  refine K.crash hx vp vt (pk16 ts) ts (Row.of_own ho) (fun p hp => ?_) (h5.ext (K.out.trans hx)) (fun F hF h0 => own_farD ho fun i hi => (hF i hi).2) (fun F hF h0 => ?_) (hs _ _)
  · obtain ⟨c, _, rfl⟩ := List.mem_map.1 hp
    have := c.toNat_lt
    omega
  · exact Row.apartOld h5 (by intro e; exact h0 (List.map_eq_nil_iff.1 e)) fun i hi => (hF i hi).1
theorem sameT {w : World} {v u : Value} {nn : Nat} {l : List (List UInt8)} (h1 : nn = l.length) (hl : Row w 1 v nn (l.map stD)) (hm : Row w 1 u nn (l.map stD)) (h5 : nn ≤ 512) :
    Calls Tryd.prog 13 #[v, u] w fun e w' => e = .returned (.bool true) ∧ Ext w w' := by
  subst h1
  refine (same_any w v u l l hl hm (by omega)).mono ?_
  rintro e w' ⟨rfl, hx⟩
  exact ⟨by rw [decide_eq_true rfl], hx⟩
theorem AtK.namesN (K : AtK w b S nv wv lv ns ws ls ds wr) {nn : Nat} (h1 : nn = ns.length) (hn : namesS S = ns) :
    Calls Tryd.prog 9 #[.pointer (some ⟨b, 0, none⟩)] wr fun e w' => ∃ v : Value, e = .returned v ∧ Row w' 1 v nn (ns.map stD) ∧ AtK w b S nv wv lv ns ws ls ds w' := by
  subst h1
  exact K.names ns hn
theorem AtK.nmRowN (K : AtK w b S nv wv lv ns ws ls ds wr) {nn : Nat} (h1 : nn = ns.length) : Row wr 1 nv nn (ns.map stD) := by subst h1; exact K.nmRow
theorem AtK.nmCell {na : Option Addr} {nn nc : Nat} (K : AtK w b S (.slice na nn nc) wv lv ns ws ls ds wr) (h1 : nn = ns.length) {k : Nat} (hk : k < nn) : ∃ B o x, na = some ⟨B, o, none⟩ ∧ ns[k]? = some x ∧ wr.cell? ⟨B, o + k, none⟩ = some (.string (strOf x)) := by
  have hr := K.nmRowN h1
  obtain ⟨B, o, rfl⟩ := Row.base hr (by omega) (by decide)
  have hkl : k < ns.length := by omega
  refine ⟨B, o, ns[k], rfl, List.getElem?_eq_getElem hkl, Row.cellAt hr (j := k) ?_ (by omega)⟩
  rw [List.getElem?_map, List.getElem?_eq_getElem hkl]
  rfl
theorem AtK.looseCell {la : Option Addr} {nn lc : Nat} (K : AtK w b S nv wv (.slice la nn lc) ns ws ls ds wr) (h1 : nn = ls.length) {k m : Nat} (hk : ls[k]? = some m) : ∃ B o, la = some ⟨B, o, none⟩ ∧ wr.cell? ⟨B, o + k, none⟩ = some (.int .i64 (m : Nat)) := by
  have hr := K.looseRow
  have hkl : k < ls.length := (List.getElem?_eq_some_iff.1 hk).1
  obtain ⟨B, o, rfl⟩ := Row.base hr (by omega) (by decide)
  refine ⟨B, o, rfl, Row.cellAt hr (j := k) ?_ (by omega)⟩
  unfold intsV
  rw [List.getElem?_map, hk]
  rfl
theorem AtK.wasCell {wa : Option Addr} {nn wc : Nat} (K : AtK w b S nv (.slice wa nn wc) lv ns ws ls ds wr) {f : Nat → List UInt8} (hw : Was f nn ws ds) {k : Nat} (hk : k < nn) : ∃ B a c, wa = some ⟨B, 0, none⟩ ∧ (.slice a (f k).length c, f k) ∈ ds ∧ wr.cell? ⟨B, k, none⟩ = some (.slice a (f k).length c) ∧ wr.frozen? ⟨B, k, none⟩ = false := by
  obtain ⟨v, h1, h2⟩ := hw.2 k hk
  obtain ⟨a, c, rfl, _, _⟩ := K.shape h2
  obtain ⟨B, rfl⟩ := own_baseD K.wasOwn (by rw [hw.1]; omega)
  obtain ⟨h3, h4⟩ := K.wasBlock h1
  exact ⟨B, a, c, rfl, h2, h3, h4⟩
end
def Fact.bytesD (l : List UInt8) : Fact := ⟨fun v w => Bytes w v l, fun _ _ _ hx h => h.ext hx⟩
theorem cutD {ops : Array Oper} {Q : Exit → Act → World → Prop} {a : Act} {w : World} {rest : List Oper} {o : Oper} (x hi : Operand) (ho : o.op = .slice 24 x none (some hi) none) (hw : Region.wanted o (yielded ops a.tmps) = true) (l : List UInt8) (v : Value) (hv : a.eval x = v) (hb : Bytes w v l)
    (j : Nat) (hj : j ≤ l.length) (he : a.eval hi = .int .i64 (j : Nat)) (h : ∀ v, Bytes w v (l.take j) → wpList Tryd.prog ops Q rest (a.put o.dst v) w) : wpList Tryd.prog ops Q (o :: rest) a w :=
  wpList_cut 24 5 x none (some hi) 1 l.length 0 j (bV l) ho Tryd.underlying24 (by kernel_rfl) hw (by rw [hv]; exact hb) rfl ⟨.i64, (j : Int), he, by omega, by omega⟩ (Nat.zero_le _) hj fun v hv => h v (cutB hj hv)
end Go.Proofs.YtdfnfmanpdafpaaDoor
