/- Disk: the laws' arguments opened: calls, picks, bytes. -/
import Derived.Test.YtdfnfmanpdafpaaDoorD25
import Derived.ProofKit
import Derived.OpenShut
import Derived.ChangeOld
import Derived.SizedLaws
import Derived.Deep.Slices
import Derived.Deep.Fields
import Derived.ChangeSame
namespace Go.Proofs.YtdfnfmanpdafpaaDoor
open Go.RowKit Go.ChangeShapes Go.WideShapes Go.Deep

theorem own : ownKnob Tryd.prog.godebug = none := by kernel_rfl
theorem laidOut : laidOutB Tryd.prog = true := by kernel_rfl
theorem list_of {α : Type} {p : Nat → α → Prop} : ∀ n, (∀ i, i < n → ∃ x, p i x) → ∃ l : List α, l.length = n ∧ ∀ i (h : i < l.length), p i l[i]
  | 0, _ => ⟨[], rfl, fun i h => absurd h (Nat.not_lt_zero _)⟩
  | n + 1, h => by
    obtain ⟨l, hl, hp⟩ := list_of n fun i hi => h i (Nat.lt_succ_of_lt hi)
    obtain ⟨x, hx⟩ := h n (Nat.lt_succ_self n)
    refine ⟨l ++ [x], by simp [hl], fun i hi => ?_⟩
    rw [List.length_append, List.length_singleton] at hi
    by_cases h' : i < l.length
    · rw [List.getElem_append_left h']; exact hp i h'
    · have e : i = l.length := by omega
      subst e
      rw [List.getElem_append_right (Nat.le_refl _)]
      simp only [Nat.sub_self, List.getElem_cons_zero, hl]
      exact hx
theorem row_of_cells {α : Type} {W : World} {a : Addr} {len cap base : Nat} (f : α → List Value) (sz : Nat) (hf : ∀ x, (f x).length = sz) (hsz : 0 < sz) (hl : len ≤ cap) (hm : cap ≤ maxLen) (l : List α) (hln : l.length = cap)
    (hc : ∀ i (h : i < l.length), W.cells? base (a.add (i * sz)) sz = some (f l[i])) : Row W sz (.slice (some a) len cap) len ((l.take len).flatMap f) := by
  have hat : ∀ i (h : i < l.length) j, j < sz → W.cell? (a.add (i * sz + j)) = (f l[i])[j]? := fun i h j hj => by
    obtain ⟨_, _, h3⟩ := World.cells?_some (hc i h)
    rw [← h3 j hj, Go.Deep.add_add]
  have hspot : 0 < cap → a.spot = none := fun h => by
    have h1 := hat 0 (by omega) 0 hsz
    rw [List.getElem?_eq_getElem (by rw [hf]; exact hsz)] at h1
    simpa [Addr.add] using World.cell?_spot h1
  refine ⟨by rw [flat_len f sz hf, List.length_take]; rw [Nat.min_eq_left (by omega)], some a, cap, rfl, hl, hm, by simp, fun p hp h0 => by simp at hp; subst hp; exact hspot h0, fun j u hj => ⟨a, rfl, ?_⟩⟩
  have hjl : j < ((l.take len).flatMap f).length := by
    rcases Nat.lt_or_ge j ((l.take len).flatMap f).length with h | h
    · exact h
    · rw [List.getElem?_eq_none h] at hj; cases hj
  rw [flat_len f sz hf, List.length_take, Nat.min_eq_left (by omega)] at hjl
  have hd : j / sz < len := by rw [Nat.div_lt_iff_lt_mul hsz]; exact hjl
  have hmod : j % sz < sz := Nat.mod_lt _ hsz
  have e : j / sz * sz + j % sz = j := by rw [Nat.mul_comm]; exact Nat.div_add_mod j sz
  have hg := flat_get f sz hf (l.take len) (j / sz) (by rw [List.length_take]; omega) (j % sz) hmod
  rw [e, hj] at hg
  have h1 := hat (j / sz) (by omega) (j % sz) hmod
  rw [e] at h1
  rw [List.getElem_take] at hg
  rw [← hg] at h1
  have hps := hspot (Nat.lt_of_lt_of_le (Nat.lt_of_le_of_lt (Nat.zero_le _) hd) hl)
  have hadd : a.add j = ⟨a.block, a.off + j, none⟩ := by
    obtain ⟨xb, xo, xs⟩ := a
    simp only at hps; subst hps
    unfold Addr.add; split <;> simp_all
  rw [← hadd]; exact h1
theorem strOf_of (s : ByteArray) : strOf s.data.toList = s := by cases s; rfl
theorem u8_back {n : Int} (h : (Lit.int .u8 n).wf = true) : (((UInt8.ofNat n.toNat).toNat : Nat) : Int) = n := by
  have := bounds_u8 h
  rw [UInt8.toNat_ofNat']; omega
theorem bytes_of_ints {W : World} {x : Addr} {len cap : Nat} {zs : List Int} (hl : len ≤ cap) (hm : cap ≤ maxLen) (hz : zs.length = cap)
    (hcell : ∀ i, i < zs.length → W.cell? (x.add i) = some (.int .u8 (zs.getD i 0))) (hwz : ∀ n ∈ zs, (Lit.int .u8 n).wf = true) :
    Bytes W (.slice (some x) len cap) ((zs.take len).map fun n => UInt8.ofNat n.toNat) := by
  have hlen : ((zs.take len).map fun n => UInt8.ofNat n.toNat).length = len := by simp; omega
  have hspot : 0 < cap → x.spot = none := fun h => by
    have := hcell 0 (by omega)
    simpa [Addr.add] using World.cell?_spot this
  unfold Bytes
  rw [hlen]
  refine ⟨by simp; omega, some x, cap, rfl, hl, hm, by simp, fun p hp h0 => by simp at hp; subst hp; exact hspot h0, fun j u hj => ⟨x, rfl, ?_⟩⟩
  rw [List.map_map, List.getElem?_map, List.getElem?_take] at hj
  split at hj
  · rename_i hjl
    have hjz : j < zs.length := by omega
    rw [List.getElem?_eq_getElem hjz] at hj
    simp only [Option.map_some, Option.some.injEq, Function.comp] at hj
    have hps := hspot (by omega)
    have hadd : x.add j = ⟨x.block, x.off + j, none⟩ := by
      obtain ⟨xb, xo, xs⟩ := x
      simp only at hps; subst hps
      unfold Addr.add; split <;> simp_all
    rw [← hadd, hcell j hjz, ← hj, u8_back (hwz _ (List.getElem_mem hjz))]
    simp [List.getD, List.getElem?_eq_getElem hjz]
  · cases hj
theorem u16_nat {a : Int} (h : (Lit.int .u16 a).wf = true) : ∃ n : Nat, a = (n : Int) ∧ n < 65536 := by
  have := bounds_u16 h; exact ⟨a.toNat, by omega, by omega⟩
theorem u8_nat {a : Int} (h : (Lit.int .u8 a).wf = true) : ∃ n : Nat, a = (n : Int) ∧ n < 256 := by
  have := bounds_u8 h; exact ⟨a.toNat, by omega, by omega⟩
theorem i64_in {a : Int} (h : (Lit.int .i64 a).wf = true) : -9223372036854775808 ≤ a ∧ a < 9223372036854775808 := by
  have := bounds_i64 h; omega
theorem flat_one {α : Type} (f : α → Value) (l : List α) : l.flatMap (fun v => [f v]) = l.map f := by
  induction l with | nil => rfl | cons y l ih => rw [List.flatMap_cons, List.map_cons, ih]; rfl
/-- A call where it lies. -/
structure AX where
  a : AD
  vb : Value
  vp : Value
def axC (x : AX) : List Value := [.int .i64 x.a.what, .string (strOf x.a.nm), .string (strOf x.a.ot), x.vb, .int .i64 x.a.n, x.vp]
theorem axC_len (x : AX) : (axC x).length = 6 := rfl
structure ActsD (w : World) (v : Value) (us : List AX) : Prop where
  row : Row w 6 v us.length (us.flatMap axC)
  acts : ∀ x ∈ us, ActR w x.a x.vb x.vp
  ns : ∀ x ∈ us, x.a.n < 9223372036854775808
theorem ActsD.ext {w w' : World} {v : Value} {us : List AX} (h : ActsD w v us) (hx : Ext w w') : ActsD w' v us := ⟨h.row.ext hx, fun x hm => (h.acts x hm).ext hx, h.ns⟩
theorem ActsD.at {w : World} {a : Option Addr} {n cap : Nat} {us : List AX} (h : ActsD w (.slice a n cap) us) {k : Nat} {x : AX} (hk : us[k]? = some x) :
    ∃ B o, a = some ⟨B, o, none⟩ ∧ w.cell? ⟨B, o + k * 6, none⟩ = some (.int .i64 x.a.what) ∧ w.cell? ⟨B, o + k * 6 + 1, none⟩ = some (.string (strOf x.a.nm)) ∧ w.cell? ⟨B, o + k * 6 + 2, none⟩ = some (.string (strOf x.a.ot)) ∧ w.cell? ⟨B, o + k * 6 + 3, none⟩ = some x.vb ∧ w.cell? ⟨B, o + k * 6 + 4, none⟩ = some (.int .i64 x.a.n) ∧ w.cell? ⟨B, o + k * 6 + 5, none⟩ = some x.vp := by
  obtain ⟨hkl, rfl⟩ := List.getElem?_eq_some_iff.1 hk
  obtain ⟨B, o, rfl⟩ := Row.base h.row (by omega) (by decide)
  have q := fun j u hj (e : (axC us[k])[j]? = some u) => Row.cellAt h.row ((flat_get axC 6 axC_len us k hkl j hj).trans e) (by omega)
  exact ⟨B, o, rfl, q 0 _ (by decide) rfl, by have := q 1 _ (by decide) rfl; rwa [← Nat.add_assoc] at this, by have := q 2 _ (by decide) rfl; rwa [← Nat.add_assoc] at this, by have := q 3 _ (by decide) rfl; rwa [← Nat.add_assoc] at this, by have := q 4 _ (by decide) rfl; rwa [← Nat.add_assoc] at this, by have := q 5 _ (by decide) rfl; rwa [← Nat.add_assoc] at this⟩
theorem Row.lt {w : World} {size n : Nat} {B o m c : Nat} {xs : List Value} (h : Row w size (.slice (some ⟨B, o, none⟩) m c) n xs) (h0 : xs ≠ []) : B < w.heap.size := by
  obtain ⟨h1, a, cap, e, h3, h4, h5, h6, h7⟩ := h
  have hp : 0 < xs.length := List.length_pos_iff.2 h0
  obtain ⟨p, hp2, hc⟩ := h7 0 _ (List.getElem?_eq_getElem hp)
  simp only [Value.slice.injEq] at e
  rw [← e.1] at hp2
  cases hp2
  exact World.block_lt_of_cell? w _ hc
section
variable {H : Type} {enc : TypeId × Value → H} {W : World} {base : Nat} {held : Bool}
theorem weightsAll_mem {P : Program} {e : TypeId} : ∀ {l : List (DataW H)} {d : DataW H} {n : Nat}, d ∈ l → n ∈ d.weights P e → n ∈ DataW.weightsAll P e l
  | d0 :: l, d, n, hd, hn => by
    simp only [DataW.weightsAll, List.mem_append]
    rcases List.mem_cons.1 hd with rfl | hd
    · exact .inl hn
    · exact .inr (weightsAll_mem hd hn)
theorem bytesOfU8 : Tryd.prog.bytesOf 5 = 1 := by kernel_rfl
set_option maxRecDepth 100000 in
theorem open_bytesD {fuel : Nat} {h : Value} {x : DataW H × List MemPlace} (ht : DataW.trod enc Tryd.prog W base (fun _ => true) held fuel 24 [h] = some x) : ∃ l, Bytes W h l ∧ (l = [] ∨ ∃ n ∈ x.1.weights Tryd.prog 24, l.length ≤ n) := by
  rcases open_ints Tryd.underlying24 Tryd.underlying5 (by kernel_rfl) ht with ⟨hcs, _⟩ | ⟨a, l, c, zs, hcs, _, hl, hm, hz, hx, hcell, hwz⟩
  · simp only [List.cons.injEq, and_true] at hcs
    subst hcs
    exact ⟨[], Bytes.nil _, .inl rfl⟩
  · simp only [List.cons.injEq, and_true] at hcs
    subst hcs
    simp only [if_true] at hz
    have hd : x.1 = _ := congrArg Prod.fst hx
    refine ⟨_, bytes_of_ints hl hm hz hcell hwz, .inr ⟨_, by rw [hd]; simp only [DataW.weights, Tryd.underlying24]; exact List.mem_cons_self .., ?_⟩⟩
    rw [bytesOfU8]
    simp only [lits, List.length_map, List.length_take, List.length_drop]
    omega
set_option maxRecDepth 100000 in
theorem open_u16D {fuel : Nat} {h : Value} {x : DataW H × List MemPlace} (ht : DataW.trod enc Tryd.prog W base (fun _ => true) held fuel 23 [h] = some x) : ∃ l : List Nat, Row W 1 h l.length (u16V l) ∧ ∀ p ∈ l, p < 65536 := by
  rcases open_slice Tryd.underlying23 ht with ⟨e, _⟩ | ⟨a, len, cap, m, n, D, Pl, e, _, hl, hm, hmm, _, hi⟩
  · simp only [List.cons.injEq, and_true] at e
    subst e
    exact ⟨[], Row.nil W 1, fun _ h => by cases h⟩
  · simp only [List.cons.injEq, and_true] at e
    subst e
    simp only [if_true] at hmm
    subst hmm
    have hC : Tryd.prog.cellsOf 59 = 1 := by kernel_rfl
    rw [hC] at hi
    obtain ⟨l, hln, hp⟩ := list_of (p := fun i (v : Nat) => W.cells? base (a.add (i * 1)) 1 = some [Value.int .u16 (v : Nat)] ∧ v < 65536) m fun i hi' => by
      obtain ⟨cs, h1, h2⟩ := hi i hi'
      obtain ⟨k, e0, _, w0⟩ := DataW.trod_int Tryd.underlying59 h2
      obtain ⟨kn, rfl, hk⟩ := u16_nat w0
      subst e0
      exact ⟨kn, h1, hk⟩
    have hr := row_of_cells (fun v : Nat => [Value.int .u16 (v : Nat)]) 1 (fun _ => rfl) (by decide) hl hm l hln fun i hi => (hp i hi).1
    have e : (l.take len).length = len := by rw [List.length_take]; omega
    rw [flat_one] at hr
    refine ⟨l.take len, by rw [e]; exact hr, fun y hy => ?_⟩
    obtain ⟨i, hi, rfl⟩ := List.getElem_of_mem (List.mem_of_mem_take hy)
    exact (hp i hi).2
set_option maxRecDepth 100000 in
theorem open_actD {fuel : Nat} {cs : List Value} {x : DataW H × List MemPlace} (h : DataW.trod enc Tryd.prog W base (fun _ => true) held fuel 31 cs = some x) : ∃ v : AX, cs = axC v ∧ Bytes W v.vb v.a.b ∧ Row W 1 v.vp v.a.ps.length (u16V v.a.ps) ∧ (∀ p ∈ v.a.ps, p < 65536) ∧ v.a.n < 9223372036854775808 ∧ (v.a.b = [] ∨ ∃ n ∈ x.1.weights Tryd.prog 31, v.a.b.length ≤ n) := by
  obtain ⟨xs, n, _, ex, hl, hx, hf⟩ := DataW.trod_struct Tryd.underlying31 h
  have hC : Tryd.prog.cellsOf 31 = 6 := by kernel_rfl
  rw [hC] at hl
  match cs, hl with
  | [c0, c1, c2, c3, c4, c5], _ =>
    match xs, hx with
    | [y0, y1, y2, y3, y4, y5], _ =>
      have q3 : Tryd.prog.cellsOf 3 = 1 := by kernel_rfl
      have q9 : Tryd.prog.cellsOf 9 = 1 := by kernel_rfl
      have qb : Tryd.prog.cellsOf 24 = 1 := by kernel_rfl
      have qp : Tryd.prog.cellsOf 23 = 1 := by kernel_rfl
      have h0 := hf 0 _ rfl
      have h1 := hf 1 _ rfl
      have h2 := hf 2 _ rfl
      have h3 := hf 3 _ rfl
      have h4 := hf 4 _ rfl
      have h5 := hf 5 _ rfl
      simp only [q3, q9, qb, qp, List.getElem_toArray, List.getElem_cons_zero, List.getElem_cons_succ, List.getElem?_cons_zero, List.getElem?_cons_succ, List.drop_zero, List.drop_succ_cons, List.take_succ_cons, List.take_zero] at h0 h1 h2 h3 h4 h5
      obtain ⟨k0, e0, _, w0⟩ := DataW.trod_int Tryd.underlying3 h0
      obtain ⟨s1, e1, _, _⟩ := DataW.trod_string Tryd.underlying9 h1
      obtain ⟨s2, e2, _, _⟩ := DataW.trod_string Tryd.underlying9 h2
      obtain ⟨b, hb, hs⟩ := open_bytesD h3
      obtain ⟨k4, e4, _, w4⟩ := DataW.trod_int Tryd.underlying3 h4
      obtain ⟨ps, hps, hpb⟩ := open_u16D h5
      simp only [List.cons.injEq, and_true] at e0 e1 e2 e4
      subst e0; subst e1; subst e2; subst e4
      subst ex
      refine ⟨⟨⟨k0, s1.data.toList, s2.data.toList, b, k4, ps⟩, c3, c5⟩, by unfold axC; simp only [strOf_of], hb, hps, hpb, (i64_in w4).2, hs.imp id ?_⟩
      rintro ⟨n, hn, hle⟩
      refine ⟨n, ?_, hle⟩
      show n ∈ DataW.weights Tryd.prog 31 (.agg [y0.1, y1.1, y2.1, y3.1, y4.1, y5.1])
      simp only [DataW.weights, Tryd.underlying31]
      exact DataW.weights_mem_each (j := 3) (t := 24) rfl rfl _ hn
set_option maxRecDepth 100000 in
theorem open_actsD {fuel : Nat} {h : Value} {x : DataW H × List MemPlace} (ht : DataW.trod enc Tryd.prog W base (fun _ => true) held fuel 22 [h] = some x) : ∃ us : List AX, Row W 6 h us.length (us.flatMap axC) ∧ ∀ y ∈ us, Bytes W y.vb y.a.b ∧ Row W 1 y.vp y.a.ps.length (u16V y.a.ps) ∧ (∀ p ∈ y.a.ps, p < 65536) ∧ y.a.n < 9223372036854775808 ∧ (y.a.b = [] ∨ ∃ n ∈ x.1.weights Tryd.prog 22, y.a.b.length ≤ n) := by
  rcases open_slice Tryd.underlying22 ht with ⟨e, _⟩ | ⟨a, len, cap, m, n, D, Pl, e, _, hl, hm, hmm, ex, hi⟩
  · simp only [List.cons.injEq, and_true] at e
    subst e
    exact ⟨[], Row.nil W 6, fun _ h => by cases h⟩
  · simp only [List.cons.injEq, and_true] at e
    subst e
    simp only [if_true] at hmm
    subst hmm
    have hC : Tryd.prog.cellsOf 31 = 6 := by kernel_rfl
    rw [hC] at hi
    obtain ⟨l, hln, hp⟩ := list_of (p := fun i (v : AX) => W.cells? base (a.add (i * 6)) 6 = some (axC v) ∧ Bytes W v.vb v.a.b ∧ Row W 1 v.vp v.a.ps.length (u16V v.a.ps) ∧ (∀ p ∈ v.a.ps, p < 65536) ∧ v.a.n < 9223372036854775808 ∧ (v.a.b = [] ∨ ∃ n ∈ (D i).weights Tryd.prog 31, v.a.b.length ≤ n)) m fun i hi' => by
      obtain ⟨cs, h1, h2⟩ := hi i hi'
      obtain ⟨v, rfl, hv⟩ := open_actD h2
      exact ⟨v, h1, hv⟩
    have hr := row_of_cells axC 6 axC_len (by decide) hl hm l hln fun i hi => (hp i hi).1
    have e : (l.take len).length = len := by rw [List.length_take]; omega
    refine ⟨l.take len, by rw [e]; exact hr, fun y hy => ?_⟩
    obtain ⟨i, hi, rfl⟩ := List.getElem_of_mem hy
    have hil : i < len := by omega
    rw [List.getElem_take]
    obtain ⟨_, h1, h2, h3, h4, h5⟩ := hp i (by omega)
    refine ⟨h1, h2, h3, h4, h5.imp id ?_⟩
    rintro ⟨n, hn, hle⟩
    refine ⟨n, ?_, hle⟩
    rw [ex]
    simp only [DataW.weights, Tryd.underlying22]
    exact List.mem_cons_of_mem _ (List.mem_append_left _ (weightsAll_mem (List.mem_map.2 ⟨i, List.mem_range.2 hil, rfl⟩) hn))
set_option maxRecDepth 100000 in
theorem arg_actsD {ts : List TypeId} {ds : List (DataW H)} (hz : (DataW.weightsEach Tryd.prog ts ds).all (· ≤ reachBytes) = true) {j : Nat} {b0 : Nat} {v : Value} {d : DataW H} {p : List MemPlace} (ht : ts[j]? = some 22) (hd : ds[j]? = some d)
    (hv : Value.okWide Tryd.prog W .any b0 22 v) (h : DataW.Trod enc Tryd.prog W base (fun _ => true) held 22 v d p) : ∃ us : List AX, ActsD W v us := by
  obtain ⟨a, len, cap, rfl⟩ := okWide_slice Tryd.underlying22 hv
  obtain ⟨fuel, hf⟩ := h
  obtain ⟨us, h1, h2⟩ := open_actsD hf
  refine ⟨us, h1, fun y hy => ⟨(h2 y hy).1, (h2 y hy).2.1, (h2 y hy).2.2.1, ?_⟩, fun y hy => (h2 y hy).2.2.2.1⟩
  rcases (h2 y hy).2.2.2.2 with h0 | ⟨n, hn, hle⟩
  · rw [h0]; exact Nat.zero_le _
  · have h3 := List.all_eq_true.1 hz _ (DataW.weights_mem_each ht hd n hn)
    have h4 : n ≤ reachBytes := by simpa using h3
    exact Nat.le_trans hle (Nat.le_trans h4 (by decide))
set_option maxRecDepth 100000 in
theorem arg_u16D {b0 : Nat} {v : Value} {d : DataW H} {p : List MemPlace} (hv : Value.okWide Tryd.prog W .any b0 23 v) (h : DataW.Trod enc Tryd.prog W base (fun _ => true) held 23 v d p) : ∃ l : List Nat, Row W 1 v l.length (u16V l) ∧ ∀ p ∈ l, p < 65536 := by
  obtain ⟨a, len, cap, rfl⟩ := okWide_slice Tryd.underlying23 hv
  obtain ⟨fuel, hf⟩ := h
  exact open_u16D hf
end
end Go.Proofs.YtdfnfmanpdafpaaDoor
