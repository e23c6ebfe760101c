/- The calls of a script, opened; their bytes are within the form's reach. -/
import Derived.Test.YtlgopjfnknjgjaaN14
import Derived.Test.YtlgopjfnknjgjaaR1
import Derived.SizedLaws
namespace Go.Proofs.Ytlgopjfnknjgjaa
open Go.RowKit Go.ChangeShapes Go.WideShapes Go.Deep

theorem list_of {α : Type} {p : Nat → α → Prop} : ∀ n, (∀ i, i < n → ∃ x, p i x) → ∃ l : List α, l.length = n ∧ ∀ i (h : i < l.length), p i l[i]
  | 0, _ => ⟨[], rfl, fun i h => absurd h (Nat.not_lt_zero _)⟩
  | n + 1, h => by
    obtain ⟨l, hl, hp⟩ := list_of n fun i hi => h i (Nat.lt_succ_of_lt hi)
    obtain ⟨x, hx⟩ := h n (Nat.lt_succ_self n)
    refine ⟨l ++ [x], by simp [hl], fun i hi => ?_⟩
    rw [List.length_append, List.length_singleton] at hi
    by_cases h' : i < l.length
    · rw [List.getElem_append_left h']; exact hp i h'
    · have e : i = l.length := by omega
      subst e
      rw [List.getElem_append_right (Nat.le_refl _)]
      simp only [Nat.sub_self, List.getElem_cons_zero, hl]
      exact hx

theorem row_of_cells {α : Type} {W : World} {a : Addr} {len cap base : Nat} (f : α → List Value) (sz : Nat) (hf : ∀ x, (f x).length = sz) (hsz : 0 < sz) (hl : len ≤ cap) (hm : cap ≤ maxLen) (l : List α) (hln : l.length = cap)
    (hc : ∀ i (h : i < l.length), W.cells? base (a.add (i * sz)) sz = some (f l[i])) : Row W sz (.slice (some a) len cap) len ((l.take len).flatMap f) := by
  have hat : ∀ i (h : i < l.length) j, j < sz → W.cell? (a.add (i * sz + j)) = (f l[i])[j]? := fun i h j hj => by
    obtain ⟨_, _, h3⟩ := World.cells?_some (hc i h)
    rw [← h3 j hj, Go.Deep.add_add]
  have hspot : 0 < cap → a.spot = none := fun h => by
    have h1 := hat 0 (by omega) 0 hsz
    rw [List.getElem?_eq_getElem (by rw [hf]; exact hsz)] at h1
    simpa [Addr.add] using World.cell?_spot h1
  refine ⟨by rw [flat_len f sz hf, List.length_take]; rw [Nat.min_eq_left (by omega)], some a, cap, rfl, hl, hm, by simp, fun p hp h0 => by simp at hp; subst hp; exact hspot h0, fun j u hj => ⟨a, rfl, ?_⟩⟩
  have hjl : j < ((l.take len).flatMap f).length := by
    rcases Nat.lt_or_ge j ((l.take len).flatMap f).length with h | h
    · exact h
    · rw [List.getElem?_eq_none h] at hj; cases hj
  rw [flat_len f sz hf, List.length_take, Nat.min_eq_left (by omega)] at hjl
  have hd : j / sz < len := by rw [Nat.div_lt_iff_lt_mul hsz]; exact hjl
  have hmod : j % sz < sz := Nat.mod_lt _ hsz
  have e : j / sz * sz + j % sz = j := by rw [Nat.mul_comm]; exact Nat.div_add_mod j sz
  have hg := flat_get f sz hf (l.take len) (j / sz) (by rw [List.length_take]; omega) (j % sz) hmod
  rw [e, hj] at hg
  have h1 := hat (j / sz) (by omega) (j % sz) hmod
  rw [e] at h1
  rw [List.getElem_take] at hg
  rw [← hg] at h1
  have hps := hspot (Nat.lt_of_lt_of_le (Nat.lt_of_le_of_lt (Nat.zero_le _) hd) hl)
  have hadd : a.add j = ⟨a.block, a.off + j, none⟩ := by
    obtain ⟨xb, xo, xs⟩ := a
    simp only at hps; subst hps
    unfold Addr.add; split <;> simp_all
  rw [← hadd]; exact h1


theorem strOf_of (s : ByteArray) : strOf s.data.toList = s := by cases s; rfl
theorem str_len (s : ByteArray) : s.data.toList.length = s.size := by cases s; exact Array.length_toList
theorem u64_nat {a : Int} (h : (Lit.int .u64 a).wf = true) : ∃ n : Nat, a = (n : Int) ∧ n < 18446744073709551616 := by
  have := bounds_u64 h
  exact ⟨a.toNat, by omega, by omega⟩
theorem u8_back {n : Int} (h : (Lit.int .u8 n).wf = true) : (((UInt8.ofNat n.toNat).toNat : Nat) : Int) = n := by
  have := bounds_u8 h
  rw [UInt8.toNat_ofNat']; omega
theorem bytes_of_ints {W : World} {x : Addr} {len cap : Nat} {zs : List Int} (hl : len ≤ cap) (hm : cap ≤ maxLen) (hz : zs.length = cap)
    (hcell : ∀ i, i < zs.length → W.cell? (x.add i) = some (.int .u8 (zs.getD i 0))) (hwz : ∀ n ∈ zs, (Lit.int .u8 n).wf = true) :
    Bytes W (.slice (some x) len cap) ((zs.take len).map fun n => UInt8.ofNat n.toNat) := by
  have hlen : ((zs.take len).map fun n => UInt8.ofNat n.toNat).length = len := by simp; omega
  have hspot : 0 < cap → x.spot = none := fun h => by
    have := hcell 0 (by omega)
    simpa [Addr.add] using World.cell?_spot this
  unfold Bytes
  rw [hlen]
  refine ⟨by simp; omega, some x, cap, rfl, hl, hm, by simp, fun p hp h0 => by simp at hp; subst hp; exact hspot h0, fun j u hj => ⟨x, rfl, ?_⟩⟩
  rw [List.map_map, List.getElem?_map, List.getElem?_take] at hj
  split at hj
  · rename_i hjl
    have hjz : j < zs.length := by omega
    rw [List.getElem?_eq_getElem hjz] at hj
    simp only [Option.map_some, Option.some.injEq, Function.comp] at hj
    have hps := hspot (by omega)
    have hadd : x.add j = ⟨x.block, x.off + j, none⟩ := by
      obtain ⟨xb, xo, xs⟩ := x
      simp only at hps; subst hps
      unfold Addr.add; split <;> simp_all
    rw [← hadd, hcell j hjz, ← hj, u8_back (hwz _ (List.getElem_mem hjz))]
    simp [List.getD, List.getElem?_eq_getElem hjz]
  · cases hj

section
variable {H : Type} {enc : TypeId × Value → H} {W : World} {base : Nat} {held : Bool}
theorem weightsAll_mem {P : Program} {e : TypeId} : ∀ {l : List (DataW H)} {d : DataW H} {n : Nat}, d ∈ l → n ∈ d.weights P e → n ∈ DataW.weightsAll P e l
  | d0 :: l, d, n, hd, hn => by
    simp only [DataW.weightsAll, List.mem_append]
    rcases List.mem_cons.1 hd with rfl | hd
    · exact .inl hn
    · exact .inr (weightsAll_mem hd hn)
theorem bytesOf5 : Try.prog.bytesOf 5 = 1 := by kernel_rfl
set_option maxRecDepth 100000 in
theorem open_bytes52S {fuel : Nat} {h : Value} {x : DataW H × List MemPlace} (ht : DataW.trod enc Try.prog W base (fun _ => true) held fuel 52 [h] = some x) : ∃ l, Bytes W h l ∧ (l = [] ∨ ∃ n ∈ x.1.weights Try.prog 52, l.length ≤ n) := by
  rcases open_ints Try.underlying52 Try.underlying5 (by kernel_rfl) ht with ⟨hcs, _⟩ | ⟨a, l, c, zs, hcs, _, hl, hm, hz, hx, hcell, hwz⟩
  · simp only [List.cons.injEq, and_true] at hcs
    subst hcs
    exact ⟨[], Bytes.nil _, .inl rfl⟩
  · simp only [List.cons.injEq, and_true] at hcs
    subst hcs
    simp only [if_true] at hz
    have hd : x.1 = _ := congrArg Prod.fst hx
    refine ⟨_, bytes_of_ints hl hm hz hcell hwz, .inr ⟨_, by rw [hd]; simp only [DataW.weights, Try.underlying52]; exact List.mem_cons_self .., ?_⟩⟩
    rw [bytesOf5]
    simp only [lits, List.length_map, List.length_take, List.length_drop]
    omega
set_option maxRecDepth 100000 in
theorem open_opS {fuel : Nat} {cs : List Value} {x : DataW H × List MemPlace} (h : DataW.trod enc Try.prog W base (fun _ => true) held fuel 54 cs = some x) : ∃ v : OPn, cs = oC v ∧ v.id < 18446744073709551616 ∧ Bytes W v.h v.b ∧ (v.b = [] ∨ ∃ n ∈ x.1.weights Try.prog 54, v.b.length ≤ n) := by
  obtain ⟨xs, n, _, ex, hl, hx, hf⟩ := DataW.trod_struct Try.underlying54 h
  have hC : Try.prog.cellsOf 54 = 5 := by kernel_rfl
  rw [hC] at hl
  match cs, hl with
  | [c0, c1, c2, c3, c4], _ =>
    match xs, hx with
    | [y0, y1, y2, y3, y4], _ =>
      have q3 : Try.prog.cellsOf 3 = 1 := by kernel_rfl
      have q28 : Try.prog.cellsOf 28 = 1 := by kernel_rfl
      have q52 : Try.prog.cellsOf 52 = 1 := by kernel_rfl
      have h0 := hf 0 _ rfl
      have h1 := hf 1 _ rfl
      have h2 := hf 2 _ rfl
      have h3 := hf 3 _ rfl
      have h4 := hf 4 _ rfl
      simp only [q3, q28, q52, List.getElem_toArray, List.getElem_cons_zero, List.getElem_cons_succ, List.getElem?_cons_zero, List.getElem?_cons_succ, List.drop_zero, List.drop_succ_cons, List.take_succ_cons, List.take_zero] at h0 h1 h2 h3 h4
      obtain ⟨k0, e0, _, w0⟩ := DataW.trod_int Try.underlying3 h0
      obtain ⟨k1, e1, _, w1⟩ := DataW.trod_int Try.underlying3 h1
      obtain ⟨k2, e2, _, w2⟩ := DataW.trod_int Try.underlying3 h2
      obtain ⟨k3, e3, _, w3⟩ := DataW.trod_int Try.underlying28 h3
      obtain ⟨b, hb, hs⟩ := open_bytes52S h4
      simp only [List.cons.injEq, and_true] at e0 e1 e2 e3
      subst e0; subst e1; subst e2; subst e3
      obtain ⟨n3, rfl, hn⟩ := u64_nat w3
      subst ex
      refine ⟨⟨k0, k1, k2, n3, b, c4⟩, rfl, hn, hb, hs.imp id ?_⟩
      rintro ⟨n, hn, hle⟩
      refine ⟨n, ?_, hle⟩
      show n ∈ DataW.weights Try.prog 54 (.agg [y0.1, y1.1, y2.1, y3.1, y4.1])
      simp only [DataW.weights, Try.underlying54]
      exact DataW.weights_mem_each (j := 4) (t := 52) rfl rfl _ hn
set_option maxRecDepth 100000 in
theorem open_opsS {fuel : Nat} {h : Value} {x : DataW H × List MemPlace} (ht : DataW.trod enc Try.prog W base (fun _ => true) held fuel 47 [h] = some x) : ∃ us : List OPn, OpR W h us ∧ ∀ y ∈ us, okO y ∧ (y.b = [] ∨ ∃ n ∈ x.1.weights Try.prog 47, y.b.length ≤ n) := by
  rcases open_slice Try.underlying47 ht with ⟨e, _⟩ | ⟨a, len, cap, m, n, D, Pl, e, _, hl, hm, hmm, ex, hi⟩
  · simp only [List.cons.injEq, and_true] at e
    subst e
    exact ⟨[], ⟨Row.nil W 5, fun _ h => by cases h⟩, fun _ h => by cases h⟩
  · simp only [List.cons.injEq, and_true] at e
    subst e
    simp only [if_true] at hmm
    subst hmm
    have hC : Try.prog.cellsOf 54 = 5 := by kernel_rfl
    rw [hC] at hi
    obtain ⟨l, hln, hp⟩ := list_of (p := fun i (v : OPn) => W.cells? base (a.add (i * 5)) 5 = some (oC v) ∧ v.id < 18446744073709551616 ∧ Bytes W v.h v.b ∧ (v.b = [] ∨ ∃ n ∈ (D i).weights Try.prog 54, v.b.length ≤ n)) m fun i hi' => by
      obtain ⟨cs, h1, h2⟩ := hi i hi'
      obtain ⟨v, rfl, hv⟩ := open_opS h2
      exact ⟨v, h1, hv⟩
    have hr := row_of_cells oC 5 oC_len (by decide) hl hm l hln fun i hi => (hp i hi).1
    have e : (l.take len).length = len := by rw [List.length_take]; omega
    have hall : ∀ y ∈ l.take len, y.id < 18446744073709551616 ∧ Bytes W y.h y.b ∧ (y.b = [] ∨ ∃ n ∈ x.1.weights Try.prog 47, y.b.length ≤ n) := fun y hy => by
      obtain ⟨i, hi, rfl⟩ := List.getElem_of_mem hy
      have hil : i < len := by omega
      rw [List.getElem_take]
      obtain ⟨_, h1, h2, h3⟩ := hp i (by omega)
      refine ⟨h1, h2, h3.imp id ?_⟩
      rintro ⟨n, hn, hle⟩
      refine ⟨n, ?_, hle⟩
      rw [ex]
      simp only [DataW.weights, Try.underlying47]
      exact List.mem_cons_of_mem _ (List.mem_append_left _ (weightsAll_mem (List.mem_map.2 ⟨i, List.mem_range.2 hil, rfl⟩) hn))
    exact ⟨l.take len, ⟨by rw [e]; exact hr, fun y hy => (hall y hy).2.1⟩, fun y hy => ⟨⟨(hall y hy).1, by obtain ⟨a, c, h, _⟩ := Bytes.shape (hall y hy).2.1; exact ⟨a, c, h⟩⟩, (hall y hy).2.2⟩⟩
set_option maxRecDepth 100000 in
theorem arg_opsS {ts : List TypeId} {ds : List (DataW H)} (hz : (DataW.weightsEach Try.prog ts ds).all (· ≤ reachBytes) = true) {j : Nat} {b0 : Nat} {v : Value} {d : DataW H} {p : List MemPlace} (ht : ts[j]? = some 47) (hd : ds[j]? = some d)
    (hv : Value.okWide Try.prog W .any b0 47 v) (h : DataW.Trod enc Try.prog W base (fun _ => true) held 47 v d p) : ∃ us : List OPn, OpR W v us ∧ ∀ y ∈ us, okO y ∧ y.b.length ≤ 140737488351232 := by
  obtain ⟨a, len, cap, rfl⟩ := okWide_slice Try.underlying47 hv
  obtain ⟨fuel, hf⟩ := h
  obtain ⟨us, h1, h2⟩ := open_opsS hf
  refine ⟨us, h1, fun y hy => ⟨(h2 y hy).1, ?_⟩⟩
  rcases (h2 y hy).2 with h0 | ⟨n, hn, hle⟩
  · rw [h0]; exact Nat.zero_le _
  · have h3 := List.all_eq_true.1 hz _ (DataW.weights_mem_each ht hd n hn)
    have h4 : n ≤ reachBytes := by simpa using h3
    exact Nat.le_trans hle (Nat.le_trans h4 (by decide))
end
end Go.Proofs.Ytlgopjfnknjgjaa
