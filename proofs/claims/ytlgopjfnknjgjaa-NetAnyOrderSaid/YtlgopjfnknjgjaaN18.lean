/- NetAnyOrder's arguments opened, and what its walk leans on. -/
import Derived.Test.YtlgopjfnknjgjaaN15
import Derived.Test.YtlgopjfnknjgjaaN17
namespace Go.Proofs.Ytlgopjfnknjgjaa
open Go.RowKit Go.MapKept Go.ChangeShapes Go.WideShapes Go.Deep

theorem info52t : (Try.prog.info? 52).map (fun i => (i.zero, i.size, i.bytes)) = some (some (.slice none 0 0), 1, 24) := by kernel_rfl
theorem size28t : (Try.prog.info? 28).map (·.size) = some 1 := by kernel_rfl
theorem size52t : (Try.prog.info? 52).map (·.size) = some 1 := by kernel_rfl
def Fact.preV (base : Nat) (e : TypeId) (size n : Nat) (xs : List Value) : Fact := ⟨fun v w => PreV w base e size v n xs, fun _ _ _ hx h => h.ext hx⟩
def lenV : Value → Nat
  | .slice _ n _ => n
  | _ => 0
theorem one_row (w : World) (u : Value) (e : TypeId) : Row (w.alloc (.cells #[u] e)) 1 (.slice (some ⟨w.heap.size, 0, none⟩) 1 1) 1 [u] :=
  Row.of_own (World.ownsRow_lit (base := w.heap.size) (e := e) (size := 1) w #[u] 1 (Nat.le_refl _) (by decide) rfl)
theorem one_int (k : IntKind) (n : Int) : ∀ u ∈ [Value.int k n], u.oneCell' = true := by
  intro u hu
  rw [List.mem_singleton] at hu; subst hu; rfl
theorem one_slice (a : Option Addr) (n c : Nat) : ∀ u ∈ [Value.slice a n c], u.oneCell' = true := by
  intro u hu
  rw [List.mem_singleton] at hu; subst hu; rfl

structure BbR (W : World) (v : Value) (l : List SZ) : Prop where
  row : Row W 1 v l.length (l.map SZ.h)
  hs : ∀ z ∈ l, (∃ a c, z.h = .slice a z.b.length c) ∧ Bytes W z.h z.b
structure OrdR (W : World) (v : Value) (l : List Nat) : Prop where
  row : Row W 1 v l.length (l.map fun n => Value.int .u16 (n : Nat))
  lt : ∀ n ∈ l, n < 65536

section
variable {H : Type} {enc : TypeId × Value → H} {W : World} {base : Nat} {held : Bool}
theorem flat_one {α : Type} (f : α → Value) (l : List α) : l.flatMap (fun v => [f v]) = l.map f := by
  induction l with | nil => rfl | cons y l ih => rw [List.flatMap_cons, List.map_cons, ih]; rfl
set_option maxRecDepth 100000 in
theorem open_bb {fuel : Nat} {h : Value} {x : DataW H × List MemPlace} (ht : DataW.trod enc Try.prog W base (fun _ => true) held fuel 66 [h] = some x) : ∃ us : List SZ, BbR W h us := by
  rcases open_slice Try.underlying66 ht with ⟨e, _⟩ | ⟨a, len, cap, m, n, D, Pl, e, _, hl, hm, hmm, _, hi⟩
  · simp only [List.cons.injEq, and_true] at e
    subst e
    exact ⟨[], Row.nil W 1, fun _ h => by cases h⟩
  · simp only [List.cons.injEq, and_true] at e
    subst e
    simp only [if_true] at hmm
    subst hmm
    have hC : Try.prog.cellsOf 52 = 1 := by kernel_rfl
    rw [hC] at hi
    obtain ⟨l, hln, hp⟩ := list_of (p := fun i (v : SZ) => W.cells? base (a.add (i * 1)) 1 = some [v.h] ∧ (∃ a c, v.h = .slice a v.b.length c) ∧ Bytes W v.h v.b) m fun i hi' => by
      obtain ⟨cs, h1, h2⟩ := hi i hi'
      have hlc := (World.cells?_some h1).2.1
      match cs, hlc with
      | [c0], _ =>
        obtain ⟨b, hb⟩ := open_bytes52 h2
        obtain ⟨a, c, e, _⟩ := Bytes.shape hb
        exact ⟨⟨0, b, c0⟩, h1, ⟨a, c, e⟩, hb⟩
    have hr := row_of_cells (fun v : SZ => [v.h]) 1 (fun _ => rfl) (by decide) hl hm l hln fun i hi => (hp i hi).1
    have e : (l.take len).length = len := by rw [List.length_take]; omega
    rw [flat_one] at hr
    refine ⟨l.take len, by rw [e]; exact hr, fun y hy => ?_⟩
    obtain ⟨i, hi, rfl⟩ := List.getElem_of_mem (List.mem_of_mem_take hy)
    exact (hp i hi).2
set_option maxRecDepth 100000 in
theorem arg_bb66 {b0 : Nat} {v : Value} {d : DataW H} {p : List MemPlace} (hv : Value.okWide Try.prog W .any b0 66 v) (h : DataW.Trod enc Try.prog W base (fun _ => true) held 66 v d p) : ∃ us : List SZ, BbR W v us := by
  obtain ⟨a, len, cap, rfl⟩ := okWide_slice Try.underlying66 hv
  obtain ⟨fuel, hf⟩ := h
  exact open_bb hf
set_option maxRecDepth 100000 in
theorem open_ord {fuel : Nat} {h : Value} {x : DataW H × List MemPlace} (ht : DataW.trod enc Try.prog W base (fun _ => true) held fuel 67 [h] = some x) : ∃ us : List Nat, OrdR W h us := by
  rcases open_slice Try.underlying67 ht with ⟨e, _⟩ | ⟨a, len, cap, m, n, D, Pl, e, _, hl, hm, hmm, _, hi⟩
  · simp only [List.cons.injEq, and_true] at e
    subst e
    exact ⟨[], Row.nil W 1, fun _ h => by cases h⟩
  · simp only [List.cons.injEq, and_true] at e
    subst e
    simp only [if_true] at hmm
    subst hmm
    have hC : Try.prog.cellsOf 42 = 1 := by kernel_rfl
    rw [hC] at hi
    obtain ⟨l, hln, hp⟩ := list_of (p := fun i (v : Nat) => W.cells? base (a.add (i * 1)) 1 = some [Value.int .u16 (v : Nat)] ∧ v < 65536) m fun i hi' => by
      obtain ⟨cs, h1, h2⟩ := hi i hi'
      obtain ⟨k, e0, _, w0⟩ := DataW.trod_int Try.underlying42 h2
      obtain ⟨kn, rfl, hk⟩ := u16_nat w0
      subst e0
      exact ⟨kn, h1, hk⟩
    have hr := row_of_cells (fun v : Nat => [Value.int .u16 (v : Nat)]) 1 (fun _ => rfl) (by decide) hl hm l hln fun i hi => (hp i hi).1
    have e : (l.take len).length = len := by rw [List.length_take]; omega
    rw [flat_one] at hr
    refine ⟨l.take len, by rw [e]; exact hr, fun y hy => ?_⟩
    obtain ⟨i, hi, rfl⟩ := List.getElem_of_mem (List.mem_of_mem_take hy)
    exact (hp i hi).2
set_option maxRecDepth 100000 in
theorem arg_ord {b0 : Nat} {v : Value} {d : DataW H} {p : List MemPlace} (hv : Value.okWide Try.prog W .any b0 67 v) (h : DataW.Trod enc Try.prog W base (fun _ => true) held 67 v d p) : ∃ us : List Nat, OrdR W v us := by
  obtain ⟨a, len, cap, rfl⟩ := okWide_slice Try.underlying67 hv
  obtain ⟨fuel, hf⟩ := h
  exact open_ord hf
end

theorem ways0 (w : World) (base bn bm k last : Nat) (L : List PK) (h : NetR w base bn bm k last L) (h0 : L.length = 0) : Calls Try.prog 26 #[.pointer (some ⟨bn, 0, none⟩)] w fun e w' => (∃ a c, e = .returned (.slice a 0 c)) ∧ Ext w w' := by
  refine (ways_any w base bn bm k last L h).mono ?_
  rintro e w' ⟨v, rfl, ho, hx⟩
  obtain ⟨a, c, rfl, _, _⟩ := own_shape ho
  rw [List.length_map, h0]
  exact ⟨⟨a, c, rfl⟩, hx⟩
theorem dlA (w : World) (base bn bm k last id : Nat) (L1 L2 L M : List PK) (x : PK) (h : NetR w base bn bm k last L) (hL : L = L1 ++ x :: L2) (hM : L1 ++ L2 = M) (hid : x.id = id) : Calls Try.prog 23 #[.pointer (some ⟨bn, 0, none⟩), .int .u64 id] w fun e w' => ∃ a c, e = .returned (.tuple #[.int .i64 x.fr, .int .i64 x.dst, .slice a x.b.length c, .int .i64 0]) ∧ NetR w' base bn bm k last M ∧ Net2 bn bm w w' ∧ Bytes w' (.slice a x.b.length c) x.b := by
  refine (dl_yes w base bn bm k last id L1 L2 L M x h hL hM hid _ _ _ rfl rfl rfl).mono ?_
  rintro e w' ⟨rfl, h1, h2, h3⟩
  obtain ⟨a, c, e⟩ := OwnB.slice h3
  exact ⟨a, c, by rw [e], h1, h2, by rw [← e]; exact OwnB.bytes h3⟩
end Go.Proofs.Ytlgopjfnknjgjaa
