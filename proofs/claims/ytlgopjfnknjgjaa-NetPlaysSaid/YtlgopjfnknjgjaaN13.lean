/- NetOnce, plainly: what was sent, what is gone, what is on its way. -/
import Derived.Test.YtlgopjfnknjgjaaN12
import Derived.Laws.Bits128
namespace Go.Proofs.Ytlgopjfnknjgjaa
open Go.RowKit Go.MapKept

theorem and3 (n : Int) : bits .and .i64 n 3 = n % 4 := by
  have h3 : (BitVec.ofInt 64 3).toNat = 2 ^ 2 - 1 := by decide
  have key : (BitVec.ofInt 64 n &&& BitVec.ofInt 64 3).toNat = (n % ((2 ^ 64 : Nat) : Int)).toNat % 2 ^ 2 := by
    rw [BitVec.toNat_and, BitVec.toNat_ofInt, h3, Nat.and_two_pow_sub_one_eq_mod]
  show IntKind.i64.wrap ((BitVec.ofInt 64 n &&& BitVec.ofInt 64 3).toNat : Nat) = n % 4
  rw [key, IntKind.wrap_i64]
  omega
/-- A call of the statement's. -/
structure OPn where
  wh : Int
  fr : Int
  dst : Int
  id : Nat
  b : List UInt8
  h : Value
def oC (x : OPn) : List Value := [.int .i64 x.wh, .int .i64 x.fr, .int .i64 x.dst, .int .u64 x.id, x.h]
theorem oC_len (x : OPn) : (oC x).length = 5 := rfl
structure OpR (W : World) (v : Value) (l : List OPn) : Prop where
  row : Row W 5 v l.length (l.flatMap oC)
  hs : ∀ x ∈ l, Bytes W x.h x.b
theorem OpR.ext {W W' : World} {v : Value} {l : List OPn} (h : OpR W v l) (hx : Ext W W') : OpR W' v l := ⟨h.row.ext hx, fun x hl => Bytes.ext (h.hs x hl) hx⟩
theorem OpR.at {W : World} {a : Option Addr} {n cap : Nat} {l : List OPn} (h : OpR W (.slice a n cap) l) {k : Nat} (hk : k < l.length) :
    ∃ B o, a = some ⟨B, o, none⟩ ∧ W.cell? ⟨B, o + k * 5, none⟩ = some (.int .i64 l[k].wh) ∧ W.cell? ⟨B, o + k * 5 + 1, none⟩ = some (.int .i64 l[k].fr) ∧ W.cell? ⟨B, o + k * 5 + 2, none⟩ = some (.int .i64 l[k].dst) ∧ W.cell? ⟨B, o + k * 5 + 3, none⟩ = some (.int .u64 l[k].id) ∧ W.cell? ⟨B, o + k * 5 + 4, none⟩ = some l[k].h := by
  obtain ⟨B, o, rfl⟩ := Row.base h.row (by omega) (by decide)
  have g := fun j hj => flat_get oC 5 oC_len l k hk j hj
  exact ⟨B, o, rfl, Row.cellAt h.row (g 0 (by decide)) (by omega), Row.cellAt h.row (g 1 (by decide)) (by omega), Row.cellAt h.row (g 2 (by decide)) (by omega), Row.cellAt h.row (g 3 (by decide)) (by omega), Row.cellAt h.row (g 4 (by decide)) (by omega)⟩

structure OnceI (S : List OPn) (G : List Nat) (L : List PK) : Prop where
  frm : ∀ x ∈ L, ∃ s, S[x.id - 1]? = some s ∧ (x.fr : Int) = s.fr ∧ (x.dst : Int) = s.dst ∧ x.b = s.b
  out : ∀ x ∈ L, x.id ∉ G
  all : ∀ j, 1 ≤ j → j ≤ S.length → j ∉ G → ∃ x ∈ L, x.id = j
  nd : G.Nodup
  gone : ∀ g ∈ G, 1 ≤ g ∧ g ≤ S.length
  cnt : L.length + G.length = S.length
theorem once_nil : OnceI [] [] [] := ⟨(fun _ h => by cases h), (fun _ h => by cases h), (fun j h1 h2 => by have : j ≤ 0 := h2; omega), List.Pairwise.nil, (fun _ h => by cases h), rfl⟩
theorem OnceI.send {S : List OPn} {G : List Nat} {L : List PK} (h : OnceI S G L) (s : OPn) (x : PK) (hid : x.id = S.length + 1) (h1 : (x.fr : Int) = s.fr) (h2 : (x.dst : Int) = s.dst) (h3 : x.b = s.b) : OnceI (S ++ [s]) G (L ++ [x]) := by
  refine ⟨fun y hy => ?_, fun y hy => ?_, fun j j1 j2 hj => ?_, h.nd, fun g hg => ?_, ?_⟩
  · rcases List.mem_append.1 hy with hy | hy
    · obtain ⟨t, ht, r⟩ := h.frm y hy
      exact ⟨t, by rw [List.getElem?_append_left (List.getElem?_eq_some_iff.1 ht).1]; exact ht, r⟩
    · rw [List.mem_singleton] at hy; subst hy
      exact ⟨s, by rw [hid, Nat.add_sub_cancel, List.getElem?_append_right (Nat.le_refl _), Nat.sub_self]; rfl, h1, h2, h3⟩
  · rcases List.mem_append.1 hy with hy | hy
    · exact h.out y hy
    · rw [List.mem_singleton] at hy; subst hy
      intro hm
      have := (h.gone _ hm).2
      omega
  · rw [List.length_append, List.length_singleton] at j2
    by_cases e : j = S.length + 1
    · exact ⟨x, List.mem_append_right _ (List.mem_singleton.2 rfl), by omega⟩
    · obtain ⟨y, hy, e2⟩ := h.all j j1 (by omega) hj
      exact ⟨y, List.mem_append_left _ hy, e2⟩
  · have := h.gone g hg
    rw [List.length_append, List.length_singleton]; omega
  · have := h.cnt
    simp only [List.length_append, List.length_singleton]; omega
theorem OnceI.take {S : List OPn} {G : List Nat} {L1 L2 : List PK} {x : PK} (h : OnceI S G (L1 ++ x :: L2)) (hr : (L1 ++ x :: L2).Pairwise fun a b => a.id < b.id) (h1 : 1 ≤ x.id) : OnceI S (G ++ [x.id]) (L1 ++ L2) := by
  have hxm : x ∈ L1 ++ x :: L2 := by simp
  have hsub : ∀ y ∈ L1 ++ L2, y ∈ L1 ++ x :: L2 := fun y hy => by
    rcases List.mem_append.1 hy with hy | hy
    · exact List.mem_append_left _ hy
    · exact List.mem_append_right _ (List.mem_cons_of_mem _ hy)
  have hne : ∀ y ∈ L1 ++ L2, y.id ≠ x.id := fun y hy e => by
    rw [List.pairwise_append] at hr
    rcases List.mem_append.1 hy with hy | hy
    · have := hr.2.2 y hy x (List.mem_cons_self ..); omega
    · have := (List.pairwise_cons.1 hr.2.1).1 y hy; omega
  refine ⟨fun y hy => h.frm y (hsub y hy), fun y hy hm => ?_, fun j j1 j2 hj => ?_, ?_, fun g hg => ?_, ?_⟩
  · rcases List.mem_append.1 hm with hm | hm
    · exact h.out y (hsub y hy) hm
    · exact hne y hy (List.mem_singleton.1 hm)
  · rw [List.mem_append, not_or, List.mem_singleton] at hj
    obtain ⟨y, hy, e⟩ := h.all j j1 j2 hj.1
    refine ⟨y, ?_, e⟩
    rcases List.mem_append.1 hy with hy | hy
    · exact List.mem_append_left _ hy
    · rcases List.mem_cons.1 hy with rfl | hy
      · exact absurd e.symm hj.2
      · exact List.mem_append_right _ hy
  · rw [List.nodup_append]
    exact ⟨h.nd, by simp, fun a ha b hb e => by rw [List.mem_singleton] at hb; subst hb; subst e; exact h.out x hxm ha⟩
  · rcases List.mem_append.1 hg with hg | hg
    · exact h.gone g hg
    · rw [List.mem_singleton] at hg; subst hg
      obtain ⟨s, hs, _⟩ := h.frm x hxm
      have := (List.getElem?_eq_some_iff.1 hs).1
      omega
  · have := h.cnt
    simp only [List.length_append, List.length_cons, List.length_nil] at this ⊢; omega
/-- Is a number on its way? -/
def thereB (S : List OPn) (G : List Nat) (id : Nat) : Bool := decide (1 ≤ id) && decide (id ≤ S.length) && !decide (id ∈ G)
theorem OnceI.yes {S : List OPn} {G : List Nat} {L : List PK} (h : OnceI S G L) {id : Nat} (ht : thereB S G id = true) : ∃ L1 x L2, L = L1 ++ x :: L2 ∧ x.id = id := by
  unfold thereB at ht
  simp only [Bool.and_eq_true, decide_eq_true_eq, Bool.not_eq_true', decide_eq_false_iff_not] at ht
  obtain ⟨x, hx, e⟩ := h.all id ht.1.1 ht.1.2 ht.2
  obtain ⟨L1, L2, e2⟩ := List.append_of_mem hx
  exact ⟨L1, x, L2, e2, e⟩
theorem OnceI.no {S : List OPn} {G : List Nat} {L : List PK} (h : OnceI S G L) (hlow : ∀ x ∈ L, 1 ≤ x.id) {id : Nat} (ht : thereB S G id = false) : ∀ x ∈ L, x.id ≠ id := by
  intro x hx e
  subst e
  have h1 := hlow x hx
  obtain ⟨s, hs, _⟩ := h.frm x hx
  have h2 := (List.getElem?_eq_some_iff.1 hs).1
  have h3 := h.out x hx
  unfold thereB at ht
  rw [decide_eq_true h1, decide_eq_true (by omega), decide_eq_false h3] at ht
  cases ht
def eGone (G : List Nat) : List (Value × Value) := G.map fun g => (.int .u64 (g : Nat), .int .i64 1)
theorem eGone_len (G : List Nat) : (eGone G).length = G.length := by unfold eGone; rw [List.length_map]
theorem eGone_snoc (G : List Nat) (g : Nat) : eGone (G ++ [g]) = eGone G ++ [(.int .u64 (g : Nat), .int .i64 1)] := by unfold eGone; rw [List.map_append]; rfl
theorem eGone_no {G : List Nat} {g : Nat} (h : g ∉ G) : ∀ p ∈ eGone G, p.1 ≠ Value.int .u64 (g : Nat) := fun p hp => by
  obtain ⟨x, hx, rfl⟩ := List.mem_map.1 hp
  exact u64_ne fun e => h (e ▸ hx)
theorem eGone_in {G : List Nat} {g : Nat} (h : g ∈ G) : (Value.int .u64 (g : Nat), Value.int .i64 1) ∈ eGone G := List.mem_map.2 ⟨g, h, rfl⟩
theorem eGone_put {w' : World} {b : Nat} {G : List Nat} {g : Nat} (h : g ∉ G) (hp : ((∀ p ∈ eGone G, p.1 ≠ Value.int .u64 (g : Nat)) ∧ MapE w' b (.int .u64) (eGone G ++ [(Value.int .u64 (g : Nat), Value.int .i64 1)])) ∨ ∃ (j : Nat) (u : Value), (eGone G)[j]? = some (Value.int .u64 (g : Nat), u) ∧ MapE w' b (.int .u64) ((eGone G).set j (Value.int .u64 (g : Nat), Value.int .i64 1))) : MapE w' b (.int .u64) (eGone (G ++ [g])) := by
  rcases hp with ⟨_, hp⟩ | ⟨j, u, hj, _⟩
  · rw [eGone_snoc]; exact hp
  · exact absurd rfl (eGone_no h _ (List.mem_of_getElem? hj))
end Go.Proofs.Ytlgopjfnknjgjaa
