/- NetPlays: packets without where their bytes lie; what calls make of them; what nets lying side by side keep. -/
import Derived.Test.YtlgopjfnknjgjaaN19
namespace Go.Proofs.Ytlgopjfnknjgjaa
open Go.RowKit Go.MapKept

/-- A packet: number, from, to, bytes. -/
abbrev KP := Nat × Nat × Nat × List UInt8
def kK (x : PK) : KP := (x.id, x.fr, x.dst, x.b)
def hasK (K : List KP) (id : Nat) : Option KP := K.find? fun x => x.1 == id
def lessK (K : List KP) (id : Nat) : List KP := K.eraseP fun x => x.1 == id
def dE (K : List KP) (id : Nat) : Nat := if (hasK K id).isSome then 0 else 6
def dI (K : List KP) (id : Nat) : Nat := ((hasK K id).map fun x => x.1).getD 0
def dF (K : List KP) (id : Nat) : Nat := ((hasK K id).map fun x => x.2.1).getD 0
def dT (K : List KP) (id : Nat) : Nat := ((hasK K id).map fun x => x.2.2.1).getD 0
def dB (K : List KP) (id : Nat) : List UInt8 := ((hasK K id).map fun x => x.2.2.2).getD []
/-- What a packet sent out makes of the packets (where it set out at all). -/
def moreK (K : List KP) (e last p q : Nat) (b : List UInt8) : List KP := if e = 0 then K ++ [(last + 1, p, q, b)] else K
def aE (e last : Nat) : Nat := if e = 0 then last + 1 else 0
def lE (e last : Nat) : Nat := if e = 0 then last + 1 else last
def sE (k : Nat) (p q : Int) (len : Nat) : Nat := if (decide (0 ≤ p) && decide (p < k) && (decide (0 ≤ q) && decide (q < k)) && !decide (p = q)) = true then (if 4096 < len then 3 else 0) else 1

theorem hasK_no {L : List PK} {id : Nat} (h : ∀ x ∈ L, x.id ≠ id) : hasK (L.map kK) id = none := by
  unfold hasK
  rw [List.find?_eq_none]
  intro y hy
  obtain ⟨x, hx, rfl⟩ := List.mem_map.1 hy
  simp [kK, h x hx]
theorem lessK_no {L : List PK} {id : Nat} (h : ∀ x ∈ L, x.id ≠ id) : lessK (L.map kK) id = L.map kK := by
  unfold lessK
  refine List.eraseP_of_forall_not fun y hy => ?_
  obtain ⟨x, hx, rfl⟩ := List.mem_map.1 hy
  simp [kK, h x hx]
theorem hasK_yes {L1 L2 : List PK} {x : PK} (h : ∀ y ∈ L1, y.id ≠ x.id) : hasK ((L1 ++ x :: L2).map kK) x.id = some (kK x) := by
  have h1 := hasK_no h
  unfold hasK at *
  rw [List.map_append, List.find?_append, h1]
  simp [kK]
theorem lessK_yes {L1 L2 : List PK} {x : PK} (h : ∀ y ∈ L1, y.id ≠ x.id) : lessK ((L1 ++ x :: L2).map kK) x.id = (L1 ++ L2).map kK := by
  unfold lessK
  rw [List.map_append, List.eraseP_append_right _ (fun y hy => by
    obtain ⟨z, hz, rfl⟩ := List.mem_map.1 hy
    simp [kK, h z hz]), List.map_cons, List.eraseP_cons_of_pos (by simp [kK]), List.map_append]
theorem dE_no {K : List KP} {id : Nat} (h : hasK K id = none) : dE K id = 6 ∧ dI K id = 0 ∧ dF K id = 0 ∧ dT K id = 0 ∧ dB K id = [] := by
  unfold dE dI dF dT dB
  rw [h]
  exact ⟨rfl, rfl, rfl, rfl, rfl⟩
theorem dE_yes {K : List KP} {id : Nat} {x : KP} (h : hasK K id = some x) : dE K id = 0 ∧ dI K id = x.1 ∧ dF K id = x.2.1 ∧ dT K id = x.2.2.1 ∧ dB K id = x.2.2.2 := by
  unfold dE dI dF dT dB
  rw [h]
  exact ⟨rfl, rfl, rfl, rfl, rfl⟩
theorem rise_front {L1 L2 : List PK} {x : PK} (h : (L1 ++ x :: L2).Pairwise fun a b => a.id < b.id) : ∀ y ∈ L1, y.id ≠ x.id := fun y hy => Nat.ne_of_lt ((List.pairwise_append.1 h).2.2 y hy x (List.mem_cons_self ..))
theorem lessK_sub (K : List KP) (id : Nat) : (lessK K id).Sublist K := List.eraseP_sublist
theorem net_first (L : List PK) (id : Nat) : (∀ x ∈ L, x.id ≠ id) ∨ ∃ L1 x L2, L = L1 ++ x :: L2 ∧ x.id = id ∧ ∀ y ∈ L1, y.id ≠ id := by
  induction L with
  | nil => exact .inl fun _ h => by cases h
  | cons a L ih =>
    by_cases ha : a.id = id
    · exact .inr ⟨[], a, L, rfl, ha, fun _ h => by cases h⟩
    · rcases ih with h | ⟨L1, x, L2, rfl, hx, h⟩
      · refine .inl fun y hy => ?_
        rcases List.mem_cons.1 hy with rfl | hy
        · exact ha
        · exact h y hy
      · refine .inr ⟨a :: L1, x, L2, rfl, hx, fun y hy => ?_⟩
        rcases List.mem_cons.1 hy with rfl | hy
        · exact ha
        · exact h y hy

theorem sE_arg {k : Nat} {p q : Int} {len : Nat} (h : (decide (0 ≤ p) && decide (p < k) && (decide (0 ≤ q) && decide (q < k)) && !decide (p = q)) = false) : sE k p q len = 1 := by
  unfold sE; rw [h]; rfl
theorem sE_in {k : Nat} {p q : Int} {len : Nat} (h : (decide (0 ≤ p) && decide (p < k) && (decide (0 ≤ q) && decide (q < k)) && !decide (p = q)) = true) : sE k p q len = (if 4096 < len then 3 else 0) ∧ ∃ p' q' : Nat, p = p' ∧ q = q' ∧ p' < k ∧ q' < k ∧ p' ≠ q' := by
  refine ⟨by unfold sE; rw [h]; rfl, p.toNat, q.toNat, ?_⟩
  simp only [Bool.and_eq_true, decide_eq_true_eq, Bool.not_eq_true', decide_eq_false_iff_not] at h
  omega
/-- Where bytes lie that are newer than a time. -/
def NewB (n : Nat) (v : Value) : Prop := ∀ g, v.ownBlock = some g → n ≤ g
/-- Each packet is one of the old ones, or its bytes are newer. -/
def NewL (n : Nat) (L L' : List PK) : Prop := ∀ y ∈ L', y ∈ L ∨ NewB n y.h
theorem NewL.sub {n : Nat} {L L' : List PK} (h : L'.Sublist L) : NewL n L L' := fun _ hy => .inl (h.subset hy)
theorem NewL.more {n : Nat} {L : List PK} {x : PK} (h : NewB n x.h) : NewL n L (L ++ [x]) := fun y hy => by
  rcases List.mem_append.1 hy with hy | hy
  · exact .inl hy
  · rw [List.mem_singleton] at hy; subst hy; exact .inr h
/-- Bytes of a value's own lie in none of the packets'. -/
def AwayV (v : Value) (L : List PK) : Prop := ∀ y ∈ L, ∀ g, v.ownBlock = some g → y.h.ownBlock ≠ some g
def AwayL (L R : List PK) : Prop := ∀ x ∈ L, AwayV x.h R
theorem AwayV.none {L : List PK} : AwayV (.slice none 0 0) L := fun _ _ _ h => by cases h
theorem AwayV.sub {v : Value} {L L' : List PK} (h : AwayV v L) (hs : ∀ y ∈ L', y ∈ L) : AwayV v L' := fun y hy => h y (hs y hy)
/-- The document's net: what its calls leave. -/
def RefF (rb : Nat) (lv : Value) (w w' : World) : Prop := Rr.Buts [some rb, lv.ownBlock] w w'
theorem RefF.of {rb : Nat} {lv : Value} {w w' : World} (h : Ext w w') : RefF rb lv w w' := ⟨h.os, h.tape, h.output, h.size, fun k hk _ => h.block k hk⟩
theorem RefF.keep {rb k : Nat} {lv : Value} {w w' : World} (h : RefF rb lv w w') (hk : k < w.heap.size) (h1 : k ≠ rb) (h2 : lv.ownBlock ≠ some k) : w'.heap[k]? = w.heap[k]? :=
  h.block k hk fun hm => by
    simp only [List.mem_cons, List.not_mem_nil, or_false, Option.some.injEq] at hm
    rcases hm with e | e
    · exact h1 e
    · exact h2 e.symm
theorem RefF.ext {rb : Nat} {lv : Value} {w0 w w' : World} (h : RefF rb lv w w') (hx : Ext w0 w) (h1 : w0.heap.size ≤ rb) (h2 : NewB w0.heap.size lv) : Ext w0 w' :=
  Rr.Buts.ext h hx fun k hk => by
    simp only [List.mem_cons, List.not_mem_nil, or_false, Option.some.injEq] at hk
    rcases hk with rfl | hk
    · exact h1
    · exact h2 k hk.symm
theorem RefR.rblt {w : World} {base rb k last : Nat} {lv : Value} {L : List PK} (h : RefR w base rb k last lv L) : rb < w.heap.size := (Array.getElem?_eq_some_iff.1 h.net).1
/-- A row of another type than packets stays. -/
theorem RefR.rowF {w w' : World} {base rb k last : Nat} {lv : Value} {R : List PK} (h : RefR w base rb k last lv R) (hf : RefF rb lv w w') {b2 size n : Nat} {e : TypeId} {v : Value} {xs : List Value} (ho : w.ownsRow b2 e size v n xs) (he : e ≠ 82) (he2 : e ≠ 75) : w'.ownsRow b2 e size v n xs := by
  refine ⟨ho.1, ?_⟩
  have hn := own_ne ho h.net he
  rcases ho.2 with h0 | ⟨g, cap, cur, rfl, hb, hg, rest⟩
  · exact .inl h0
  · have hg1 : g ≠ rb := fun e => hn (by rw [e]; rfl)
    have hg2 : lv.ownBlock ≠ some g := fun e => own_ne h.row hg (Ne.symm he2) e
    exact .inr ⟨g, cap, cur, rfl, hb, by rw [hf.keep (Array.getElem?_eq_some_iff.1 hg).1 hg1 hg2]; exact hg, rest⟩
/-- The program's net, whatever the document's does. -/
theorem NetR.beside {w w' : World} {base bn bm k last : Nat} {L : List PK} (h : NetR w base bn bm k last L) {base2 rb k2 last2 : Nat} {lv : Value} {R : List PK} (hr : RefR w base2 rb k2 last2 lv R) (hf : RefF rb lv w w') : NetR w' base bn bm k last L := by
  have h1 : bn ≠ rb := fun e => by
    have := h.net
    rw [e, hr.net] at this
    cases this
  have h2 : bm ≠ rb := fun e => by
    obtain ⟨es, clock, hm, _⟩ := h.map
    rw [e, hr.net] at hm
    cases hm
  refine ⟨?_, ?_, h.lo, h.rise, h.low, fun x hx => hr.rowF hf (h.own x hx) (by decide) (by decide), h.apart, h.inn, h.max⟩
  · rw [hf.keep h.bnlt h1 (own_ne hr.row h.net (by decide))]; exact h.net
  · obtain ⟨es, clock, hm, rest⟩ := h.map
    refine ⟨es, clock, ?_, rest⟩
    rw [hf.keep h.bmlt h2 (own_not_map hr.row h.map)]; exact hm
/-- The document's net, whatever the program's does. -/
theorem RefR.beside {w w' : World} {base rb k last : Nat} {lv : Value} {R : List PK} (h : RefR w base rb k last lv R) {base2 bn bm k2 last2 : Nat} {L : List PK} (hn : NetR w base2 bn bm k2 last2 L) (hf : Net2 bn bm w w') : RefR w' base rb k last lv R := by
  refine ⟨?_, hn.row hf h.row (by decide), fun x hx => hn.row hf (h.own x hx) (by decide), h.lo⟩
  refine (hf.keep h.rblt (fun e => ?_) (fun e => ?_)).trans h.net
  · have h1 := h.net
    rw [e, hn.net] at h1
    cases h1
  · have h1 := h.net
    obtain ⟨es, clock, hm, _⟩ := hn.map
    rw [e, hm] at h1
    cases h1
/-- Bytes of another's own turn. -/
theorem NetR.turn {w w' : World} {base bn bm k last b2 n : Nat} {L : List PK} {v : Value} {xs : List Value} (h : NetR w base bn bm k last L) (ho : w.ownsRow b2 5 1 v n xs) (ha : AwayV v L) (hg : w.grownBy w' v.ownBlock) : NetR w' base bn bm k last L :=
  ⟨(hg.block bn h.bnlt (fun q => own_ne ho h.net (by decide) q.symm)).trans h.net, h.map.grown hg (own_not_map ho h.map), h.lo, h.rise, h.low, fun x hx => own_keep (h.own x hx) hg (fun g hgg e => ha x hx g e hgg), h.apart, h.inn, h.max⟩
theorem RefR.turn {w w' : World} {base rb k last b2 n : Nat} {lv : Value} {R : List PK} {v : Value} {xs : List Value} (h : RefR w base rb k last lv R) (ho : w.ownsRow b2 5 1 v n xs) (ha : AwayV v R) (hg : w.grownBy w' v.ownBlock) : RefR w' base rb k last lv R :=
  ⟨(hg.block rb h.rblt (fun q => own_ne ho h.net (by decide) q.symm)).trans h.net, own_keep h.row hg (own_apart ho h.row (by decide)), fun x hx => own_keep (h.own x hx) hg (fun g hgg e => ha x hx g e hgg), h.lo⟩
end Go.Proofs.Ytlgopjfnknjgjaa
