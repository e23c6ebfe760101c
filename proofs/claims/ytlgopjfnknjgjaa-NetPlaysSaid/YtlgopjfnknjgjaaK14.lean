/- A region that draws its order and ends in a call that may write, its two results taken out in any order, and a chain (K7 asks one forced order). -/
import Derived.Test.YtlgopjfnknjgjaaK7
namespace Go.Proofs.Ytlgopjfnknjgjaa
open Go.RowKit

section
variable {P : Program}

def reachAt (ops : Array Oper) (i : Nat) : Bool := (List.range i).all fun j => (List.range (i + 1)).any fun k => decide (j < k) && waits ops k j
theorem reach_of {ops : Array Oper} {i : Nat} (hc : reachAt ops i = true) {listed : Array Bool}
    (down : ∀ j, listed.getD j false = true → ∀ i, waits ops j i = true → listed.getD i false = true)
    (hd : ∀ j, waits ops i j = true → listed.getD j false = true) : ∀ j, j < i → listed.getD j false = true := by
  have h2 := List.all_eq_true.1 hc
  have key : ∀ d j, i - j = d → j < i → listed.getD j false = true := by
    intro d
    induction d using Nat.strongRecOn with
    | _ d ih =>
      intro j hd' hj
      obtain ⟨k, hk, hk2⟩ := List.any_eq_true.1 (h2 j (List.mem_range.2 hj))
      simp only [Bool.and_eq_true, decide_eq_true_eq] at hk2
      have hki := List.mem_range.1 hk
      by_cases he : k = i
      · subst he; exact hd j hk2.2
      · exact down k (ih (i - k) (by omega) k rfl (by omega)) j hk2.2
  intro j hj
  exact key _ j rfl hj
def extB (o : Option Oper) (t c d : Nat) : Bool := match o with
  | some o => (match o.op with | .extract (.tmp t') c' => t' == t && c' == c | _ => false) && o.dst == some d && o.guard.isNone
  | none => false
theorem extB_ok {ops : Array Oper} {k t c d : Nat} (h : extB ops[k]? t c d = true) : ∃ o, ops[k]? = some o ∧ o.op = .extract (.tmp t) c ∧ o.dst = some d ∧ o.guard = none := by
  unfold extB at h
  cases ho : ops[k]? with
  | none => rw [ho] at h; cases h
  | some o =>
    rw [ho] at h
    simp only [Bool.and_eq_true, beq_iff_eq, Option.isNone_iff_eq_none] at h
    obtain ⟨⟨h1, h2⟩, h3⟩ := h
    refine ⟨o, rfl, ?_, h2, h3⟩
    cases hop : o.op <;> rw [hop] at h1 <;> try cases h1
    rename_i x c'
    cases x <;> try cases h1
    simp only [Bool.and_eq_true, beq_iff_eq] at h1
    rw [h1.1, h1.2]
theorem ext_run {o : Oper} {t c : Nat} (hop : o.op = .extract (.tmp t) c) {a : Act} {vs : Array Value} {v : Value} (hv : a.tmps.getD t undef = .tuple vs) (hc : vs[c]? = some v) (w : World) : (execOp a.eval o).run P w = .ok (.value v) w := by
  have e : a.eval (.tmp t) = .tuple vs := hv
  simp [execOp, hop, e, Instr.extract, hc]
theorem put_comm (a : Act) {d1 d2 : Nat} (h : d1 ≠ d2) (v1 v2 : Value) : (a.put (some d1) v1).put (some d2) v2 = (a.put (some d2) v2).put (some d1) v1 := by
  unfold Act.put
  simp only [Act.mk.injEq, and_true]
  apply Array.ext_getElem?
  intro s
  simp only [Array.getElem?_setIfInBounds, Array.size_setIfInBounds]
  by_cases e1 : d1 = s <;> by_cases e2 : d2 = s <;> simp [e1, e2]
  · exact absurd (e1.trans e2.symm) h

/-- All ahead of k are listed, none from k on. -/
structure UpTo (ops : Array Oper) (k : Nat) (listed : Array Bool) : Prop where
  size : listed.size = ops.size
  yes : ∀ j, j < k → listed.getD j false = true
  no : ∀ j, k ≤ j → listed.getD j false = false
  down : ∀ j, listed.getD j false = true → ∀ i, waits ops j i = true → listed.getD i false = true
theorem ready_un {ops : Array Oper} {listed : Array Bool} {k : Nat} (hs : listed.size = ops.size) (hk : k ∈ Region.ready .any ops listed) : k < ops.size ∧ listed.getD k false = false := by
  obtain ⟨h0, o, hok, _⟩ := mem_ready.1 hk
  have hks : k < ops.size := (Array.getElem?_eq_some_iff.1 hok).1
  have hkl : k < listed.size := by omega
  exact ⟨hks, by simp [hkl] at h0 ⊢; exact h0⟩
theorem un_ready {ops : Array Oper} {listed : Array Bool} {k : Nat} (hord : ∀ i o, ops[i]? = some o → ∀ e ∈ o.after, Region.binds .any e = true → e.on < i) (hs : listed.size = ops.size) (hk : k < ops.size) (hn : listed.getD k false = false) (hl : ∀ j, j < k → waits ops k j = true → listed.getD j false = true) : k ∈ Region.ready .any ops listed := by
  have ho : ops[k]? = some ops[k] := by simp [hk]
  refine mem_ready.2 ⟨?_, ops[k], ho, fun e he hb => hl _ (hord k _ ho e he hb) ?_⟩
  · have hkl : k < listed.size := by omega
    simp [hkl] at hn ⊢; exact hn
  · simp only [waits, ho, Array.any_eq_true']
    exact ⟨e, he, by simp [hb]⟩

/-- Two results taken out, in any order; then the chain. -/
theorem pair_any {ops : Array Oper} {m t d1 d2 : Nat} (hord : ∀ i o, ops[i]? = some o → ∀ e ∈ o.after, Region.binds .any e = true → e.on < i)
    (hch : chainOk ops (m + 3) = true) (h1 : extB ops[m + 1]? t 0 d1 = true) (h2 : extB ops[m + 2]? t 1 d2 = true) (hd : d1 ≠ d2) (ht1 : t ≠ d1) (ht2 : t ≠ d2)
    {Q : Exit → Act → World → Prop} {f : Nat} {listed : Array Bool} {a : Act} {w : World} (hU : UpTo ops (m + 1) listed) (hf : m + 3 + f = ops.size)
    {v1 v2 : Value} (hv : a.tmps.getD t undef = .tuple #[v1, v2]) (h : wpList P ops Q (ops.toList.drop (m + 3)) ((a.put (some d1) v1).put (some d2) v2) w) : wpAny P .any ops Q (f + 2) listed a w := by
  obtain ⟨o1, e1, p1, q1, g1⟩ := extB_ok h1
  obtain ⟨o2, e2, p2, q2, g2⟩ := extB_ok h2
  have hch2 : ∀ i, m + 3 ≤ i → i < ops.size → reachAt ops i = true := fun i hi his => by
    have h1 := List.all_eq_true.1 hch i (List.mem_range.2 his)
    simp only [Bool.or_eq_true, decide_eq_true_eq] at h1
    exact h1.resolve_left (by omega)
  have low : ∀ {l : Array Bool} {k x : Nat}, l.size = ops.size → (∀ j, l.getD j false = true → ∀ i, waits ops j i = true → l.getD i false = true) → k ∈ Region.ready .any ops l → x < m + 3 → l.getD x false = false → k < m + 3 := by
    intro l k x hs hdn hk hx hxn
    obtain ⟨hks, hkn⟩ := ready_un hs hk
    rcases Nat.lt_or_ge k (m + 3) with h' | h'
    · exact h'
    · have := reach_of (hch2 k h' hks) hdn (waits_of_ready hk) x (by omega)
      rw [hxn] at this; cases this
  have upd : ∀ {l : Array Bool} {k : Nat}, (∀ j, l.getD j false = true → ∀ i, waits ops j i = true → l.getD i false = true) → k < l.size → k ∈ Region.ready .any ops l → ∀ j, (l.setIfInBounds k true).getD j false = true → ∀ i, waits ops j i = true → (l.setIfInBounds k true).getD i false = true := by
    intro l k hdn hkl hk j hj x hx
    by_cases e : k = j
    · subst e; exact getD_set_true (waits_of_ready hk x hx)
    · rw [getD_set_ne false e] at hj; exact getD_set_true (hdn j hj x hx)
  have fin : ∀ (l : Array Bool), UpTo ops (m + 3) l → wpAny P .any ops Q f l ((a.put (some d1) v1).put (some d2) v2) w := fun l hl =>
    chain_any hch hord f (m + 3) l _ w (Nat.le_refl _) hf hl.size hl.yes hl.no hl.down h
  have run1 : ∀ (b : Act) (K : Act → World → Prop), b.tmps.getD t undef = .tuple #[v1, v2] → K (b.put (some d1) v1) w → wpOp P ops Q (m + 1) K b w := by
    intro b K hb hK
    unfold wpOp
    rw [e1]
    simp only []
    have hwt : Region.wanted o1 (yielded ops b.tmps) = true := by simp [Region.wanted, g1]
    rw [if_pos hwt]
    refine .inl ?_
    unfold Oper.wp
    rw [ext_run p1 hb (v := v1) rfl, Oper.upon_value, q1]
    exact hK
  have run2 : ∀ (b : Act) (K : Act → World → Prop), b.tmps.getD t undef = .tuple #[v1, v2] → K (b.put (some d2) v2) w → wpOp P ops Q (m + 2) K b w := by
    intro b K hb hK
    unfold wpOp
    rw [e2]
    simp only []
    have hwt : Region.wanted o2 (yielded ops b.tmps) = true := by simp [Region.wanted, g2]
    rw [if_pos hwt]
    refine .inl ?_
    unfold Oper.wp
    rw [ext_run p2 hb (v := v2) rfl, Oper.upon_value, q2]
    exact hK
  have hs1 : m + 1 < listed.size := by rw [hU.size]; omega
  have hs2 : m + 2 < listed.size := by rw [hU.size]; omega
  have hr1 : m + 1 ∈ Region.ready .any ops listed := un_ready hord hU.size (by omega) (hU.no _ (Nat.le_refl _)) fun j hj _ => hU.yes j hj
  refine ⟨fun hr => absurd hr1 (by rw [hr]; exact List.not_mem_nil), fun k hk => ?_⟩
  have hk3 := low hU.size hU.down hk (Nat.lt_succ_of_lt (Nat.lt_succ_self (m + 1))) (hU.no (m + 1) (Nat.le_refl _))
  obtain ⟨hks, hkn⟩ := ready_un hU.size hk
  have hkm : m + 1 ≤ k := by
    rcases Nat.lt_or_ge k (m + 1) with h' | h'
    · have := hU.yes k h'; rw [hkn] at this; cases this
    · exact h'
  have hcase : k = m + 1 ∨ k = m + 2 := by omega
  rcases hcase with rfl | rfl
  · refine run1 _ _ hv ?_
    have hn2 : (listed.setIfInBounds (m + 1) true).getD (m + 2) false = false := by rw [getD_set_ne false (by omega)]; exact hU.no _ (by omega)
    have hsz : (listed.setIfInBounds (m + 1) true).size = ops.size := by simpa using hU.size
    have hdn := upd hU.down hs1 hk
    have hy : ∀ j, j < m + 2 → (listed.setIfInBounds (m + 1) true).getD j false = true := fun j hj => by
      by_cases e : m + 1 = j
      · subst e; simp [hs1]
      · exact getD_set_true (hU.yes j (by omega))
    have hr2 : m + 2 ∈ Region.ready .any ops (listed.setIfInBounds (m + 1) true) := un_ready hord hsz (by omega) hn2 fun j hj _ => hy j hj
    refine ⟨fun hr => absurd hr2 (by rw [hr]; exact List.not_mem_nil), fun x hx => ?_⟩
    have hx3 := low hsz hdn hx (Nat.lt_succ_self (m + 2)) hn2
    obtain ⟨hxs, hxn⟩ := ready_un hsz hx
    have hxm : x = m + 2 := by
      rcases Nat.lt_or_ge x (m + 2) with h' | h'
      · have := hy x h'; rw [hxn] at this; cases this
      · omega
    subst hxm
    refine run2 _ _ (by rw [put_getD_ne _ (fun e => ht1 (Option.some.inj e).symm)]; exact hv) (fin _ ⟨by simpa using hsz, fun j hj => ?_, fun j hj => ?_, upd hdn (by simpa using hs2) hx⟩)
    · by_cases e : m + 2 = j
      · subst e; simp [hs2]
      · exact getD_set_true (hy j (by omega))
    · rw [getD_set_ne false (by omega), getD_set_ne false (by omega)]; exact hU.no j (by omega)
  · refine run2 _ _ hv ?_
    have hn2 : (listed.setIfInBounds (m + 2) true).getD (m + 1) false = false := by rw [getD_set_ne false (by omega)]; exact hU.no _ (by omega)
    have hsz : (listed.setIfInBounds (m + 2) true).size = ops.size := by simpa using hU.size
    have hdn := upd hU.down hs2 hk
    have hy : ∀ j, j < m + 3 → j ≠ m + 1 → (listed.setIfInBounds (m + 2) true).getD j false = true := fun j hj hne => by
      by_cases e : m + 2 = j
      · subst e; simp [hs2]
      · exact getD_set_true (hU.yes j (by omega))
    have hr2 : m + 1 ∈ Region.ready .any ops (listed.setIfInBounds (m + 2) true) := un_ready hord hsz (by omega) hn2 fun j hj _ => hy j (by omega) (by omega)
    refine ⟨fun hr => absurd hr2 (by rw [hr]; exact List.not_mem_nil), fun x hx => ?_⟩
    have hx3 := low hsz hdn hx (Nat.lt_succ_of_lt (Nat.lt_succ_self (m + 1))) hn2
    obtain ⟨hxs, hxn⟩ := ready_un hsz hx
    have hxm : x = m + 1 := by
      rcases Nat.decEq x (m + 1) with h' | h'
      · have := hy x hx3 h'; rw [hxn] at this; cases this
      · exact h'
    subst hxm
    refine run1 _ _ (by rw [put_getD_ne _ (fun e => ht2 (Option.some.inj e).symm)]; exact hv) ?_
    rw [← put_comm a hd]
    refine fin _ ⟨by simpa using hsz, fun j hj => ?_, fun j hj => ?_, upd hdn (by simpa using hs1) hx⟩
    · by_cases e : m + 1 = j
      · subst e; simp [hs1]
      · exact getD_set_true (hy j hj (fun e' => e e'.symm))
    · rw [getD_set_ne false (by omega), getD_set_ne false (by omega)]; exact hU.no j (by omega)

/-- What a call must come to: its results stand in slot t, the chain behind. -/
def callQ (P : Program) (ops : Array Oper) (Q : Exit → Act → World → Prop) (m t d1 d2 : Nat) : Exit → Act → World → Prop :=
  fun e a' w' => e = .normal ∧ ∃ v1 v2, a'.tmps.getD t undef = .tuple #[v1, v2] ∧ wpList P ops Q (ops.toList.drop (m + 3)) ((a'.put (some d1) v1).put (some d2) v2) w'

theorem region_call {ops : Array Oper} {m t d1 d2 : Nat} {F : Nat → Value → World → Prop} {a0 : Act} {w0 : World} {D : List (List (Nat × Tmp))} {E : List (Nat × Tmp)} {Q : Exit → Act → World → Prop}
    (hok : opsOk ops a0.tmps.size 0 (ops.toList.take m) D = true) (hms : m ≤ ops.size)
    (hE : ((E.all fun p => decide (p.1 < m) && dstOf ops p.1 == some p.2) && (List.range m).all fun j => match dstOf ops j with | some _ => E.any fun p => p.1 == j | none => true) = true)
    (hr0 : reachAt ops m = true) (hch : chainOk ops (m + 3) = true) (hx1 : extB ops[m + 1]? t 0 d1 = true) (hx2 : extB ops[m + 2]? t 1 d2 = true) (hd : d1 ≠ d2) (ht1 : t ≠ d1) (ht2 : t ≠ d2) (hwm1 : waits ops (m + 1) m = true) (hwm2 : waits ops (m + 2) m = true) (hord : ∀ i o, ops[i]? = some o → ∀ e ∈ o.after, Region.binds .any e = true → e.on < i)
    (hst : ∀ i v w w', Ext w w' → F i v w → F i v w')
    (hob : Obs P ops F a0 w0 0 (ops.toList.take m) D)
    (hend : ∀ w, Ext w0 w → depsThen F w E a0 (fun a => wpList P ops (callQ P ops Q m t d1 d2) ((ops.toList.drop m).take 1) a w)) :
    ∀ (fuel : Nat) (listed : Array Bool) (a : Act) (w : World), listed.count false = fuel → (∀ j, m ≤ j → listed.getD j false = false) → Inv ops F a0 w0 listed a w → wpAny P .any ops Q fuel listed a w := by
  have hget : ∀ {i o}, i < m → ops[i]? = some o → (ops.toList.take m)[i]? = some o := fun {i o} hi h => by
    rw [List.getElem?_take, if_pos hi]; simpa using h
  have hall : ∀ {i o}, i < m → ops[i]? = some o → opOk ops a0.tmps.size i o (D.getD i []) = true := fun {i o} hi h => by
    have := opsOk_get hok i o (hget hi h); simpa using this
  have hobs : ∀ {i o}, i < m → ops[i]? = some o → Ob P ops F a0 w0 i o (D.getD i []) := fun {i o} hi h => by
    have := Obs_get hob i o (hget hi h); simpa using this
  -- all ahead of the chain are listed: the chain
  have fin : ∀ (fuel : Nat) (listed : Array Bool) (a : Act) (w : World), m + fuel = ops.size → (∀ j, j < m → listed.getD j false = true) → (∀ j, m ≤ j → listed.getD j false = false) → Inv ops F a0 w0 listed a w → wpAny P .any ops Q fuel listed a w := by
    intro fuel listed a w hf hl hno hI
    simp only [Bool.and_eq_true] at hE
    obtain ⟨c, hk, hc1, hc2, hc3⟩ := depsThen_at a _ E a0 hI.ts.symm (fun p hp => by
      have hd := List.all_eq_true.1 hE.1 p hp
      simp only [Bool.and_eq_true, decide_eq_true_eq, beq_iff_eq] at hd
      have := hI.fact p.1 (by omega) (hl p.1 hd.1)
      simp only [hd.2] at this
      exact this) (hend w hI.ext)
    have : c = a := by
      obtain ⟨ct, cd⟩ := c
      obtain ⟨at', ad⟩ := a
      have e2 : cd = ad := hc2.trans hI.df.symm
      have e1 : ct = at' := by
        apply Array.ext_getElem?
        intro s
        refine tmps_ext (a := ⟨ct, cd⟩) (b := ⟨at', ad⟩) hc1 ?_
        rw [hc3]
        split
        · rfl
        · rename_i hn
          refine (hI.old s fun j hj => ?_).symm
          rcases Nat.lt_or_ge j m with hjm | hjm
          · exfalso
            have h2 := List.all_eq_true.1 hE.2 j (List.mem_range.2 hjm)
            simp only [hj, List.any_eq_true, beq_iff_eq] at h2
            obtain ⟨p, hp, hpj⟩ := h2
            have hd := List.all_eq_true.1 hE.1 p hp
            simp only [Bool.and_eq_true, decide_eq_true_eq, beq_iff_eq] at hd
            have hd2 := hd.2
            rw [hpj, hj] at hd2
            exact hn ⟨p, hp, (Option.some.inj hd2).symm⟩
          · exact hno j hjm
      rw [e1, e2]
    rw [← this]
    have hm2 : m + 2 < ops.size := by obtain ⟨o2, e2, _⟩ := extB_ok hx2; exact (Array.getElem?_eq_some_iff.1 e2).1
    obtain ⟨f, rfl⟩ : ∃ f, fuel = f + 3 := ⟨fuel - 3, by omega⟩
    have hmr := un_ready hord hI.size (k := m) (by omega) (hno m (Nat.le_refl _)) (fun j hj _ => hl j hj)
    refine ⟨fun hr => absurd hmr (by rw [hr]; exact List.not_mem_nil), fun k hk' => ?_⟩
    obtain ⟨hks, hkn⟩ := ready_un hI.size hk'
    have hmn := hno m (Nat.le_refl _)
    have hkm : k = m := by
      rcases Nat.lt_or_ge k m with h' | h'
      · have := hl k h'; rw [hkn] at this; cases this
      · by_cases e1 : k = m
        · exact e1
        · exfalso
          by_cases e2 : k = m + 1
          · subst e2; have := waits_of_ready hk' m hwm1; rw [hmn] at this; cases this
          · by_cases e3 : k = m + 2
            · subst e3; have := waits_of_ready hk' m hwm2; rw [hmn] at this; cases this
            · have h1 := List.all_eq_true.1 hch k (List.mem_range.2 hks)
              simp only [Bool.or_eq_true, decide_eq_true_eq] at h1
              have := reach_of (h1.resolve_left (by omega)) hI.down (waits_of_ready hk') m (by omega)
              rw [hmn] at this; cases this
    subst hkm
    have hml : k < listed.size := by rw [hI.size]; exact hks
    have next : ∀ a' w', (callQ P ops Q k t d1 d2) .normal a' w' → wpAny P .any ops Q (f + 2) (listed.setIfInBounds k true) a' w' := by
      rintro a' w' ⟨_, v1, v2, hv, hw⟩
      refine pair_any hord hch hx1 hx2 hd ht1 ht2 ⟨by simpa using hI.size, fun j hj => ?_, fun j hj => ?_, fun j hj x hx => ?_⟩ (by omega) hv hw
      · by_cases e : k = j
        · subst e; simp [hml]
        · exact getD_set_true (hl j (by omega))
      · rw [getD_set_ne false (by omega)]; exact hno j (by omega)
      · by_cases e : k = j
        · subst e; exact getD_set_true (waits_of_ready hk' x hx)
        · rw [getD_set_ne false e] at hj; exact getD_set_true (hI.down j hj x hx)
    have ho : ops[k]? = some ops[k] := by simp [hks]
    have hdrop : (ops.toList.drop k).take 1 = [ops[k]] := by
      rw [List.drop_eq_getElem_cons (by simpa using hks)]; simp
    rw [hdrop] at hk
    unfold wpOp
    rw [ho]
    simp only []
    simp only [wpList] at hk
    split
    · rename_i hw
      rw [if_pos hw] at hk
      rcases hk with hk | ⟨_, x, y, hxy⟩
      · refine .inl ?_
        unfold Oper.wp at hk ⊢
        generalize (execOp c.eval ops[k]).run P w = r at *
        cases r with
        | ok n w' =>
          cases n <;> simp only [Oper.upon] at hk ⊢
          case value u => exact next _ _ hk
          case skip => exact next _ _ hk
          case defer d => exact next _ _ hk
          case enter f' args =>
            refine Calls.mono hk fun e w'' he => ?_
            cases e with
            | returned u => exact next _ _ he
            | panicked ch => exact absurd he.1 (by simp)
            | outgrown => obtain ⟨_, _, h⟩ := he; exact absurd h.1 (by simp)
          case row row args => exact Rows.mono hk fun u w'' he => next _ _ he
        | halt x w' =>
          cases x <;> simp only [Oper.upon] at hk ⊢
          case panic u => exact absurd hk.1 (by simp)
      · exact absurd hxy.1 (by simp)
    · rename_i hw
      rw [if_neg hw] at hk
      exact next _ _ hk
  have hready_lt : ∀ (listed : Array Bool) (a : Act) (w : World), (∀ j, m ≤ j → listed.getD j false = false) → Inv ops F a0 w0 listed a w → (¬ ∀ j, j < m → listed.getD j false = true) → ∀ i ∈ Region.ready .any ops listed, i < m := by
    intro listed a w hno hI hnot i hi
    obtain ⟨_, o, ho, _⟩ := mem_ready.1 hi
    have his : i < ops.size := (Array.getElem?_eq_some_iff.1 ho).1
    rcases Nat.lt_or_ge i m with h' | h'
    · exact h'
    · exfalso
      have hmn := hno m (Nat.le_refl _)
      by_cases e1 : i = m
      · subst e1
        exact hnot (reach_of hr0 hI.down (waits_of_ready hi))
      · by_cases e2 : i = m + 1
        · subst e2; have := waits_of_ready hi m hwm1; rw [hmn] at this; cases this
        · by_cases e3 : i = m + 2
          · subst e3; have := waits_of_ready hi m hwm2; rw [hmn] at this; cases this
          · have h1 := List.all_eq_true.1 hch i (List.mem_range.2 his)
            simp only [Bool.or_eq_true, decide_eq_true_eq] at h1
            have := reach_of (h1.resolve_left (by omega)) hI.down (waits_of_ready hi) m (by omega)
            rw [hmn] at this; cases this
  have hcount : ∀ (listed : Array Bool), listed.size = ops.size → (∀ j, j < m → listed.getD j false = true) → (∀ j, m ≤ j → listed.getD j false = false) → m + listed.count false = ops.size := by
    intro listed hs hl hno
    have e : listed = (List.replicate m true ++ List.replicate (ops.size - m) false).toArray := by
      apply Array.ext
      · simp; omega
      · intro j h1 h2
        have hj : j < listed.size := h1
        rcases Nat.lt_or_ge j m with hjm | hjm
        · have := hl j hjm
          simp [hj] at this
          rw [this]
          simp [hjm]
        · have := hno j hjm
          simp [hj] at this
          rw [this]
          have : ¬ j < m := by omega
          simp [List.getElem_append, this]
    rw [e]
    simp [List.count_append, List.count_replicate]
    omega
  intro fuel
  induction fuel with
  | zero =>
    intro listed a w hc0 hno hI
    by_cases hl : ∀ j, j < m → listed.getD j false = true
    · exact fin 0 listed a w (by have := hcount listed hI.size hl hno; omega) hl hno hI
    · exfalso
      apply hl
      intro j hj
      have hj' : j < listed.size := by rw [hI.size]; omega
      have := Array.count_eq_zero.1 hc0
      have h2 : listed[j] ≠ false := fun e => this (e ▸ Array.getElem_mem hj')
      simp [hj']; simpa using h2
  | succ fuel ih =>
    intro listed a w hcn hno hI
    by_cases hl : ∀ j, j < m → listed.getD j false = true
    · exact fin (fuel + 1) listed a w (by have := hcount listed hI.size hl hno; omega) hl hno hI
    refine ⟨fun hr => ?_, fun i hi => ?_⟩
    · exfalso
      apply hl
      intro j
      induction j using Nat.strongRecOn with
      | _ j ihj =>
        intro hjm
        have hj : j < ops.size := by omega
        cases hlj : listed.getD j false with
        | true => rfl
        | false =>
          exfalso
          have ho : ops[j]? = some ops[j] := by simp [hj]
          have hmem : j ∈ Region.ready .any ops listed := by
            refine mem_ready.2 ⟨?_, ops[j], ho, fun e he hb => ?_⟩
            · have : j < listed.size := by rw [hI.size]; exact hj
              simp [this] at hlj ⊢; exact hlj
            · have := hord j _ ho e he hb
              exact ihj e.on this (by omega)
          rw [hr] at hmem
          cases hmem
    have him := hready_lt listed a w hno hI hl i hi
    obtain ⟨h0, o, ho, hafter⟩ := mem_ready.1 hi
    have hil : i < ops.size := (Array.getElem?_eq_some_iff.1 ho).1
    have hil' : i < listed.size := hI.size ▸ hil
    have h0' : listed.getD i false = false := by simp [hil'] at h0 ⊢; exact h0
    have hopk := hall him ho
    simp only [opOk, Bool.and_eq_true] at hopk
    obtain ⟨⟨⟨⟨hk1, hk2⟩, hk3⟩, hk4⟩, hk5⟩ := hopk
    have hdep2 : ∀ p ∈ D.getD i [], waits ops i p.1 = true ∧ dstOf ops p.1 = some p.2 := fun p hp => by
      have := List.all_eq_true.1 hk3 p hp
      simpa using this
    have hdeps : ∀ p ∈ D.getD i [], listed.getD p.1 false = true := fun p hp => waits_of_ready hi p.1 (hdep2 p hp).1
    have hsel : ∀ cs b, o.op ≠ .select cs b := by intro cs b e; rw [e] at hk2; cases hk2
    have hjlt : ∀ j, listed.getD j false = true → j < ops.size := fun j hj => by
      rcases Nat.lt_or_ge j listed.size with h' | h'
      · exact hI.size ▸ h'
      · simp [Array.getElem?_eq_none h'] at hj
    obtain ⟨c, hk, hc1, hc2, hc3⟩ := depsThen_at a _ (D.getD i []) a0 hI.ts.symm (fun p hp => by
      have := hI.fact p.1 (hjlt p.1 (hdeps p hp)) (hdeps p hp)
      simp only [(hdep2 p hp).2] at this
      exact this) (hobs him ho w hI.ext)
    have same : ∀ s ∈ o.looksAt ops, c.tmps[s]? = a.tmps[s]? := by
      intro s hs
      refine tmps_ext hc1 ?_
      rw [hc3]
      split
      · rfl
      · rename_i hn
        refine (hI.old s fun j hj => ?_).symm
        have hjl : j < ops.size := by
          unfold dstOf at hj
          rcases Nat.lt_or_ge j ops.size with h' | h'
          · exact h'
          · rw [Array.getElem?_eq_none h'] at hj; cases hj
        have h1 := List.all_eq_true.1 (List.all_eq_true.1 hk5 s hs) j (List.mem_range.2 hjl)
        simp only [Bool.or_eq_true, bne_iff_ne, ne_eq, beq_iff_eq] at h1
        rcases h1 with ((h1 | h1) | h1) | h1
        · exact absurd hj h1
        · exfalso
          rw [List.any_eq_true] at h1
          obtain ⟨p, hp, hpj⟩ := h1
          have hd := (hdep2 p hp).2
          rw [eq_of_beq hpj, hj] at hd
          exact hn ⟨p, hp, (Option.some.inj hd).symm⟩
        · rw [h1]; exact h0'
        · cases hlj : listed.getD j false with
          | false => rfl
          | true => have := hI.down j hlj i h1; rw [h0'] at this; cases this
    have heval : execOp c.eval o = execOp a.eval o := execOp_congr o hsel fun x hx => by
      cases x with
      | tmp t =>
        have := same t (List.mem_append_left _ (List.mem_filterMap.2 ⟨.tmp t, by simpa using hx, rfl⟩))
        simp [Act.eval, this]
      | _ => rfl
    have hwant : Region.wanted o (yielded ops c.tmps) = Region.wanted o (yielded ops a.tmps) := by
      unfold Region.wanted
      cases hg : o.guard with
      | none => rfl
      | some gw =>
        obtain ⟨g, want⟩ := gw
        have hy : yielded ops c.tmps g = yielded ops a.tmps g := by
          unfold yielded
          cases ht : (ops[g]?).bind (·.dst) with
          | none => rfl
          | some t =>
            have := same t (by simp [Oper.looksAt, hg, ht])
            simp [this]
        simp only [hy]
    have next : ∀ v w', Ext w w' → F i (match o.dst with | some d => (c.put o.dst v).tmps.getD d undef | none => undef) w' →
        wpAny P .any ops Q fuel (listed.setIfInBounds i true) (a.put o.dst v) w' := by
      intro v w' hx hF
      have hdst : dstOf ops i = o.dst := by simp [dstOf, ho]
      refine ih _ _ _ ?_ ?_ ⟨by simpa using hI.size, by rw [put_size]; exact hI.ts, by rw [put_defers]; exact hI.df, ?_, ?_, ?_, hI.ext.trans hx⟩
      · have hset : listed.setIfInBounds i true = listed.set i true hil' := by simp [Array.setIfInBounds, hil']
        rw [hset, Array.count_set]
        have : listed[i] = false := by simpa [hil'] using h0'
        simp [this]; omega
      · intro j hj
        rw [getD_set_ne false (by omega)]; exact hno j hj
      · intro s hs
        have hne : o.dst ≠ some s := fun e => by
          have := hs i (hdst.trans e)
          simp [hil'] at this
        rw [put_getD_ne _ hne]
        refine hI.old s fun j hj => ?_
        by_cases hji : i = j
        · rw [← hji]; exact h0'
        · have := hs j hj
          rwa [getD_set_ne false hji] at this
      · intro j hj hlj
        by_cases hji : i = j
        · subst hji
          rw [hdst]
          cases hd : o.dst with
          | none => simp only [hd] at hF; exact hF
          | some d =>
            simp only [hd] at hF hk1
            simp only [Bool.and_eq_true, decide_eq_true_eq] at hk1
            rw [put_getD_eq _ (by rw [hc1, hI.ts]; exact hk1.1)] at hF
            show F i ((a.put (some d) v).tmps.getD d undef) w'
            rw [put_getD_eq _ (by rw [hI.ts]; exact hk1.1)]
            exact hF
        · rw [getD_set_ne false hji] at hlj
          have hfj := hst _ _ _ _ hx (hI.fact j hj hlj)
          cases hdj : dstOf ops j with
          | none => simp only [hdj] at hfj; exact hfj
          | some d =>
            simp only [hdj] at hfj
            have hne : o.dst ≠ some d := fun e => by
              rw [e] at hk1
              simp only [Bool.and_eq_true] at hk1
              have := List.all_eq_true.1 hk1.2 j (List.mem_range.2 hj)
              simp [hdj, Ne.symm hji] at this
            show F j ((a.put o.dst v).tmps.getD d undef) w'
            rw [put_getD_ne _ hne]
            exact hfj
      · intro j hlj k hw
        by_cases hji : i = j
        · subst hji; exact getD_set_true (waits_of_ready hi k hw)
        · rw [getD_set_ne false hji] at hlj
          exact getD_set_true (hI.down j hlj k hw)
    unfold wpOp
    rw [ho]
    simp only []
    rw [← hwant]
    simp only [wpList] at hk
    split
    · rename_i hw
      rw [if_pos hw] at hk
      rcases hk with hk | ⟨_, x, y, hxy⟩
      · refine .inl ?_
        unfold Oper.wp at hk ⊢
        rw [heval] at hk
        generalize (execOp a.eval o).run P w = r at *
        cases r with
        | ok n w' =>
          cases n <;> simp only [Oper.upon] at hk ⊢
          case value u => exact next u w' hk.2.1 hk.2.2.2
          case skip => exact next undef w' hk.2.1 hk.2.2.2
          case defer d =>
            have := hk.2.2.1
            rw [put_defers] at this
            exact absurd this (by simp)
          case enter f args =>
            refine Calls.mono hk fun e w'' he => ?_
            cases e with
            | returned u => exact next u w'' he.2.1 he.2.2.2
            | panicked c => exact absurd he.1 (by simp)
            | outgrown => obtain ⟨_, _, h⟩ := he; exact absurd h.1 (by simp)
          case row row args => exact Rows.mono hk fun u w'' he => next u w'' he.2.1 he.2.2.2
        | halt x w' =>
          cases x <;> simp only [Oper.upon] at hk ⊢
          case panic u => exact absurd hk.1 (by simp)
      · exact absurd hxy.1 (by simp)
    · rename_i hw
      rw [if_neg hw] at hk
      exact next undef w hk.2.1 hk.2.2.2

/-- A REGION THAT DRAWS ITS ORDER: the first m operations by facts, then a call that may write, its two results, a chain. -/
def midOk (ops : Array Oper) (m t d1 d2 : Nat) : Bool := reachAt ops m && chainOk ops (m + 3) && extB ops[m + 1]? t 0 d1 && extB ops[m + 2]? t 1 d2 && decide (d1 ≠ d2) && decide (t ≠ d1) && decide (t ≠ d2) && waits ops (m + 1) m && waits ops (m + 2) m
theorem wp_region_call {id : Nat} {l : List Oper} (m t d1 d2 : Nat) (Fs : List Fact) (D : List (List (Nat × Tmp))) (E : List (Nat × Tmp)) {a0 : Act} {w0 : World} {Q : Exit → Act → World → Prop}
    (hm : P.follows .mixedOrders = true)
    (hok : (opsOk l.toArray a0.tmps.size 0 (l.take m) D && decide (m ≤ l.length) && ((E.all fun p => decide (p.1 < m) && dstOf l.toArray p.1 == some p.2) && (List.range m).all fun j => match dstOf l.toArray j with | some _ => E.any fun p => p.1 == j | none => true) && midOk l.toArray m t d1 d2 && ordOk l.toArray) = true)
    (hob : Obs P l.toArray (factAt Fs) a0 w0 0 (l.take m) D)
    (hend : ∀ w, Ext w0 w → depsThen (factAt Fs) w E a0 (fun a => wpList P l.toArray (callQ P l.toArray Q m t d1 d2) ((l.drop m).take 1) a w)) :
    (Code.region id l.toArray true).wp P Q a0 w0 := by
  simp only [Bool.and_eq_true] at hok
  obtain ⟨⟨⟨⟨k1, k2⟩, k3⟩, k4⟩, k5⟩ := hok
  simp only [midOk, Bool.and_eq_true, decide_eq_true_eq] at k4
  obtain ⟨⟨⟨⟨⟨⟨⟨⟨r1, r2⟩, r3⟩, r4⟩, r5⟩, r6⟩, r7⟩, r9⟩, r10⟩ := k4
  have hno : ∀ j, (Array.replicate l.toArray.size false).getD j false = false := fun j => by
    simp only [Array.getD_eq_getD_getElem?, Array.getElem?_replicate]; split <;> rfl
  refine wp_region_any hm (region_call (m := m) (F := factAt Fs) (D := D) (E := E) (w0 := w0) k1 (by simpa using k2) (by simp only [Bool.and_eq_true]; exact k3) r1 r2 r3 r4 r5 r6 r7 r9 r10 ?_ (fun i v w w' hx h => (Fs.getD i Fact.any).st v w w' hx h) hob hend _ _ _ _ ?_ (fun j _ => hno j) ?_)
  · intro i o ho e he hb
    have hi : i < l.toArray.size := (Array.getElem?_eq_some_iff.1 ho).1
    have h1 := List.all_eq_true.1 k5 i (List.mem_range.2 hi)
    simp only [ho] at h1
    have h2 := (Array.all_eq_true_iff_forall_mem.1 h1) e he
    simpa [hb] using h2
  · simp
  · exact ⟨by simp, rfl, rfl, fun _ _ => rfl, fun j _ h => (by rw [hno] at h; cases h), fun j h => (by rw [hno] at h; cases h), (Ext.refl w0).drew⟩

end
end Go.Proofs.Ytlgopjfnknjgjaa
