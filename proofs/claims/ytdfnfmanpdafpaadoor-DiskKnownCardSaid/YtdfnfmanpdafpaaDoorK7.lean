/- A region that draws its order and ends in a chain: what stands ahead by facts (K1), the chain's operations walked as they stand. -/
import Derived.Test.YtdfnfmanpdafpaaDoorK2
namespace Go.Proofs.YtdfnfmanpdafpaaDoor
open Go.RowKit

section
variable {P : Program}

/-- From m on each operation waits for all ahead of it, by way of others. -/
def chainOk (ops : Array Oper) (m : Nat) : Bool :=
  (List.range ops.size).all fun i => i < m || (List.range i).all fun j => (List.range (i + 1)).any fun k => decide (j < k) && waits ops k j

theorem chain_reach {ops : Array Oper} {m : Nat} (hc : chainOk ops m = true) {listed : Array Bool}
    (down : ∀ j, listed.getD j false = true → ∀ i, waits ops j i = true → listed.getD i false = true)
    {i : Nat} (hi : i < ops.size) (him : m ≤ i) (hd : ∀ j, waits ops i j = true → listed.getD j false = true) : ∀ j, j < i → listed.getD j false = true := by
  have h1 := List.all_eq_true.1 hc i (List.mem_range.2 hi)
  simp only [Bool.or_eq_true, decide_eq_true_eq] at h1
  have h2 := List.all_eq_true.1 (h1.resolve_left (by omega))
  have key : ∀ d j, i - j = d → j < i → listed.getD j false = true := by
    intro d
    induction d using Nat.strongRecOn with
    | _ d ih =>
      intro j hd' hj
      obtain ⟨k, hk, hk2⟩ := List.any_eq_true.1 (h2 j (List.mem_range.2 hj))
      simp only [Bool.and_eq_true, decide_eq_true_eq] at hk2
      have hki := List.mem_range.1 hk
      by_cases he : k = i
      · subst he; exact hd j hk2.2
      · exact down k (ih (i - k) (by omega) k rfl (by omega)) j hk2.2
  intro j hj
  exact key _ j rfl hj

/-- Behind the facts: the chain. -/
theorem chain_any {ops : Array Oper} {m : Nat} (hc : chainOk ops m = true) (hord : ∀ i o, ops[i]? = some o → ∀ e ∈ o.after, Region.binds .any e = true → e.on < i) {Q : Exit → Act → World → Prop} :
    ∀ (fuel i : Nat) (listed : Array Bool) (a : Act) (w : World), m ≤ i → i + fuel = ops.size → listed.size = ops.size →
      (∀ j, j < i → listed.getD j false = true) → (∀ j, i ≤ j → listed.getD j false = false) →
      (∀ j, listed.getD j false = true → ∀ i, waits ops j i = true → listed.getD i false = true) →
      wpList P ops Q (ops.toList.drop i) a w → wpAny P .any ops Q fuel listed a w := by
  intro fuel
  induction fuel with
  | zero =>
    intro i listed a w hmi hf hs hl hn hdn h
    have e : ops.toList.drop i = [] := List.drop_eq_nil_of_le (by simp; omega)
    rw [e] at h
    refine ⟨?_, h⟩
    cases hr : Region.ready .any ops listed with
    | nil => rfl
    | cons k ks =>
      have hm : k ∈ Region.ready .any ops listed := by rw [hr]; exact List.mem_cons_self
      obtain ⟨h0, o, ho, _⟩ := mem_ready.1 hm
      have hk : k < ops.size := (Array.getElem?_eq_some_iff.1 ho).1
      have h1 := hl k (by omega)
      have hk' : k < listed.size := by omega
      simp [hk'] at h0 h1
      rw [h0] at h1; cases h1
  | succ fuel ih =>
    intro i listed a w hmi hf hs hl hn hdn h
    have hi : i < ops.size := by omega
    have ho : ops[i]? = some ops[i] := by simp [hi]
    have hil' : i < listed.size := by omega
    have hready : i ∈ Region.ready .any ops listed := by
      refine mem_ready.2 ⟨?_, ops[i], ho, fun e he hb => hl _ (hord i _ ho e he hb)⟩
      have := hn i (Nat.le_refl _)
      simp [hil'] at this ⊢; exact this
    refine ⟨fun hr => absurd hready (by rw [hr]; exact List.not_mem_nil), fun k hk => ?_⟩
    obtain ⟨h0, o, hok, _⟩ := mem_ready.1 hk
    have hks : k < ops.size := (Array.getElem?_eq_some_iff.1 hok).1
    have hkl : k < listed.size := by omega
    have h0' : listed.getD k false = false := by simp [hkl] at h0 ⊢; exact h0
    have hik : i ≤ k := by
      rcases Nat.lt_or_ge k i with h' | h'
      · have := hl k h'; rw [h0'] at this; cases this
      · exact h'
    have hall := chain_reach hc hdn hks (by omega) (waits_of_ready hk)
    have hki : k = i := by
      rcases Nat.lt_or_ge i k with h' | h'
      · have := hall i h'; rw [hn i (Nat.le_refl _)] at this; cases this
      · omega
    subst hki
    have hdrop : ops.toList.drop k = ops[k] :: ops.toList.drop (k + 1) := by
      rw [List.drop_eq_getElem_cons (by simpa using hi)]; simp
    rw [hdrop] at h
    have next : ∀ a w, wpList P ops Q (ops.toList.drop (k + 1)) a w → wpAny P .any ops Q fuel (listed.setIfInBounds k true) a w := by
      intro a w h
      refine ih (k + 1) _ a w (by omega) (by omega) (by simpa using hs) (fun j hj => ?_) (fun j hj => ?_) (fun j hj x hx => ?_) h
      · by_cases e : k = j
        · subst e; simp [hil']
        · exact getD_set_true (hl j (by omega))
      · rw [getD_set_ne false (by omega)]; exact hn j (by omega)
      · by_cases e : k = j
        · subst e; exact getD_set_true (waits_of_ready hk x hx)
        · rw [getD_set_ne false e] at hj; exact getD_set_true (hdn j hj x hx)
    unfold wpOp
    rw [ho]
    simp only []
    simp only [wpList] at h
    split
    · rename_i hw
      rw [if_pos hw] at h
      exact h.imp (Oper.wp_mono next) id
    · rename_i hw
      rw [if_neg hw] at h
      exact next _ _ h

theorem region_chain {ops : Array Oper} {m : Nat} {F : Nat → Value → World → Prop} {a0 : Act} {w0 : World} {D : List (List (Nat × Tmp))} {E : List (Nat × Tmp)} {Q : Exit → Act → World → Prop}
    (hok : opsOk ops a0.tmps.size 0 (ops.toList.take m) D = true) (hms : m ≤ ops.size)
    (hE : ((E.all fun p => decide (p.1 < m) && dstOf ops p.1 == some p.2) && (List.range m).all fun j => match dstOf ops j with | some _ => E.any fun p => p.1 == j | none => true) = true)
    (hc : chainOk ops m = true) (hord : ∀ i o, ops[i]? = some o → ∀ e ∈ o.after, Region.binds .any e = true → e.on < i)
    (hst : ∀ i v w w', Ext w w' → F i v w → F i v w')
    (hob : Obs P ops F a0 w0 0 (ops.toList.take m) D)
    (hend : ∀ w, Ext w0 w → depsThen F w E a0 (fun a => wpList P ops Q (ops.toList.drop m) a w)) :
    ∀ (fuel : Nat) (listed : Array Bool) (a : Act) (w : World), listed.count false = fuel → (∀ j, m ≤ j → listed.getD j false = false) → Inv ops F a0 w0 listed a w → wpAny P .any ops Q fuel listed a w := by
  have hget : ∀ {i o}, i < m → ops[i]? = some o → (ops.toList.take m)[i]? = some o := fun {i o} hi h => by
    rw [List.getElem?_take, if_pos hi]; simpa using h
  have hall : ∀ {i o}, i < m → ops[i]? = some o → opOk ops a0.tmps.size i o (D.getD i []) = true := fun {i o} hi h => by
    have := opsOk_get hok i o (hget hi h); simpa using this
  have hobs : ∀ {i o}, i < m → ops[i]? = some o → Ob P ops F a0 w0 i o (D.getD i []) := fun {i o} hi h => by
    have := Obs_get hob i o (hget hi h); simpa using this
  -- all ahead of the chain are listed: the chain
  have fin : ∀ (fuel : Nat) (listed : Array Bool) (a : Act) (w : World), m + fuel = ops.size → (∀ j, j < m → listed.getD j false = true) → (∀ j, m ≤ j → listed.getD j false = false) → Inv ops F a0 w0 listed a w → wpAny P .any ops Q fuel listed a w := by
    intro fuel listed a w hf hl hno hI
    simp only [Bool.and_eq_true] at hE
    obtain ⟨c, hk, hc1, hc2, hc3⟩ := depsThen_at a _ E a0 hI.ts.symm (fun p hp => by
      have hd := List.all_eq_true.1 hE.1 p hp
      simp only [Bool.and_eq_true, decide_eq_true_eq, beq_iff_eq] at hd
      have := hI.fact p.1 (by omega) (hl p.1 hd.1)
      simp only [hd.2] at this
      exact this) (hend w hI.ext)
    have : c = a := by
      obtain ⟨ct, cd⟩ := c
      obtain ⟨at', ad⟩ := a
      have e2 : cd = ad := hc2.trans hI.df.symm
      have e1 : ct = at' := by
        apply Array.ext_getElem?
        intro s
        refine tmps_ext (a := ⟨ct, cd⟩) (b := ⟨at', ad⟩) hc1 ?_
        rw [hc3]
        split
        · rfl
        · rename_i hn
          refine (hI.old s fun j hj => ?_).symm
          rcases Nat.lt_or_ge j m with hjm | hjm
          · exfalso
            have h2 := List.all_eq_true.1 hE.2 j (List.mem_range.2 hjm)
            simp only [hj, List.any_eq_true, beq_iff_eq] at h2
            obtain ⟨p, hp, hpj⟩ := h2
            have hd := List.all_eq_true.1 hE.1 p hp
            simp only [Bool.and_eq_true, decide_eq_true_eq, beq_iff_eq] at hd
            have hd2 := hd.2
            rw [hpj, hj] at hd2
            exact hn ⟨p, hp, (Option.some.inj hd2).symm⟩
          · exact hno j hjm
      rw [e1, e2]
    rw [← this]
    exact chain_any hc hord fuel m listed c w (Nat.le_refl _) hf hI.size hl hno hI.down hk
  have hready_lt : ∀ (listed : Array Bool) (a : Act) (w : World), (∀ j, m ≤ j → listed.getD j false = false) → Inv ops F a0 w0 listed a w → (¬ ∀ j, j < m → listed.getD j false = true) → ∀ i ∈ Region.ready .any ops listed, i < m := by
    intro listed a w hno hI hnot i hi
    obtain ⟨_, o, ho, _⟩ := mem_ready.1 hi
    have his : i < ops.size := (Array.getElem?_eq_some_iff.1 ho).1
    rcases Nat.lt_or_ge i m with h' | h'
    · exact h'
    · exfalso
      have hr := chain_reach hc hI.down his h' (waits_of_ready hi)
      exact hnot fun j hj => hr j (by omega)
  have hcount : ∀ (listed : Array Bool), listed.size = ops.size → (∀ j, j < m → listed.getD j false = true) → (∀ j, m ≤ j → listed.getD j false = false) → m + listed.count false = ops.size := by
    intro listed hs hl hno
    have e : listed = (List.replicate m true ++ List.replicate (ops.size - m) false).toArray := by
      apply Array.ext
      · simp; omega
      · intro j h1 h2
        have hj : j < listed.size := h1
        rcases Nat.lt_or_ge j m with hjm | hjm
        · have := hl j hjm
          simp [hj] at this
          rw [this]
          simp [hjm]
        · have := hno j hjm
          simp [hj] at this
          rw [this]
          have : ¬ j < m := by omega
          simp [List.getElem_append, this]
    rw [e]
    simp [List.count_append, List.count_replicate]
    omega
  intro fuel
  induction fuel with
  | zero =>
    intro listed a w hc0 hno hI
    by_cases hl : ∀ j, j < m → listed.getD j false = true
    · exact fin 0 listed a w (by have := hcount listed hI.size hl hno; omega) hl hno hI
    · exfalso
      apply hl
      intro j hj
      have hj' : j < listed.size := by rw [hI.size]; omega
      have := Array.count_eq_zero.1 hc0
      have h2 : listed[j] ≠ false := fun e => this (e ▸ Array.getElem_mem hj')
      simp [hj']; simpa using h2
  | succ fuel ih =>
    intro listed a w hcn hno hI
    by_cases hl : ∀ j, j < m → listed.getD j false = true
    · exact fin (fuel + 1) listed a w (by have := hcount listed hI.size hl hno; omega) hl hno hI
    refine ⟨fun hr => ?_, fun i hi => ?_⟩
    · exfalso
      apply hl
      intro j
      induction j using Nat.strongRecOn with
      | _ j ihj =>
        intro hjm
        have hj : j < ops.size := by omega
        cases hlj : listed.getD j false with
        | true => rfl
        | false =>
          exfalso
          have ho : ops[j]? = some ops[j] := by simp [hj]
          have hmem : j ∈ Region.ready .any ops listed := by
            refine mem_ready.2 ⟨?_, ops[j], ho, fun e he hb => ?_⟩
            · have : j < listed.size := by rw [hI.size]; exact hj
              simp [this] at hlj ⊢; exact hlj
            · have := hord j _ ho e he hb
              exact ihj e.on this (by omega)
          rw [hr] at hmem
          cases hmem
    have him := hready_lt listed a w hno hI hl i hi
    obtain ⟨h0, o, ho, hafter⟩ := mem_ready.1 hi
    have hil : i < ops.size := (Array.getElem?_eq_some_iff.1 ho).1
    have hil' : i < listed.size := hI.size ▸ hil
    have h0' : listed.getD i false = false := by simp [hil'] at h0 ⊢; exact h0
    have hopk := hall him ho
    simp only [opOk, Bool.and_eq_true] at hopk
    obtain ⟨⟨⟨⟨hk1, hk2⟩, hk3⟩, hk4⟩, hk5⟩ := hopk
    have hdep2 : ∀ p ∈ D.getD i [], waits ops i p.1 = true ∧ dstOf ops p.1 = some p.2 := fun p hp => by
      have := List.all_eq_true.1 hk3 p hp
      simpa using this
    have hdeps : ∀ p ∈ D.getD i [], listed.getD p.1 false = true := fun p hp => waits_of_ready hi p.1 (hdep2 p hp).1
    have hsel : ∀ cs b, o.op ≠ .select cs b := by intro cs b e; rw [e] at hk2; cases hk2
    have hjlt : ∀ j, listed.getD j false = true → j < ops.size := fun j hj => by
      rcases Nat.lt_or_ge j listed.size with h' | h'
      · exact hI.size ▸ h'
      · simp [Array.getElem?_eq_none h'] at hj
    obtain ⟨c, hk, hc1, hc2, hc3⟩ := depsThen_at a _ (D.getD i []) a0 hI.ts.symm (fun p hp => by
      have := hI.fact p.1 (hjlt p.1 (hdeps p hp)) (hdeps p hp)
      simp only [(hdep2 p hp).2] at this
      exact this) (hobs him ho w hI.ext)
    have same : ∀ s ∈ o.looksAt ops, c.tmps[s]? = a.tmps[s]? := by
      intro s hs
      refine tmps_ext hc1 ?_
      rw [hc3]
      split
      · rfl
      · rename_i hn
        refine (hI.old s fun j hj => ?_).symm
        have hjl : j < ops.size := by
          unfold dstOf at hj
          rcases Nat.lt_or_ge j ops.size with h' | h'
          · exact h'
          · rw [Array.getElem?_eq_none h'] at hj; cases hj
        have h1 := List.all_eq_true.1 (List.all_eq_true.1 hk5 s hs) j (List.mem_range.2 hjl)
        simp only [Bool.or_eq_true, bne_iff_ne, ne_eq, beq_iff_eq] at h1
        rcases h1 with ((h1 | h1) | h1) | h1
        · exact absurd hj h1
        · exfalso
          rw [List.any_eq_true] at h1
          obtain ⟨p, hp, hpj⟩ := h1
          have hd := (hdep2 p hp).2
          rw [eq_of_beq hpj, hj] at hd
          exact hn ⟨p, hp, (Option.some.inj hd).symm⟩
        · rw [h1]; exact h0'
        · cases hlj : listed.getD j false with
          | false => rfl
          | true => have := hI.down j hlj i h1; rw [h0'] at this; cases this
    have heval : execOp c.eval o = execOp a.eval o := execOp_congr o hsel fun x hx => by
      cases x with
      | tmp t =>
        have := same t (List.mem_append_left _ (List.mem_filterMap.2 ⟨.tmp t, by simpa using hx, rfl⟩))
        simp [Act.eval, this]
      | _ => rfl
    have hwant : Region.wanted o (yielded ops c.tmps) = Region.wanted o (yielded ops a.tmps) := by
      unfold Region.wanted
      cases hg : o.guard with
      | none => rfl
      | some gw =>
        obtain ⟨g, want⟩ := gw
        have hy : yielded ops c.tmps g = yielded ops a.tmps g := by
          unfold yielded
          cases ht : (ops[g]?).bind (·.dst) with
          | none => rfl
          | some t =>
            have := same t (by simp [Oper.looksAt, hg, ht])
            simp [this]
        simp only [hy]
    have next : ∀ v w', Ext w w' → F i (match o.dst with | some d => (c.put o.dst v).tmps.getD d undef | none => undef) w' →
        wpAny P .any ops Q fuel (listed.setIfInBounds i true) (a.put o.dst v) w' := by
      intro v w' hx hF
      have hdst : dstOf ops i = o.dst := by simp [dstOf, ho]
      refine ih _ _ _ ?_ ?_ ⟨by simpa using hI.size, by rw [put_size]; exact hI.ts, by rw [put_defers]; exact hI.df, ?_, ?_, ?_, hI.ext.trans hx⟩
      · have hset : listed.setIfInBounds i true = listed.set i true hil' := by simp [Array.setIfInBounds, hil']
        rw [hset, Array.count_set]
        have : listed[i] = false := by simpa [hil'] using h0'
        simp [this]; omega
      · intro j hj
        rw [getD_set_ne false (by omega)]; exact hno j hj
      · intro s hs
        have hne : o.dst ≠ some s := fun e => by
          have := hs i (hdst.trans e)
          simp [hil'] at this
        rw [put_getD_ne _ hne]
        refine hI.old s fun j hj => ?_
        by_cases hji : i = j
        · rw [← hji]; exact h0'
        · have := hs j hj
          rwa [getD_set_ne false hji] at this
      · intro j hj hlj
        by_cases hji : i = j
        · subst hji
          rw [hdst]
          cases hd : o.dst with
          | none => simp only [hd] at hF; exact hF
          | some d =>
            simp only [hd] at hF hk1
            simp only [Bool.and_eq_true, decide_eq_true_eq] at hk1
            rw [put_getD_eq _ (by rw [hc1, hI.ts]; exact hk1.1)] at hF
            show F i ((a.put (some d) v).tmps.getD d undef) w'
            rw [put_getD_eq _ (by rw [hI.ts]; exact hk1.1)]
            exact hF
        · rw [getD_set_ne false hji] at hlj
          have hfj := hst _ _ _ _ hx (hI.fact j hj hlj)
          cases hdj : dstOf ops j with
          | none => simp only [hdj] at hfj; exact hfj
          | some d =>
            simp only [hdj] at hfj
            have hne : o.dst ≠ some d := fun e => by
              rw [e] at hk1
              simp only [Bool.and_eq_true] at hk1
              have := List.all_eq_true.1 hk1.2 j (List.mem_range.2 hj)
              simp [hdj, Ne.symm hji] at this
            show F j ((a.put o.dst v).tmps.getD d undef) w'
            rw [put_getD_ne _ hne]
            exact hfj
      · intro j hlj k hw
        by_cases hji : i = j
        · subst hji; exact getD_set_true (waits_of_ready hi k hw)
        · rw [getD_set_ne false hji] at hlj
          exact getD_set_true (hI.down j hlj k hw)
    unfold wpOp
    rw [ho]
    simp only []
    rw [← hwant]
    simp only [wpList] at hk
    split
    · rename_i hw
      rw [if_pos hw] at hk
      rcases hk with hk | ⟨_, x, y, hxy⟩
      · refine .inl ?_
        unfold Oper.wp at hk ⊢
        rw [heval] at hk
        generalize (execOp a.eval o).run P w = r at *
        cases r with
        | ok n w' =>
          cases n <;> simp only [Oper.upon] at hk ⊢
          case value u => exact next u w' hk.2.1 hk.2.2.2
          case skip => exact next undef w' hk.2.1 hk.2.2.2
          case defer d =>
            have := hk.2.2.1
            rw [put_defers] at this
            exact absurd this (by simp)
          case enter f args =>
            refine Calls.mono hk fun e w'' he => ?_
            cases e with
            | returned u => exact next u w'' he.2.1 he.2.2.2
            | panicked c => exact absurd he.1 (by simp)
            | outgrown => obtain ⟨_, _, h⟩ := he; exact absurd h.1 (by simp)
          case row row args => exact Rows.mono hk fun u w'' he => next u w'' he.2.1 he.2.2.2
        | halt x w' =>
          cases x <;> simp only [Oper.upon] at hk ⊢
          case panic u => exact absurd hk.1 (by simp)
      · exact absurd hxy.1 (by simp)
    · rename_i hw
      rw [if_neg hw] at hk
      exact next undef w hk.2.1 hk.2.2.2

def ordOk (ops : Array Oper) : Bool := (List.range ops.size).all fun i => match ops[i]? with | some o => o.after.all fun e => !Region.binds .any e || e.on < i | none => true

/-- A REGION THAT DRAWS ITS ORDER AND ENDS IN A CHAIN: the first m operations by facts, the others as they stand. -/
theorem wp_region_chain {id : Nat} {l : List Oper} (m : Nat) (Fs : List Fact) (D : List (List (Nat × Tmp))) (E : List (Nat × Tmp)) {a0 : Act} {w0 : World} {Q : Exit → Act → World → Prop}
    (hm : P.follows .mixedOrders = true)
    (hok : (opsOk l.toArray a0.tmps.size 0 (l.take m) D && decide (m ≤ l.length) && ((E.all fun p => decide (p.1 < m) && dstOf l.toArray p.1 == some p.2) && (List.range m).all fun j => match dstOf l.toArray j with | some _ => E.any fun p => p.1 == j | none => true) && chainOk l.toArray m && ordOk l.toArray) = true)
    (hob : Obs P l.toArray (factAt Fs) a0 w0 0 (l.take m) D)
    (hend : ∀ w, Ext w0 w → depsThen (factAt Fs) w E a0 (fun a => wpList P l.toArray Q (l.drop m) a w)) :
    (Code.region id l.toArray true).wp P Q a0 w0 := by
  simp only [Bool.and_eq_true] at hok
  obtain ⟨⟨⟨⟨k1, k2⟩, k3⟩, k4⟩, k5⟩ := hok
  have hno : ∀ j, (Array.replicate l.toArray.size false).getD j false = false := fun j => by
    simp only [Array.getD_eq_getD_getElem?, Array.getElem?_replicate]; split <;> rfl
  refine wp_region_any hm (region_chain (m := m) (F := factAt Fs) (D := D) (E := E) (w0 := w0) k1 (by simpa using k2) (by simp only [Bool.and_eq_true]; exact k3) k4 ?_ (fun i v w w' hx h => (Fs.getD i Fact.any).st v w w' hx h) hob hend _ _ _ _ ?_ (fun j _ => hno j) ?_)
  · intro i o ho e he hb
    have hi : i < l.toArray.size := (Array.getElem?_eq_some_iff.1 ho).1
    have h1 := List.all_eq_true.1 k5 i (List.mem_range.2 hi)
    simp only [ho] at h1
    have h2 := (Array.all_eq_true_iff_forall_mem.1 h1) e he
    simpa [hb] using h2
  · simp
  · exact ⟨by simp, rfl, rfl, fun _ _ => rfl, fun j _ h => (by rw [hno] at h; cases h), fun j h => (by rw [hno] at h; cases h), (Ext.refl w0).drew⟩

end
end Go.Proofs.YtdfnfmanpdafpaaDoor
