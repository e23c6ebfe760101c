/- As K7; and the boxes that a region makes lie apart.
Splice: a page's row: Row.
slices.IndexFunc, slices.ContainsFunc at attributes, constraints, values (printed by gen_find.py).
What a constraint asks of a value: pred.asks, pred.Holds.
What pred.asks gives.
Holds, Get, Matches: the program's.
event.Get. -/
import Derived.Test.YtaklnpjpndkccaaGreatPk6
import Derived.Test.YtaklnpjpndkccaaGreatPk2
namespace Go.Proofs.YtaklnpjpndkccaaGreat
open Go.RowKit

section
variable {P : Program}

/-- What stands in the slot of operation i. -/
def valOf (ops : Array Oper) (a : Act) (i : Nat) : Value := match dstOf ops i with | some d => a.tmps.getD d undef | none => undef
def Apart (ops : Array Oper) (A : List Nat) (listed : Array Bool) (a : Act) : Prop := ∀ i, i ∈ A → ∀ j, j ∈ A → i ≠ j → listed.getD i false = true → listed.getD j false = true → valOf ops a i ≠ valOf ops a j

theorem region_chain2 {ops : Array Oper} {m : Nat} {F : Nat → Value → World → Prop} {a0 : Act} {w0 : World} {D : List (List (Nat × Tmp))} {E : List (Nat × Tmp)} {Q : Exit → Act → World → Prop} {A : List Nat}
    (hok : opsOk ops a0.tmps.size 0 (ops.toList.take m) D = true) (hms : m ≤ ops.size)
    (hE : ((E.all fun p => decide (p.1 < m) && dstOf ops p.1 == some p.2) && (List.range m).all fun j => match dstOf ops j with | some _ => E.any fun p => p.1 == j | none => true) = true)
    (hc : chainOk ops m = true) (hord : ∀ i o, ops[i]? = some o → ∀ e ∈ o.after, Region.binds .any e = true → e.on < i)
    (hst : ∀ i v w w', Ext w w' → F i v w → F i v w')
    (hob : Obs P ops F a0 w0 0 (ops.toList.take m) D)
    (hAl : ∀ i o, i ∈ A → ops[i]? = some o → (∃ d, o.dst = some d) ∧ o.guard = none ∧ ∀ ev w n w', (execOp ev o).run P w = .ok n w' → n = .value (.pointer (some ⟨w.heap.size, 0, none⟩)))
    (hin : ∀ i, i ∈ A → ∀ v w, F i v w → ∃ b, v = .pointer (some ⟨b, 0, none⟩) ∧ b < w.heap.size)
    (hA : ∀ i, i ∈ A → i < m)
    (hend : ∀ w, Ext w0 w → depsThen F w E a0 (fun a => (∀ i, i ∈ A → ∀ j, j ∈ A → i ≠ j → valOf ops a i ≠ valOf ops a j) → wpList P ops Q (ops.toList.drop m) a w)) :
    ∀ (fuel : Nat) (listed : Array Bool) (a : Act) (w : World), listed.count false = fuel → (∀ j, m ≤ j → listed.getD j false = false) → Inv ops F a0 w0 listed a w → Apart ops A listed a → wpAny P .any ops Q fuel listed a w := by
  have hget : ∀ {i o}, i < m → ops[i]? = some o → (ops.toList.take m)[i]? = some o := fun {i o} hi h => by
    rw [List.getElem?_take, if_pos hi]; simpa using h
  have hall : ∀ {i o}, i < m → ops[i]? = some o → opOk ops a0.tmps.size i o (D.getD i []) = true := fun {i o} hi h => by
    have := opsOk_get hok i o (hget hi h); simpa using this
  have hobs : ∀ {i o}, i < m → ops[i]? = some o → Ob P ops F a0 w0 i o (D.getD i []) := fun {i o} hi h => by
    have := Obs_get hob i o (hget hi h); simpa using this
  -- all ahead of the chain are listed: the chain
  have fin : ∀ (fuel : Nat) (listed : Array Bool) (a : Act) (w : World), m + fuel = ops.size → (∀ j, j < m → listed.getD j false = true) → (∀ j, m ≤ j → listed.getD j false = false) → Inv ops F a0 w0 listed a w → Apart ops A listed a → wpAny P .any ops Q fuel listed a w := by
    intro fuel listed a w hf hl hno hI hP
    simp only [Bool.and_eq_true] at hE
    obtain ⟨c, hk, hc1, hc2, hc3⟩ := depsThen_at a _ E a0 hI.ts.symm (fun p hp => by
      have hd := List.all_eq_true.1 hE.1 p hp
      simp only [Bool.and_eq_true, decide_eq_true_eq, beq_iff_eq] at hd
      have := hI.fact p.1 (by omega) (hl p.1 hd.1)
      simp only [hd.2] at this
      exact this) (hend w hI.ext)
    have : c = a := by
      obtain ⟨ct, cd⟩ := c
      obtain ⟨at', ad⟩ := a
      have e2 : cd = ad := hc2.trans hI.df.symm
      have e1 : ct = at' := by
        apply Array.ext_getElem?
        intro s
        refine tmps_ext (a := ⟨ct, cd⟩) (b := ⟨at', ad⟩) hc1 ?_
        rw [hc3]
        split
        · rfl
        · rename_i hn
          refine (hI.old s fun j hj => ?_).symm
          rcases Nat.lt_or_ge j m with hjm | hjm
          · exfalso
            have h2 := List.all_eq_true.1 hE.2 j (List.mem_range.2 hjm)
            simp only [hj, List.any_eq_true, beq_iff_eq] at h2
            obtain ⟨p, hp, hpj⟩ := h2
            have hd := List.all_eq_true.1 hE.1 p hp
            simp only [Bool.and_eq_true, decide_eq_true_eq, beq_iff_eq] at hd
            have hd2 := hd.2
            rw [hpj, hj] at hd2
            exact hn ⟨p, hp, (Option.some.inj hd2).symm⟩
          · exact hno j hjm
      rw [e1, e2]
    rw [← this]
    exact chain_any hc hord fuel m listed c w (Nat.le_refl _) hf hI.size hl hno hI.down (hk (by rw [this]; exact fun i hi j hj hne => hP i hi j hj hne (hl i (hA i hi)) (hl j (hA j hj))))
  have hready_lt : ∀ (listed : Array Bool) (a : Act) (w : World), (∀ j, m ≤ j → listed.getD j false = false) → Inv ops F a0 w0 listed a w → (¬ ∀ j, j < m → listed.getD j false = true) → ∀ i ∈ Region.ready .any ops listed, i < m := by
    intro listed a w hno hI hnot i hi
    obtain ⟨_, o, ho, _⟩ := mem_ready.1 hi
    have his : i < ops.size := (Array.getElem?_eq_some_iff.1 ho).1
    rcases Nat.lt_or_ge i m with h' | h'
    · exact h'
    · exfalso
      have hr := chain_reach hc hI.down his h' (waits_of_ready hi)
      exact hnot fun j hj => hr j (by omega)
  have hcount : ∀ (listed : Array Bool), listed.size = ops.size → (∀ j, j < m → listed.getD j false = true) → (∀ j, m ≤ j → listed.getD j false = false) → m + listed.count false = ops.size := by
    intro listed hs hl hno
    have e : listed = (List.replicate m true ++ List.replicate (ops.size - m) false).toArray := by
      apply Array.ext
      · simp; omega
      · intro j h1 h2
        have hj : j < listed.size := h1
        rcases Nat.lt_or_ge j m with hjm | hjm
        · have := hl j hjm
          simp [hj] at this
          rw [this]
          simp [hjm]
        · have := hno j hjm
          simp [hj] at this
          rw [this]
          have : ¬ j < m := by omega
          simp [List.getElem_append, this]
    rw [e]
    simp [List.count_append, List.count_replicate]
    omega
  intro fuel
  induction fuel with
  | zero =>
    intro listed a w hc0 hno hI hP
    by_cases hl : ∀ j, j < m → listed.getD j false = true
    · exact fin 0 listed a w (by have := hcount listed hI.size hl hno; omega) hl hno hI hP
    · exfalso
      apply hl
      intro j hj
      have hj' : j < listed.size := by rw [hI.size]; omega
      have := Array.count_eq_zero.1 hc0
      have h2 : listed[j] ≠ false := fun e => this (e ▸ Array.getElem_mem hj')
      simp [hj']; simpa using h2
  | succ fuel ih =>
    intro listed a w hcn hno hI hP
    by_cases hl : ∀ j, j < m → listed.getD j false = true
    · exact fin (fuel + 1) listed a w (by have := hcount listed hI.size hl hno; omega) hl hno hI hP
    refine ⟨fun hr => ?_, fun i hi => ?_⟩
    · exfalso
      apply hl
      intro j
      induction j using Nat.strongRecOn with
      | _ j ihj =>
        intro hjm
        have hj : j < ops.size := by omega
        cases hlj : listed.getD j false with
        | true => rfl
        | false =>
          exfalso
          have ho : ops[j]? = some ops[j] := by simp [hj]
          have hmem : j ∈ Region.ready .any ops listed := by
            refine mem_ready.2 ⟨?_, ops[j], ho, fun e he hb => ?_⟩
            · have : j < listed.size := by rw [hI.size]; exact hj
              simp [this] at hlj ⊢; exact hlj
            · have := hord j _ ho e he hb
              exact ihj e.on this (by omega)
          rw [hr] at hmem
          cases hmem
    have him := hready_lt listed a w hno hI hl i hi
    obtain ⟨h0, o, ho, hafter⟩ := mem_ready.1 hi
    have hil : i < ops.size := (Array.getElem?_eq_some_iff.1 ho).1
    have hil' : i < listed.size := hI.size ▸ hil
    have h0' : listed.getD i false = false := by simp [hil'] at h0 ⊢; exact h0
    have hopk := hall him ho
    simp only [opOk, Bool.and_eq_true] at hopk
    obtain ⟨⟨⟨⟨hk1, hk2⟩, hk3⟩, hk4⟩, hk5⟩ := hopk
    have hdep2 : ∀ p ∈ D.getD i [], waits ops i p.1 = true ∧ dstOf ops p.1 = some p.2 := fun p hp => by
      have := List.all_eq_true.1 hk3 p hp
      simpa using this
    have hdeps : ∀ p ∈ D.getD i [], listed.getD p.1 false = true := fun p hp => waits_of_ready hi p.1 (hdep2 p hp).1
    have hsel : ∀ cs b, o.op ≠ .select cs b := by intro cs b e; rw [e] at hk2; cases hk2
    have hjlt : ∀ j, listed.getD j false = true → j < ops.size := fun j hj => by
      rcases Nat.lt_or_ge j listed.size with h' | h'
      · exact hI.size ▸ h'
      · simp [Array.getElem?_eq_none h'] at hj
    obtain ⟨c, hk, hc1, hc2, hc3⟩ := depsThen_at a _ (D.getD i []) a0 hI.ts.symm (fun p hp => by
      have := hI.fact p.1 (hjlt p.1 (hdeps p hp)) (hdeps p hp)
      simp only [(hdep2 p hp).2] at this
      exact this) (hobs him ho w hI.ext)
    have same : ∀ s ∈ o.looksAt ops, c.tmps[s]? = a.tmps[s]? := by
      intro s hs
      refine tmps_ext hc1 ?_
      rw [hc3]
      split
      · rfl
      · rename_i hn
        refine (hI.old s fun j hj => ?_).symm
        have hjl : j < ops.size := by
          unfold dstOf at hj
          rcases Nat.lt_or_ge j ops.size with h' | h'
          · exact h'
          · rw [Array.getElem?_eq_none h'] at hj; cases hj
        have h1 := List.all_eq_true.1 (List.all_eq_true.1 hk5 s hs) j (List.mem_range.2 hjl)
        simp only [Bool.or_eq_true, bne_iff_ne, ne_eq, beq_iff_eq] at h1
        rcases h1 with ((h1 | h1) | h1) | h1
        · exact absurd hj h1
        · exfalso
          rw [List.any_eq_true] at h1
          obtain ⟨p, hp, hpj⟩ := h1
          have hd := (hdep2 p hp).2
          rw [eq_of_beq hpj, hj] at hd
          exact hn ⟨p, hp, (Option.some.inj hd).symm⟩
        · rw [h1]; exact h0'
        · cases hlj : listed.getD j false with
          | false => rfl
          | true => have := hI.down j hlj i h1; rw [h0'] at this; cases this
    have heval : execOp c.eval o = execOp a.eval o := execOp_congr o hsel fun x hx => by
      cases x with
      | tmp t =>
        have := same t (List.mem_append_left _ (List.mem_filterMap.2 ⟨.tmp t, by simpa using hx, rfl⟩))
        simp [Act.eval, this]
      | _ => rfl
    have hwant : Region.wanted o (yielded ops c.tmps) = Region.wanted o (yielded ops a.tmps) := by
      unfold Region.wanted
      cases hg : o.guard with
      | none => rfl
      | some gw =>
        obtain ⟨g, want⟩ := gw
        have hy : yielded ops c.tmps g = yielded ops a.tmps g := by
          unfold yielded
          cases ht : (ops[g]?).bind (·.dst) with
          | none => rfl
          | some t =>
            have := same t (by simp [Oper.looksAt, hg, ht])
            simp [this]
        simp only [hy]
    have next : ∀ v w', Ext w w' → (i ∈ A → v = .pointer (some ⟨w.heap.size, 0, none⟩)) → F i (match o.dst with | some d => (c.put o.dst v).tmps.getD d undef | none => undef) w' →
        wpAny P .any ops Q fuel (listed.setIfInBounds i true) (a.put o.dst v) w' := by
      intro v w' hx hal hF
      have hdst : dstOf ops i = o.dst := by simp [dstOf, ho]
      have hkeep : ∀ k, i ≠ k → listed.getD k false = true → valOf ops (a.put o.dst v) k = valOf ops a k := by
        intro k hne hlk
        unfold valOf
        cases hdk : dstOf ops k with
        | none => rfl
        | some d =>
          have hne2 : o.dst ≠ some d := fun e => by
            rw [e] at hk1
            simp only [Bool.and_eq_true] at hk1
            have := List.all_eq_true.1 hk1.2 k (List.mem_range.2 (hjlt k hlk))
            simp [hdk, Ne.symm hne] at this
          exact put_getD_ne _ hne2
      have hnew : i ∈ A → valOf ops (a.put o.dst v) i = .pointer (some ⟨w.heap.size, 0, none⟩) := by
        intro hiA
        obtain ⟨⟨d, hd⟩, _, _⟩ := hAl i o hiA ho
        have hds : d < a0.tmps.size := by
          rw [hd] at hk1
          simp only [Bool.and_eq_true, decide_eq_true_eq] at hk1
          exact hk1.1
        unfold valOf
        rw [hdst, hd]
        show (a.put (some d) v).tmps.getD d undef = _
        rw [put_getD_eq _ (by rw [hI.ts]; exact hds)]
        exact hal hiA
      have hold : ∀ k, k ∈ A → listed.getD k false = true → valOf ops a k ≠ .pointer (some ⟨w.heap.size, 0, none⟩) := by
        intro k hkA hlk e
        obtain ⟨b, hb, hlt⟩ := hin k hkA _ _ (hI.fact k (hjlt k hlk) hlk)
        have : valOf ops a k = .pointer (some ⟨b, 0, none⟩) := hb
        rw [this] at e
        simp only [Value.pointer.injEq, Option.some.injEq, Addr.mk.injEq] at e
        omega
      have hP2 : Apart ops A (listed.setIfInBounds i true) (a.put o.dst v) := by
        intro x hx y hy hxy hlx hly
        by_cases e1 : i = x
        · subst e1
          have hly' : listed.getD y false = true := by rwa [getD_set_ne false hxy] at hly
          rw [hnew hx, hkeep y hxy hly']
          exact Ne.symm (hold y hy hly')
        · have hlx' : listed.getD x false = true := by rwa [getD_set_ne false e1] at hlx
          rw [hkeep x e1 hlx']
          by_cases e2 : i = y
          · subst e2
            rw [hnew hy]
            exact hold x hx hlx'
          · have hly' : listed.getD y false = true := by rwa [getD_set_ne false e2] at hly
            rw [hkeep y e2 hly']
            exact hP x hx y hy hxy hlx' hly'
      refine ih _ _ _ ?_ ?_ ⟨by simpa using hI.size, by rw [put_size]; exact hI.ts, by rw [put_defers]; exact hI.df, ?_, ?_, ?_, hI.ext.trans hx⟩ hP2
      · have hset : listed.setIfInBounds i true = listed.set i true hil' := by simp [Array.setIfInBounds, hil']
        rw [hset, Array.count_set]
        have : listed[i] = false := by simpa [hil'] using h0'
        simp [this]; omega
      · intro j hj
        rw [getD_set_ne false (by omega)]; exact hno j hj
      · intro s hs
        have hne : o.dst ≠ some s := fun e => by
          have := hs i (hdst.trans e)
          simp [hil'] at this
        rw [put_getD_ne _ hne]
        refine hI.old s fun j hj => ?_
        by_cases hji : i = j
        · rw [← hji]; exact h0'
        · have := hs j hj
          rwa [getD_set_ne false hji] at this
      · intro j hj hlj
        by_cases hji : i = j
        · subst hji
          rw [hdst]
          cases hd : o.dst with
          | none => simp only [hd] at hF; exact hF
          | some d =>
            simp only [hd] at hF hk1
            simp only [Bool.and_eq_true, decide_eq_true_eq] at hk1
            rw [put_getD_eq _ (by rw [hc1, hI.ts]; exact hk1.1)] at hF
            show F i ((a.put (some d) v).tmps.getD d undef) w'
            rw [put_getD_eq _ (by rw [hI.ts]; exact hk1.1)]
            exact hF
        · rw [getD_set_ne false hji] at hlj
          have hfj := hst _ _ _ _ hx (hI.fact j hj hlj)
          cases hdj : dstOf ops j with
          | none => simp only [hdj] at hfj; exact hfj
          | some d =>
            simp only [hdj] at hfj
            have hne : o.dst ≠ some d := fun e => by
              rw [e] at hk1
              simp only [Bool.and_eq_true] at hk1
              have := List.all_eq_true.1 hk1.2 j (List.mem_range.2 hj)
              simp [hdj, Ne.symm hji] at this
            show F j ((a.put o.dst v).tmps.getD d undef) w'
            rw [put_getD_ne _ hne]
            exact hfj
      · intro j hlj k hw
        by_cases hji : i = j
        · subst hji; exact getD_set_true (waits_of_ready hi k hw)
        · rw [getD_set_ne false hji] at hlj
          exact getD_set_true (hI.down j hlj k hw)
    unfold wpOp
    rw [ho]
    simp only []
    rw [← hwant]
    simp only [wpList] at hk
    split
    · rename_i hw
      rw [if_pos hw] at hk
      rcases hk with hk | ⟨_, x, y, hxy⟩
      · refine .inl ?_
        unfold Oper.wp at hk ⊢
        rw [heval] at hk
        have hGo : i ∈ A → ∀ n w', (execOp a.eval o).run P w = .ok n w' → n = .value (.pointer (some ⟨w.heap.size, 0, none⟩)) := fun hiA => (hAl i o hiA ho).2.2 a.eval w
        generalize (execOp a.eval o).run P w = r at *
        cases r with
        | ok n w' =>
          cases n <;> simp only [Oper.upon] at hk ⊢
          case value u => exact next u w' hk.2.1 (fun hiA => by have := hGo hiA _ _ rfl; simpa using this) hk.2.2.2
          case skip => exact next undef w' hk.2.1 (fun hiA => by have := hGo hiA _ _ rfl; cases this) hk.2.2.2
          case defer d =>
            have := hk.2.2.1
            rw [put_defers] at this
            exact absurd this (by simp)
          case enter f args =>
            refine Calls.mono hk fun e w'' he => ?_
            cases e with
            | returned u => exact next u w'' he.2.1 (fun hiA => by have := hGo hiA _ _ rfl; cases this) he.2.2.2
            | panicked c => exact absurd he.1 (by simp)
            | outgrown => obtain ⟨_, _, h⟩ := he; exact absurd h.1 (by simp)
          case row row args => exact Rows.mono hk fun u w'' he => next u w'' he.2.1 (fun hiA => by have := hGo hiA _ _ rfl; cases this) he.2.2.2
        | halt x w' =>
          cases x <;> simp only [Oper.upon] at hk ⊢
          case panic u => exact absurd hk.1 (by simp)
      · exact absurd hxy.1 (by simp)
    · rename_i hw
      rw [if_neg hw] at hk
      exact next undef w hk.2.1 (fun hiA => by obtain ⟨_, hg, _⟩ := hAl i o hiA ho; exact absurd (by simp [Region.wanted, hg]) hw) hk.2.2.2
/-- THE BOXES OF A (operations that make one each) LIE APART. A REGION THAT DRAWS ITS ORDER AND ENDS IN A CHAIN: the first m operations by facts, the others as they stand. -/
theorem wp_region_boxes {id : Nat} {l : List Oper} (m : Nat) (A : List Nat) (Fs : List Fact) (D : List (List (Nat × Tmp))) (E : List (Nat × Tmp)) {a0 : Act} {w0 : World} {Q : Exit → Act → World → Prop}
    (hm : P.follows .mixedOrders = true)
    (hok : (opsOk l.toArray a0.tmps.size 0 (l.take m) D && decide (m ≤ l.length) && ((E.all fun p => decide (p.1 < m) && dstOf l.toArray p.1 == some p.2) && (List.range m).all fun j => match dstOf l.toArray j with | some _ => E.any fun p => p.1 == j | none => true) && chainOk l.toArray m && ordOk l.toArray) = true)
    (hob : Obs P l.toArray (factAt Fs) a0 w0 0 (l.take m) D)
    (hAl : ∀ i, i ∈ A → ∃ o t z, l[i]? = some o ∧ o.op = .alloc t ∧ (∃ d, o.dst = some d) ∧ o.guard = none ∧ (∀ w, Sem.run P (zeroValue t) w = .ok z w) ∧ i < m)
    (hin : ∀ i, i ∈ A → ∀ v w, (Fs.getD i Fact.any).p v w → ∃ b, v = .pointer (some ⟨b, 0, none⟩) ∧ b < w.heap.size)
    (hend : ∀ w, Ext w0 w → depsThen (factAt Fs) w E a0 (fun a => (∀ i, i ∈ A → ∀ j, j ∈ A → i ≠ j → valOf l.toArray a i ≠ valOf l.toArray a j) → wpList P l.toArray Q (l.drop m) a w)) :
    (Code.region id l.toArray true).wp P Q a0 w0 := by
  simp only [Bool.and_eq_true] at hok
  obtain ⟨⟨⟨⟨k1, k2⟩, k3⟩, k4⟩, k5⟩ := hok
  have hno : ∀ j, (Array.replicate l.toArray.size false).getD j false = false := fun j => by
    simp only [Array.getD_eq_getD_getElem?, Array.getElem?_replicate]; split <;> rfl
  refine wp_region_any hm (region_chain2 (m := m) (A := A) (F := factAt Fs) (D := D) (E := E) (w0 := w0) k1 (by simpa using k2) (by simp only [Bool.and_eq_true]; exact k3) k4 ?_ (fun i v w w' hx h => (Fs.getD i Fact.any).st v w w' hx h) hob ?_ hin (fun i hi => by obtain ⟨_, _, _, _, _, _, _, _, h⟩ := hAl i hi; exact h) hend _ _ _ _ ?_ (fun j _ => hno j) ?_ (fun i _ j _ _ h => by rw [hno] at h; cases h))
  · intro i o ho e he hb
    have hi : i < l.toArray.size := (Array.getElem?_eq_some_iff.1 ho).1
    have h1 := List.all_eq_true.1 k5 i (List.mem_range.2 hi)
    simp only [ho] at h1
    have h2 := (Array.all_eq_true_iff_forall_mem.1 h1) e he
    simpa [hb] using h2
  · intro i o hi ho
    obtain ⟨o', t, z, h1, h2, h3, h4, h5, _⟩ := hAl i hi
    have e : o' = o := by simpa [h1] using ho
    subst e
    refine ⟨h3, h4, fun ev w n w' hr => ?_⟩
    simp only [execOp, h2] at hr
    have := hr
    simp [go_sem, h5] at this
    exact this.1.symm
  · simp
  · exact ⟨by simp, rfl, rfl, fun _ _ => rfl, fun j _ h => (by rw [hno] at h; cases h), fun j h => (by rw [hno] at h; cases h), (Ext.refl w0).drew⟩

/-- As depsThen; the values are gathered. -/
def depsThenV (F : Nat → Value → World → Prop) (w : World) : List (Nat × Tmp) → Act → List (Nat × Value) → (Act → List (Nat × Value) → Prop) → Prop
  | [], a, vs, k => k a vs
  | p :: js, a, vs, k => ∀ v, F p.1 v w → depsThenV F w js (a.put (some p.2) v) ((p.1, v) :: vs) k
theorem depsThenV_nil {F : Nat → Value → World → Prop} {w : World} {a : Act} {vs : List (Nat × Value)} {k : Act → List (Nat × Value) → Prop} (h : k a vs) : depsThenV F w [] a vs k := h

theorem deps_of_V {F : Nat → Value → World → Prop} {w : World} {sl : Nat → Option Tmp} {k : Act → List (Nat × Value) → Prop} : ∀ (E : List (Nat × Tmp)) (b : Act) (vs : List (Nat × Value)), (E.map (·.2)).Nodup → (∀ p ∈ E, p.2 < b.tmps.size) → (∀ p ∈ E, sl p.1 = some p.2) →
    (∀ x ∈ vs, ∃ s, sl x.1 = some s ∧ s ∉ E.map (·.2) ∧ b.tmps.getD s undef = x.2) → depsThenV F w E b vs k →
    depsThen F w E b fun a => ∃ vs', (∀ x ∈ vs', ∃ s, sl x.1 = some s ∧ a.tmps.getD s undef = x.2) ∧ k a vs'
  | [], b, vs, _, _, _, hv, h => ⟨vs, fun x hx => by obtain ⟨s, h1, _, h3⟩ := hv x hx; exact ⟨s, h1, h3⟩, h⟩
  | p :: js, b, vs, hn, hb, hs, hv, h => by
    intro v hF
    rw [List.map_cons, List.nodup_cons] at hn
    refine deps_of_V js _ _ hn.2 (fun q hq => by rw [put_size]; exact hb q (List.mem_cons_of_mem _ hq)) (fun q hq => hs q (List.mem_cons_of_mem _ hq)) (fun x hx => ?_) (h v hF)
    rcases List.mem_cons.1 hx with e | hx
    · subst e
      exact ⟨p.2, hs p List.mem_cons_self, hn.1, put_getD_eq _ (hb p List.mem_cons_self)⟩
    · obtain ⟨s, h1, h2, h3⟩ := hv x hx
      rw [List.map_cons, List.mem_cons, not_or] at h2
      refine ⟨s, h1, h2.2, ?_⟩
      rw [put_getD_ne _ (fun e => h2.1 (Option.some.inj e).symm)]
      exact h3
theorem deps_mono {F : Nat → Value → World → Prop} {w : World} {k k' : Act → Prop} (hk : ∀ a, k a → k' a) : ∀ (E : List (Nat × Tmp)) (b : Act), depsThen F w E b k → depsThen F w E b k'
  | [], _, h => hk _ h
  | _ :: js, _, h => fun v hF => deps_mono hk js _ (h v hF)

def slotsOk (ops : Array Oper) (n : Nat) (E : List (Nat × Tmp)) : Bool := decide ((E.map (·.2)).Nodup) && E.all fun p => decide (p.2 < n) && dstOf ops p.1 == some p.2

/-- The same, the values gathered: so that what is said of the boxes is said of those values. -/
theorem wp_region_boxesV {id : Nat} {l : List Oper} (m : Nat) (A : List Nat) (Fs : List Fact) (D : List (List (Nat × Tmp))) (E : List (Nat × Tmp)) {a0 : Act} {w0 : World} {Q : Exit → Act → World → Prop}
    (hm : P.follows .mixedOrders = true)
    (hok : (opsOk l.toArray a0.tmps.size 0 (l.take m) D && decide (m ≤ l.length) && ((E.all fun p => decide (p.1 < m) && dstOf l.toArray p.1 == some p.2) && (List.range m).all fun j => match dstOf l.toArray j with | some _ => E.any fun p => p.1 == j | none => true) && chainOk l.toArray m && ordOk l.toArray) = true)
    (hsl : slotsOk l.toArray a0.tmps.size E = true)
    (hob : Obs P l.toArray (factAt Fs) a0 w0 0 (l.take m) D)
    (hAl : ∀ i, i ∈ A → ∃ o t z, l[i]? = some o ∧ o.op = .alloc t ∧ (∃ d, o.dst = some d) ∧ o.guard = none ∧ (∀ w, Sem.run P (zeroValue t) w = .ok z w) ∧ i < m)
    (hin : ∀ i, i ∈ A → ∀ v w, (Fs.getD i Fact.any).p v w → ∃ b, v = .pointer (some ⟨b, 0, none⟩) ∧ b < w.heap.size)
    (hend : ∀ w, Ext w0 w → depsThenV (factAt Fs) w E a0 [] (fun a vs => (∀ x, x ∈ vs → ∀ y, y ∈ vs → x.1 ∈ A → y.1 ∈ A → x.1 ≠ y.1 → x.2 ≠ y.2) → wpList P l.toArray Q (l.drop m) a w)) :
    (Code.region id l.toArray true).wp P Q a0 w0 := by
  simp only [slotsOk, Bool.and_eq_true, decide_eq_true_eq, List.all_eq_true, beq_iff_eq] at hsl
  refine wp_region_boxes m A Fs D E hm hok hob hAl hin fun w hx => ?_
  refine deps_mono (fun a h hap => ?_) E a0 (deps_of_V (sl := dstOf l.toArray) E a0 [] hsl.1 (fun p hp => (hsl.2 p hp).1) (fun p hp => (hsl.2 p hp).2) (fun x hx => by cases hx) (hend w hx))
  obtain ⟨vs', hvs, hk⟩ := h
  have val : ∀ x ∈ vs', valOf l.toArray a x.1 = x.2 := fun x hx => by
    obtain ⟨s, h1, h2⟩ := hvs x hx
    unfold valOf
    rw [h1]; exact h2
  exact hk fun x hx y hy hxA hyA hne => by rw [← val x hx, ← val y hy]; exact hap x.1 hxA y.1 hyA hne

end
end Go.Proofs.YtaklnpjpndkccaaGreat

namespace Go.Proofs.YtaklnpjpndkccaaGreat
open Go.RowKit Go.Sort

theorem rowD_gap {is : List IM} {g : Nat × Nat} {gs : List (Nat × Nat)} (h : gapB is (g :: gs) = true) : rowD (g :: gs) (is.map IM.pi) = PD.ofG g :: rowD gs (is.map IM.pi) := by
  cases is with
  | nil => rw [List.map_nil, rowD]
  | cons x is => rw [List.map_cons, rowD, if_pos (show g.1 ≤ x.pi.n from of_decide_eq_true h)]
theorem rowD_item {x : IM} {is : List IM} {gs : List (Nat × Nat)} (h : gapB (x :: is) gs = false) : rowD gs ((x :: is).map IM.pi) = PD.ofI x.pi :: rowD gs (is.map IM.pi) := by
  cases gs with
  | nil => rw [List.map_cons, rowD, rowD]; rfl
  | cons g gs => rw [List.map_cons, rowD, if_neg (show ¬ g.1 ≤ x.pi.n from of_decide_eq_false h)]
theorem rowD_nil : rowD [] (([] : List IM).map IM.pi) = [] := by rw [rowD]; rfl

theorem lesser_any (w0 w : World) (bi bg : Nat) (is : List IM) (gs : List (Nat × Nat)) (h : LesR w0 w bi bg is gs) (hne : 0 < is.length + gs.length) :
    Calls Tryz.prog 54 #[.pointer (some ⟨bi, 0, none⟩), .pointer (some ⟨bg, 0, none⟩)] w
      fun e w' => ∃ d : DM, e = .returned (.agg #[.int .u64 d.n, .int .u64 d.t, .string (strOf d.key), .slice d.ha d.av.length d.hc, .int .u64 d.f, .int .u64 d.g]) ∧
        Hid (∃ is' gs', LesR w0 w' bi bg is' gs' ∧ rowD gs (is.map IM.pi) = d.pd :: rowD gs' (is'.map IM.pi) ∧ is.length + gs.length = is'.length + gs'.length + 1 ∧ AttrO w.heap.size w' d.h d.av ∧ w.heap.size ≤ w'.heap.size
          ∧ ∀ base e size v n xs, w.ownsRow base e size v n xs → e ≠ 31 → e ≠ 32 → w'.ownsRow base e size v n xs) := by
  obtain ⟨a1, c1, i1, _, _⟩ := h.itm
  obtain ⟨a2, c2, g1, _, _⟩ := h.gps
  cases hE : gapB is gs with
  | true =>
    cases gs with
    | nil => cases is with
      | nil => exact absurd hne (by simp)
      | cons x is => cases hE
    | cons g gs =>
      refine (lesser_gap w0 w bi bg is g gs h hE).mono ?_
      rintro e w' ⟨rfl, h1, h2⟩
      exact ⟨DM.ofG g, rfl, is, gs, h1, rowD_gap hE, by rw [List.length_cons]; omega, own_none _ _ _ _, h2.size, fun base e size v n xs ho he hg => own_keep ho h2 fun k hk e2 => own_ne ho g1 hg (hk.trans e2.symm)⟩
  | false =>
    cases is with
    | nil => cases hE
    | cons x is =>
      refine (lesser_item w0 w bi bg x is gs h hE).mono ?_
      rintro e w' ⟨ha, hc, rfl, h0, h1, h2⟩
      exact ⟨DM.ofI { x with ha := ha, hc := hc }, rfl, is, gs, h1, rowD_item hE, by rw [List.length_cons]; omega, h0, h2.size, fun base e size v n xs ho he hg => own_keep ho h2 fun k hk e2 => own_ne ho i1 he (hk.trans e2.symm)⟩

theorem own_typed {w : World} {base size n : Nat} {e : TypeId} {v : Value} {xs : List Value} (h : w.ownsRow base e size v n xs) : ∀ p n c, v = .slice (some p) n c → ∃ cs fr, w.heap[p.block]? = some (.cells cs e fr) := by
  rcases h.2 with ⟨rfl, _⟩ | ⟨g, cap, cur, rfl, _, hg, _⟩
  · intro p n c e2; cases e2
  · intro p n c e2; cases e2; exact ⟨_, _, hg⟩
def Fact.boxJ (n : Nat) (cs : Array Value) (t : TypeId) : Fact := ⟨fun v w => ∃ b, v = .pointer (some ⟨b, 0, none⟩) ∧ n ≤ b ∧ w.heap[b]? = some (.cells cs t (0, 0)), fun _ _ _ hx ⟨b, h1, h2, h3⟩ => ⟨b, h1, h2, block_later h3 hx⟩⟩
def Fact.ownG (base : Nat) (l : List (Nat × Nat)) : Fact := ⟨fun v w => w.ownsRow base 51 2 v l.length (l.flatMap gpC), fun _ _ _ hx h => own_ext h hx⟩

/-- What stands behind Row. -/
def RowO (w w' : World) (v : Value) (items : List IM) (gaps : List (Nat × Nat)) : Prop :=
  ∃ (L : List DM) (Zg : List (Nat × Nat)) (Zi : List IM), StS kfGap gaps Zg ∧ StS kfItem items Zi ∧ L.map DM.pd = rowD Zg (Zi.map IM.pi) ∧ w'.ownsRow w.heap.size 53 6 v L.length (L.flatMap dmC) ∧ (∀ x ∈ L, AttrO w.heap.size w' x.h x.av) ∧ Ext w w' ∧ L.length ≤ 80
set_option maxRecDepth 100000 in
set_option maxHeartbeats 4000000 in
theorem row_any (w : World) (fr en : Nat) (hi hg : Value) (last : Bool) (items : List IM) (gaps : List (Nat × Nat)) (h1 : ImR w hi items) (h2 : GpR w hg gaps) (hl1 : items.length ≤ 40) (hl2 : gaps.length ≤ 40) (hav : ∀ x ∈ items, x.av.length * 56 ≤ 140737488355328) :
    Calls Tryz.prog 29 #[.agg #[.int .u64 fr, .int .u64 en, hi, hg, .bool last]] w fun e w' => ∃ v, e = .returned v ∧ Hid (RowO w w' v items gaps) := by
  obtain ⟨hx, hb⟩ := boxes1 w (.cells #[.int .u64 fr, .int .u64 en, hi, hg, .bool last] 34)
  obtain ⟨a1, c1, rfl, _, _⟩ := Row.shape h1.row
  obtain ⟨a2, c2, rfl, _, _⟩ := Row.shape h2
  have HB := Lib.hid hb
  have HX := Lib.hid hx
  have H1 := Lib.hid h1
  have H2 := Lib.hid h2
  have CG : Hid (∀ W, Ext w W → Calls Tryz.prog 47 #[.slice a2 gaps.length c2] W fun e w' => ∃ v', e = .returned v' ∧ w'.ownsRow W.heap.size 51 2 v' gaps.length (gaps.flatMap gpC) ∧ Ext W w') := fun W hW => cloneGap_any W _ gaps (h2.ext hW) (by omega)
  have CI : Hid (∀ W, Ext w W → Calls Tryz.prog 51 #[.slice a1 items.length c1] W fun e w' => ∃ v', e = .returned v' ∧ w'.ownsRow W.heap.size 49 4 v' items.length (items.flatMap imC) ∧ Ext W w') := fun W hW => cloneItem_any W _ items (h1.row.ext hW) (by omega)
  clear hx hb h1 h2
  go_enter Tryz.func29, Tryz.ntmps29
  go_upto_region 2 with fail
  generalize w.alloc (.cells #[.int .u64 fr, .int .u64 en, .slice a1 items.length c1, .slice a2 gaps.length c2, .bool last] 34) = wb at *
  refine wp_region_boxesV 7 [5, 6] [Fact.eq (.pointer (some ⟨w.heap.size, 2, none⟩)),
      Fact.eq (.slice a1 items.length c1),
      Fact.eq (.pointer (some ⟨w.heap.size, 3, none⟩)),
      Fact.eq (.slice a2 gaps.length c2),
      Fact.ownG wb.heap.size gaps,
      Fact.boxJ wb.heap.size #[.slice none 0 0] 31,
      Fact.boxJ wb.heap.size #[.slice none 0 0] 32]
    [[], [(0, 7)], [], [(2, 9)], [(3, 10)], [], []]
    [(0, 7), (1, 8), (2, 9), (3, 10), (4, 11), (5, 4), (6, 5)] (by kernel_rfl) (by kernel_rfl) (by kernel_rfl) ?_ ?_ ?_ ?_
  · refine ⟨?_, ?_, ?_, ?_, ?_, ?_, ?_, trivial⟩
    · intro w1 hx1; change wpList _ _ _ _ _ _; go_wp2_with fail; exact ⟨rfl, Ext.refl _, rfl, rfl⟩
    · intro w1 hx1; rintro _ rfl; change wpList _ _ _ _ _ _; have m0 := cell_of_row _ _ 2 _ _ _ (block_later HB.out hx1); go_wp2_with fail; exact ⟨rfl, Ext.refl _, rfl, rfl⟩
    · intro w1 hx1; change wpList _ _ _ _ _ _; go_wp2_with fail; exact ⟨rfl, Ext.refl _, rfl, rfl⟩
    · intro w1 hx1; rintro _ rfl; change wpList _ _ _ _ _ _; have m0 := cell_of_row _ _ 3 _ _ _ (block_later HB.out hx1); go_wp2_with fail; exact ⟨rfl, Ext.refl _, rfl, rfl⟩
    · intro w1 hx1; rintro _ rfl; change wpList _ _ _ _ _ _; have hle := hx1.size; go_wp2_with fail; refine (CG.out _ (HX.out.trans hx1)).mono ?_; rintro e w2 ⟨va, rfl, hA2, hx2⟩; have hA3 := own_low hA2 hle; go_wp2_with fail; exact ⟨rfl, hx2, rfl, hA3⟩
    · intro w1 hx1; change wpList _ _ _ _ _ _; go_wp2_with fail; exact ⟨rfl, (Ext.refl _).alloc _, rfl, _, rfl, hx1.size, (boxes1 _ _).2⟩
    · intro w1 hx1; change wpList _ _ _ _ _ _; go_wp2_with fail; exact ⟨rfl, (Ext.refl _).alloc _, rfl, _, rfl, hx1.size, (boxes1 _ _).2⟩
  · intro i hi; simp only [List.mem_cons, List.not_mem_nil, or_false] at hi; rcases hi with rfl | rfl <;> exact ⟨_, _, _, rfl, rfl, ⟨_, rfl⟩, rfl, (by(first|exact(Tryz.zeroValue31)|exact(Tryz.zeroValue32))), by decide⟩
  · intro i hi; simp only [List.mem_cons, List.not_mem_nil, or_false] at hi; rcases hi with rfl | rfl <;> rintro v w ⟨b, rfl, _, hb⟩ <;> exact ⟨b, rfl, (Array.getElem?_eq_some_iff.1 hb).1⟩
  · intro w1 hx1; rintro _ rfl; rintro _ rfl; rintro _ rfl; rintro _ rfl; intro v11 h11; intro v4 h4; intro v5 h5; refine depsThenV_nil ?_; intro hap; have hne_4_5 : v4 ≠ v5 := hap (5, v4) (by simp) (6, v5) (by simp) (by show (5 : Nat) ∈ [5, 6]; decide) (by show (6 : Nat) ∈ [5, 6]; decide) (by show (5 : Nat) ≠ 6; decide); clear hap; dsimp only; simp only [Act.put, List.setIfInBounds_toArray, List.set_cons_zero, List.set_cons_succ, List.drop_succ_cons, List.drop_zero]
    replace h11 : (Fact.ownG wb.heap.size gaps).p v11 w1 := h11
    replace h4 : (Fact.boxJ wb.heap.size #[.slice none 0 0] 31).p v4 w1 := h4
    replace h5 : (Fact.boxJ wb.heap.size #[.slice none 0 0] 32).p v5 w1 := h5
    have h11 : w1.ownsRow wb.heap.size 51 2 v11 gaps.length (gaps.flatMap gpC) := h11
    obtain ⟨b4, rfl, hb4, k4⟩ := h4
    obtain ⟨b5, rfl, hb5, k5⟩ := h5
    have hne : b4 ≠ b5 := fun e => hne_4_5 (by rw [e])
    clear hne_4_5
    have hsz : w.heap.size ≤ wb.heap.size := HX.out.size
    have m4 := cell_of_row _ _ 0 _ _ _ k4
    have z4 := frozen_of_row _ _ 0 _ _ k4
    have k5b := (setCell_block_far w1 ⟨b4, 0, none⟩ (.slice a1 items.length c1) b5 (by show b5 ≠ b4; exact fun e => hne e.symm)).trans k5
    have m5 := cell_of_row _ _ 0 _ _ _ k5b
    have z5 := frozen_of_row _ _ 0 _ _ k5b
    obtain ⟨a3, c3, rfl, _, _⟩ := own_shape h11
    have k5c := setCell_blockJ 0 (.slice a3 gaps.length c3) k5b
    have k4b := setCell_blockJ 0 (.slice a1 items.length c1) k4
    have k4c := (setCell_block_far (w1.setCell ⟨b4, 0, none⟩ (.slice a1 items.length c1)) ⟨b5, 0, none⟩ (.slice a3 gaps.length c3) b4 hne).trans k4b
    have o1 := own_setJ (own_setJ h11 k4 (by decide) 0 (.slice a1 items.length c1)) k5b (by decide) 0 (.slice a3 gaps.length c3)
    have hx2 := (((HX.out.trans hx1).setCell (p := ⟨b4, 0, none⟩) (by show w.heap.size ≤ b4; omega) (.slice a1 items.length c1)).setCell (p := ⟨b5, 0, none⟩) (by show w.heap.size ≤ b5; omega) (.slice a3 gaps.length c3))
    simp only [List.setIfInBounds_toArray, List.set_cons_zero] at k4c k5c
    have K := Lib.hid (And.intro k4c (And.intro k5c (And.intro o1 hx2)))
    have HNE := Lib.hid hne
    have HSZ := Lib.hid (And.intro hsz (And.intro hb4 hb5))
    clear k4 k5 k5b k4b k4c k5c o1 hx2 h11 hne hb4 hb5 hx1
    go_upto_region 3 with fail
    clear m4 z4 m5 z5
    generalize (w1.setCell ⟨b4, 0, none⟩ (.slice a1 items.length c1)).setCell ⟨b5, 0, none⟩ (.slice a3 gaps.length c3) = w2 at *
    obtain ⟨k4, k5, o1, hx2⟩ := K.out
    have m5 := cell_of_row _ _ 0 _ _ _ k5
    have C := Lib.hid (sortGap_any w2 wb.heap.size (.slice a3 gaps.length c3) gaps o1 hl2)
    clear k4 k5 o1 hx2
    go_upto_region 4 with ((with_reducible refine C.out.mono ?_); rintro e w3 ⟨rfl, h3⟩)
    clear m5 C
    obtain ⟨Zg, hZg, og, hg3⟩ := h3.out
    obtain ⟨k4, k5, o1, hx2⟩ := K.out
    have hblk := own_base o1
    have hx3 : Ext w w3 := hx2.grown_none hg3 (fun k hk => Nat.le_trans HSZ.out.1 (hblk k hk))
    have k4' := (hg3.block b4 (Array.getElem?_eq_some_iff.1 k4).1 (fun e => own_ne o1 k4 (by decide) e.symm)).trans k4
    have k5' := (hg3.block b5 (Array.getElem?_eq_some_iff.1 k5).1 (fun e => own_ne o1 k5 (by decide) e.symm)).trans k5
    have m4 := cell_of_row _ _ 0 _ _ _ k4'
    have CI2 := Lib.hid (CI.out w3 hx3)
    have K3 := Lib.hid (And.intro k4' (And.intro k5' (And.intro og hx3)))
    have HZg := Lib.hid hZg
    clear K h3 k4 k5 o1 hx2 hblk hx3 k4' k5' og hg3 hZg CI CG
    go_upto_region 5 with ((go_at_call 51; refine CI2.out.mono ?_; rintro e w4 ⟨v4, rfl, h4, hx4⟩; obtain ⟨a5, c5, rfl, _, _⟩ := own_shape h4; have M4 := block_later K3.out.1 hx4; have m4b := cell_of_row _ _ 0 _ _ _ M4; have z4 := frozen_of_row _ _ 0 _ _ M4))
    have k4c := setCell_blockJ 0 (.slice a5 items.length c5) M4
    have k5 := block_later K3.out.2.1 hx4
    have k5c := (setCell_block_far w4 ⟨b4, 0, none⟩ (.slice a5 items.length c5) b5 (fun e => HNE.out e.symm)).trans k5
    have oi := own_setJ h4 M4 (by decide) 0 (.slice a5 items.length c5)
    have og := own_setJ (own_ext K3.out.2.2.1 hx4) M4 (by decide) 0 (.slice a5 items.length c5)
    have hx5 := (K3.out.2.2.2.trans hx4).setCell (p := ⟨b4, 0, none⟩) (by have := HSZ.out; show w.heap.size ≤ b4; omega) (.slice a5 items.length c5)
    have hsz3 := K3.out.2.2.2.size
    simp only [List.setIfInBounds_toArray, List.set_cons_zero] at k4c k5c
    clear h4 hx4 M4 m4b z4 m4 k5 K3 CI2
    generalize w4.setCell ⟨b4, 0, none⟩ (.slice a5 items.length c5) = w5 at *
    have m4 := cell_of_row _ _ 0 _ _ _ k4c
    have C := Lib.hid (sortItem_any w5 w3.heap.size (.slice a5 items.length c5) items oi hl1)
    have K5 := Lib.hid (And.intro k4c (And.intro k5c (And.intro oi (And.intro og (And.intro hx5 hsz3)))))
    clear k4c k5c oi og hx5 hsz3
    go_upto_region 6 with ((with_reducible refine C.out.mono ?_); rintro e w6 ⟨rfl, h6⟩)
    clear m4 C
    obtain ⟨Zi, hZi, oi6, hg6⟩ := h6.out
    obtain ⟨k4, k5, oi, og, hx5, hsz3⟩ := K5.out
    have hblk := own_base oi
    have hx6 : Ext w w6 := hx5.grown_none hg6 (fun k hk => Nat.le_trans hsz3 (hblk k hk))
    have k4' := (hg6.block b4 (Array.getElem?_eq_some_iff.1 k4).1 (fun e => own_ne oi k4 (by decide) e.symm)).trans k4
    have k5' := (hg6.block b5 (Array.getElem?_eq_some_iff.1 k5).1 (fun e => own_ne oi k5 (by decide) e.symm)).trans k5
    have og6 := own_keep og hg6 (own_apart oi og (by decide))
    have hlZi := hZi.len
    have hlZg := HZg.out.len
    have HL : Hid (LesR w w6 b4 b5 Zi Zg) := by
      refine ⟨⟨a5, c5, by rw [hlZi]; exact k4', by rw [hlZi]; exact Row.of_own oi6, ?_⟩, ⟨a3, c3, by rw [hlZg]; exact k5', by rw [hlZg]; exact Row.of_own og6, ?_⟩, HNE.out, fun x hx => ?_, by have := HSZ.out; omega, by have := HSZ.out; omega, hx6⟩
      · refine ⟨?_, by rw [hlZi]; exact own_typed oi6⟩
        intro p n c e
        simp only [Value.slice.injEq] at e
        constructor
        · intro e2; exact own_ne oi6 k4' (by decide) (by rw [← e2]; simp [Value.ownBlock, e.1])
        · intro e2; exact own_ne oi6 k5' (by decide) (by rw [← e2]; simp [Value.ownBlock, e.1])
      · refine ⟨?_, by rw [hlZg]; exact own_typed og6⟩
        intro p n c e
        simp only [Value.slice.injEq] at e
        constructor
        · intro e2; exact own_ne og6 k4' (by decide) (by rw [← e2]; simp [Value.ownBlock, e.1])
        · intro e2; exact own_ne og6 k5' (by decide) (by rw [← e2]; simp [Value.ownBlock, e.1])
      · have hm := hZi.mem.1 hx
        exact ⟨H1.out.hs x hm, hav x hm⟩
    have HZ := Lib.hid (And.intro hZi (And.intro (show Zi.length ≤ 40 by omega) (show Zg.length ≤ 40 by omega)))
    clear h6 K5 k4 k5 oi og hx5 hsz3 hblk hx6 k4' k5' og6 hlZi hlZg oi6 hg6 hZi HB HX H1 H2 hav hl1 hl2
    go_wp2_with fail
    go_loopg [3] (Zi.length + Zg.length) (fun g1 vo wr => Hid (∃ (L : List DM) (is : List IM) (gs : List (Nat × Nat)), LesR w wr b4 b5 is gs ∧ is.length + gs.length ≤ g1 ∧ is.length + gs.length + L.length ≤ 80 ∧ rowD Zg (Zi.map IM.pi) = L.map DM.pd ++ rowD gs (is.map IM.pi) ∧ wr.ownsRow w.heap.size 53 6 vo L.length (L.flatMap dmC) ∧ ∀ x ∈ L, AttrO w.heap.size wr x.h x.av))
    case atStart => exact ⟨[], Zi, Zg, HL.out, Nat.le_refl _, by have := HZ.out; simp only [List.length_nil]; omega, rfl, own_none _ _ _ _, fun _ h => by cases h⟩
    case round =>
      clear HL
      obtain ⟨L, is, gs, hles, hg1, h80, hrow, hown, hat⟩ := hrel.out
      clear hrel
      obtain ⟨x1, x2, p4, _, _⟩ := hles.itm
      obtain ⟨x3, x4, p5, _, _⟩ := hles.gps
      have m4 := cell_of_row _ _ 0 _ _ _ p4
      have m5 := cell_of_row _ _ 0 _ _ _ p5
      obtain ⟨ov, oc, rfl, _, _⟩ := own_shape hown
      obtain ⟨ni, hni⟩ : ∃ n, n = is.length := ⟨_, rfl⟩
      obtain ⟨ng, hng⟩ : ∃ n, n = gs.length := ⟨_, rfl⟩
      rw [← hni] at m4
      rw [← hng] at m5
      obtain ⟨s, hs⟩ : ∃ s : Nat, (s : Int) = (ni : Int) + (ng : Int) := ⟨ni + ng, by omega⟩
      have q1 : (ni : Int) + (ng : Int) = (s : Int) := hs.symm
      have hs80 : s ≤ 80 := by omega
      by_cases h0 : 0 < s
      · have d1 : decide ((0 : Int) < (s : Int)) = true := decide_eq_true (by omega)
        have d2 : decide (0 < s) = true := decide_eq_true h0
        have C := Lib.hid (lesser_any w wr b4 b5 is gs hles (by omega))
        have HR := Lib.hid (And.intro hg1 (And.intro h80 (And.intro hrow (And.intro hown hat))))
        have HN := Lib.hid (And.intro hni (And.intro hng hs))
        have hwsz : Hid (w.heap.size ≤ wr.heap.size) := hles.old.2.2.size
        clear hles hg1 h80 hrow hown hat p4 p5 hni hng hs
        go_wp2_with (first
          | (refine C.out.mono ?_; rintro e w7 ⟨d, rfl, h7⟩; have HO8 : Hid ((w7.alloc (.cells #[.int .u64 d.n, .int .u64 d.t, .string (strOf d.key), .slice d.ha d.av.length d.hc, .int .u64 d.f, .int .u64 d.g] 53)).ownsRow w.heap.size 53 6 (.slice ov L.length oc) L.length (L.flatMap dmC)) := (by obtain ⟨is', gs', hl7, hr7, hn7, hat7, hsz7, hkeep⟩ := h7.out; exact own_ext (hkeep _ _ _ _ _ _ HR.out.2.2.2.1 (by decide) (by decide)) (boxes1 w7 _).1); have HB8 : Hid (w.heap.size ≤ (w7.alloc (.cells #[.int .u64 d.n, .int .u64 d.t, .string (strOf d.key), .slice d.ha d.av.length d.hc, .int .u64 d.f, .int .u64 d.g] 53)).heap.size) := (by obtain ⟨is', gs', hl7, hr7, hn7, hat7, hsz7, hkeep⟩ := h7.out; have := hwsz.out; show _ ≤ _; rw [World.size_alloc]; omega); have HW8 := Lib.hid (Row.of_own (World.ownsRow_lit (base := w7.heap.size) (e := 53) (size := 6) w7 (dmC d).toArray 1 (Nat.le_refl _) (by decide) rfl)))
          | (at_builtin; refine wpList_append_row 38 53 (.tmp 25) (.tmp 28) rfl w.heap.size _ 6 72 Tryz.underlying38 infoDel rfl (by decide) rfl _ L.length (L.flatMap dmC) rfl HO8.out 1 (dmC d) HW8.out (dmC_one d) (by have := HR.out.2.1; omega) (by have := HR.out.2.1; unfold maxLen; omega) HB8.out ?_; intro v9 w9 hown9 hg9))
        obtain ⟨is', gs', hl7, hr7, hn7, hat7, hsz7, hkeep⟩ := h7.out
        obtain ⟨hg1, h80, hrow, hown, hat⟩ := HR.out
        obtain ⟨hni, hng, hs⟩ := HN.out
        obtain ⟨k1, k2, k3⟩ := HZ.out
        go_roundg (is'.length + gs'.length)
        case measure => omega
        case rel =>
          have hx8 := (boxes1 w7 (.cells #[.int .u64 d.n, .int .u64 d.t, .string (strOf d.key), .slice d.ha d.av.length d.hc, .int .u64 d.f, .int .u64 d.g] 53)).1
          obtain ⟨i1, i2, i3, _, _⟩ := (hl7.later hx8).itm
          obtain ⟨j1, j2, j3, _, _⟩ := (hl7.later hx8).gps
          have HA : ∀ {v : Value} {xs : List Value} {n size base : Nat} {e : TypeId}, w7.ownsRow base e size v n xs → e ≠ 53 → w9.ownsRow base e size v n xs := fun h he => own_keep (own_ext h hx8) hg9 (own_apart HO8.out (own_ext h hx8) (Ne.symm he))
          refine ⟨L ++ [d], is', gs', ?_, Nat.le_refl _, by rw [List.length_append, List.length_singleton]; omega, ?_, ?_, ?_⟩
          · have hl8 := hl7.later hx8
            have kp : ∀ {size n : Nat} {v : Value} {xs : List Value} {t : TypeId}, Row (w7.alloc (.cells #[.int .u64 d.n, .int .u64 d.t, .string (strOf d.key), .slice d.ha d.av.length d.hc, .int .u64 d.f, .int .u64 d.g] 53)) size v n xs → AwayT (w7.alloc (.cells #[.int .u64 d.n, .int .u64 d.t, .string (strOf d.key), .slice d.ha d.av.length d.hc, .int .u64 d.f, .int .u64 d.g] 53)) t b4 b5 v → 53 ≠ t → Row w9 size v n xs ∧ AwayT w9 t b4 b5 v := fun hr ha ht => by
              refine ⟨row_kept hr hg9 fun B o k c e e2 => ?_, ha.1, fun p n c e => ?_⟩
              · obtain ⟨cs, fr, hc⟩ := ha.2 _ _ _ e
                exact own_ne HO8.out hc ht e2.symm
              · obtain ⟨cs, fr, hc⟩ := ha.2 _ _ _ e
                exact ⟨cs, fr, (hg9.block _ (Array.getElem?_eq_some_iff.1 hc).1 (fun e2 => own_ne HO8.out hc ht e2.symm)).trans hc⟩
            obtain ⟨x1, y1, p1, p2, p3⟩ := hl8.itm
            obtain ⟨x2, y2, r1, r2, r3⟩ := hl8.gps
            refine ⟨⟨x1, y1, (hg9.block b4 (Array.getElem?_eq_some_iff.1 p1).1 (fun e2 => own_ne HO8.out p1 (by decide) e2.symm)).trans p1, kp p2 p3 (by decide)⟩, ⟨x2, y2, (hg9.block b5 (Array.getElem?_eq_some_iff.1 r1).1 (fun e2 => own_ne HO8.out r1 (by decide) e2.symm)).trans r1, kp r2 r3 (by decide)⟩, hl8.ne, hl8.hs, hl8.old.1, hl8.old.2.1, hl8.old.2.2.grown_none hg9 (own_base HO8.out)⟩
          · rw [hrow, hr7, List.map_append, List.append_assoc]; rfl
          · rw [List.length_append, List.length_singleton, List.flatMap_append]
            simpa using hown9
          · intro x hx
            rcases List.mem_append.1 hx with hx | hx
            · exact HA (hkeep _ _ _ _ _ _ (hat x hx) (by decide) (by decide)) (by decide)
            · rw [List.mem_singleton.1 hx]
              exact own_low (HA hat7 (by decide)) hwsz.out
      · have d1 : decide ((0 : Int) < (s : Int)) = false := decide_eq_false (by omega)
        have d2 : decide (0 < s) = false := decide_eq_false h0
        have hi0 : is = [] := List.length_eq_zero_iff.1 (by omega)
        have hg0 : gs = [] := List.length_eq_zero_iff.1 (by omega)
        subst hi0 hg0
        have HR := Lib.hid (And.intro h80 (And.intro hrow (And.intro hown (And.intro hat hles.old.2.2))))
        clear hles h80 hrow hown hat p4 p5 hni hng hs hg1
        go_wp2_with fail
        go_ret
        obtain ⟨h80, hrow, hown, hat, hx⟩ := HR.out
        obtain ⟨k1, _⟩ := HZ.out
        refine ⟨_, rfl, L, Zg, Zi, HZg.out, k1, ?_, hown, hat, hx, by simpa using h80⟩
        rw [hrow, rowD_nil, List.append_nil]
end Go.Proofs.YtaklnpjpndkccaaGreat

namespace Go.Proofs.YtaklnpjpndkccaaGreat
open Go.RowKit

/-- The first place at which p holds, or -1. -/
def idxP {α : Type} (p : α → Bool) (l : List α) : Int := match l.findIdx? p with | some i => (i : Int) | none => -1
theorem idxP_hit {α : Type} {p : α → Bool} {l : List α} {k : Nat} (hk : k < l.length) (h : ∀ x ∈ l.take k, p x = false) (e : p l[k] = true) : idxP p l = k := by
  have : l.findIdx? p = some k := by
    rw [List.findIdx?_eq_some_iff_getElem]
    refine ⟨hk, e, fun j hj => ?_⟩
    have := h l[j] (by rw [List.mem_take_iff_getElem]; exact ⟨j, by omega, rfl⟩)
    rw [this]; simp
  unfold idxP; rw [this]
theorem idxP_miss {α : Type} {p : α → Bool} {l : List α} (h : ∀ x ∈ l, p x = false) : idxP p l = -1 := by
  have : l.findIdx? p = none := by
    rw [List.findIdx?_eq_none_iff]
    exact h
  unfold idxP; rw [this]
theorem idxP_any {α : Type} (p : α → Bool) (l : List α) : decide (0 ≤ idxP p l) = l.any p := by
  unfold idxP
  cases h : l.findIdx? p with
  | none =>
    rw [List.findIdx?_eq_none_iff] at h
    have : l.any p = false := List.any_eq_false.2 fun x hx => by rw [h x hx]; simp
    rw [this]; rfl
  | some i =>
    rw [List.findIdx?_eq_some_iff_getElem] at h
    obtain ⟨hi, e, _⟩ := h
    have : l.any p = true := List.any_eq_true.2 ⟨_, List.getElem_mem hi, e⟩
    rw [this]
    exact decide_eq_true (by show (0 : Int) ≤ (i : Int); omega)
theorem idxP_get {α : Type} (p : α → Bool) (l : List α) : (idxP p l = -1 ∧ l.find? p = none) ∨ ∃ (i : Nat) (hi : i < l.length), idxP p l = i ∧ l.find? p = some l[i] := by
  unfold idxP
  cases h : l.findIdx? p with
  | none =>
    rw [List.findIdx?_eq_none_iff] at h
    exact .inl ⟨rfl, List.find?_eq_none.2 fun x hx => by rw [h x hx]; simp⟩
  | some i =>
    rw [List.findIdx?_eq_some_iff_getElem] at h
    obtain ⟨hi, e, hb⟩ := h
    refine .inr ⟨i, hi, rfl, ?_⟩
    rw [List.find?_eq_some_iff_getElem]
    exact ⟨e, i, hi, rfl, fun j hj => by simpa using hb j hj⟩

set_option maxRecDepth 100000 in
set_option maxHeartbeats 2000000 in
theorem idxA_any (w : World) (v : Value) (l : List (List UInt8 × V)) (h : AttrR w v l) (g : Nat) (cb : Array Value) (p : List UInt8 × V → Bool) (eg : ∀ args w, (callFunc g args).run Tryz.prog w = .ok (.enter g args) w)
    (hc : ∀ (W : World) (x : List UInt8 × V) , Ext w W → x ∈ l → Calls Tryz.prog g (#[.agg #[.string (strOf x.1), .int .i64 x.2.k, .int .i64 x.2.n, .string (strOf x.2.s), .bool x.2.b]] ++ cb) W fun e W' => e = .returned (.bool (p x)) ∧ Ext W W') :
    Calls Tryz.prog 67 #[v, .func (.func g) #[] cb] w fun e w' => e = .returned (.int .i64 (idxP p l)) ∧ Ext w w' := by
  obtain ⟨a, cap, rfl, hcc, hm⟩ := Row.shape h
  unfold maxLen at hm
  generalize hn : l.length = n at *
  have HN := Lib.hid hn
  clear hn
  have HC := Lib.hid hc
  clear hc
  go_enter Tryz.func67, Tryz.ntmps67
  go_wp2_with fail
  go_loopw [5, 8] (fun _ i wr => ∃ k : Nat, k ≤ n ∧ i = .int .i64 k ∧ Hid (∀ x ∈ l.take k, p x = false) ∧ Ext w wr) (fun _ i _ => n - (intOf i).toNat)
  case atStart => exact ⟨0, Nat.zero_le _, rfl, (by show ∀ x ∈ l.take 0, _; simp), Ext.refl w⟩
  case round =>
    obtain ⟨k, hk, rfl, hall, hx⟩ := hrel
    by_cases hlt : k < n
    · have k1 : k < l.length := by rw [HN.out]; exact hlt
      have hI : decide ((k : Int) < (n : Int)) = true := decide_eq_true (by omega)
      have hext := h.ext hx
      obtain ⟨B1, o1, rfl, f0, f1, f2, f3, f4⟩ := AttrR.at hext k1
      have hcall := HC.out _ l[k] hx (List.getElem_mem k1)
      have hhit : p l[k] = true → idxP p l = k := fun e => idxP_hit k1 hall.out e
      have hnext : p l[k] = false → ∀ x ∈ l.take (k + 1), p x = false := fun e x hx => by
        rw [List.take_succ_eq_append_getElem k1] at hx
        rcases List.mem_append.1 hx with hx | hx
        · exact hall.out x hx
        · rw [List.mem_singleton.1 hx]; exact e
      generalize l[k] = x at *
      have HCALL := Lib.hid hcall
      clear hcall
      cases hq : p x with
      | true =>
        have hres := Lib.hid (hhit hq)
        have HQ := Lib.hid hq
        clear hhit hnext hq
        go_wp2_with (go_at_fn g; refine HCALL.out.mono ?_; rw [HQ.out]; rintro e w2 ⟨rfl, hx2⟩)
        go_ret
        exact ⟨by rw [hres.out]; rfl, hx.trans hx2⟩
      | false =>
        have hres := Lib.hid (hnext hq)
        have HQ := Lib.hid hq
        clear hhit hnext hq
        go_wp2_with (go_at_fn g; refine HCALL.out.mono ?_; rw [HQ.out]; rintro e w2 ⟨rfl, hx2⟩)
        go_roundw
        case rel => exact ⟨k + 1, hlt, by go_num, hres.out, hx.trans hx2⟩
        case measure => simp [intOf]; omega
    · obtain rfl : k = n := by omega
      have hI : decide ((k : Int) < (k : Int)) = false := decide_eq_false (by omega)
      have hres : Hid (idxP p l = -1) := by
        show _ = _
        refine idxP_miss fun x hx => hall.out x ?_
        rw [List.take_of_length_le (by rw [HN.out]; exact Nat.le_refl _)]; exact hx
      go_wp2_with fail
      go_ret
      exact ⟨by rw [hres.out]; rfl, hx⟩

set_option maxRecDepth 100000 in
set_option maxHeartbeats 2000000 in
theorem idxC_any (w : World) (v : Value) (l : List (C)) (h : PredR w v l) (g : Nat) (cb : Array Value) (p : C → Bool) (eg : ∀ args w, (callFunc g args).run Tryz.prog w = .ok (.enter g args) w)
    (hc : ∀ (W : World) (x : C) (sa : Option Addr) (sc : Nat) , Ext w W → x ∈ l → SetR W (.slice sa x.set.length sc) x.set → Calls Tryz.prog g (#[.agg #[.string (strOf x.name), .int .i64 x.op, .int .i64 x.v.k, .int .i64 x.v.n, .string (strOf x.v.s), .bool x.v.b, .slice sa x.set.length sc]] ++ cb) W fun e W' => e = .returned (.bool (p x)) ∧ Ext W W') :
    Calls Tryz.prog 66 #[v, .func (.func g) #[] cb] w fun e w' => e = .returned (.int .i64 (idxP p l)) ∧ Ext w w' := by
  obtain ⟨a, cap, rfl, hcc, hm⟩ := h.shape
  unfold maxLen at hm
  generalize hn : l.length = n at *
  have HN := Lib.hid hn
  clear hn
  have HC := Lib.hid hc
  clear hc
  go_enter Tryz.func66, Tryz.ntmps66
  go_wp2_with fail
  go_loopw [5, 8] (fun _ i wr => ∃ k : Nat, k ≤ n ∧ i = .int .i64 k ∧ Hid (∀ x ∈ l.take k, p x = false) ∧ Ext w wr) (fun _ i _ => n - (intOf i).toNat)
  case atStart => exact ⟨0, Nat.zero_le _, rfl, (by show ∀ x ∈ l.take 0, _; simp), Ext.refl w⟩
  case round =>
    obtain ⟨k, hk, rfl, hall, hx⟩ := hrel
    by_cases hlt : k < n
    · have k1 : k < l.length := by rw [HN.out]; exact hlt
      have hI : decide ((k : Int) < (n : Int)) = true := decide_eq_true (by omega)
      have hext := h.ext hx
      obtain ⟨B1, o1, sa, sc, rfl, f0, f1, f2, f3, f4, f5, f6, hs⟩ := PredR.at hext k1
      have hcall := HC.out _ l[k] sa sc hx (List.getElem_mem k1) hs
      have hhit : p l[k] = true → idxP p l = k := fun e => idxP_hit k1 hall.out e
      have hnext : p l[k] = false → ∀ x ∈ l.take (k + 1), p x = false := fun e x hx => by
        rw [List.take_succ_eq_append_getElem k1] at hx
        rcases List.mem_append.1 hx with hx | hx
        · exact hall.out x hx
        · rw [List.mem_singleton.1 hx]; exact e
      generalize l[k] = x at *
      have HCALL := Lib.hid hcall
      clear hcall
      cases hq : p x with
      | true =>
        have hres := Lib.hid (hhit hq)
        have HQ := Lib.hid hq
        clear hhit hnext hq
        go_wp2_with (go_at_fn g; refine HCALL.out.mono ?_; rw [HQ.out]; rintro e w2 ⟨rfl, hx2⟩)
        go_ret
        exact ⟨by rw [hres.out]; rfl, hx.trans hx2⟩
      | false =>
        have hres := Lib.hid (hnext hq)
        have HQ := Lib.hid hq
        clear hhit hnext hq
        go_wp2_with (go_at_fn g; refine HCALL.out.mono ?_; rw [HQ.out]; rintro e w2 ⟨rfl, hx2⟩)
        go_roundw
        case rel => exact ⟨k + 1, hlt, by go_num, hres.out, hx.trans hx2⟩
        case measure => simp [intOf]; omega
    · obtain rfl : k = n := by omega
      have hI : decide ((k : Int) < (k : Int)) = false := decide_eq_false (by omega)
      have hres : Hid (idxP p l = -1) := by
        show _ = _
        refine idxP_miss fun x hx => hall.out x ?_
        rw [List.take_of_length_le (by rw [HN.out]; exact Nat.le_refl _)]; exact hx
      go_wp2_with fail
      go_ret
      exact ⟨by rw [hres.out]; rfl, hx⟩

set_option maxRecDepth 100000 in
set_option maxHeartbeats 2000000 in
theorem hasC_any (w : World) (v : Value) (l : List (C)) (h : PredR w v l) (g : Nat) (cb : Array Value) (p : C → Bool) (eg : ∀ args w, (callFunc g args).run Tryz.prog w = .ok (.enter g args) w)
    (hc : ∀ (W : World) (x : C) (sa : Option Addr) (sc : Nat) , Ext w W → x ∈ l → SetR W (.slice sa x.set.length sc) x.set → Calls Tryz.prog g (#[.agg #[.string (strOf x.name), .int .i64 x.op, .int .i64 x.v.k, .int .i64 x.v.n, .string (strOf x.v.s), .bool x.v.b, .slice sa x.set.length sc]] ++ cb) W fun e W' => e = .returned (.bool (p x)) ∧ Ext W W') :
    Calls Tryz.prog 36 #[v, .func (.func g) #[] cb] w fun e w' => e = .returned (.bool (l.any p)) ∧ Ext w w' := by
  have hcon := idxC_any w v l h g cb p eg hc
  have hb := Lib.hid (idxP_any p l)
  clear hc
  generalize idxP p l = i at *
  obtain ⟨a, cap, rfl, hcc, hm⟩ := h.shape
  go_enter Tryz.func36, Tryz.ntmps36
  go_wp2_with (go_at_call 66; refine hcon.mono ?_; rintro e w' ⟨rfl, hx⟩)
  go_ret
  exact ⟨by rw [hb.out]; rfl, hx⟩

set_option maxRecDepth 100000 in
set_option maxHeartbeats 2000000 in
theorem idxV_any (w : World) (v : Value) (l : List (V)) (h : SetR w v l) (g : Nat) (cb : Array Value) (p : V → Bool) (eg : ∀ args w, (callFunc g args).run Tryz.prog w = .ok (.enter g args) w)
    (hc : ∀ (W : World) (x : V) , Ext w W → x ∈ l → Calls Tryz.prog g (#[.agg #[.int .i64 x.k, .int .i64 x.n, .string (strOf x.s), .bool x.b]] ++ cb) W fun e W' => e = .returned (.bool (p x)) ∧ Ext W W') :
    Calls Tryz.prog 133 #[v, .func (.func g) #[] cb] w fun e w' => e = .returned (.int .i64 (idxP p l)) ∧ Ext w w' := by
  obtain ⟨a, cap, rfl, hcc, hm⟩ := Row.shape h
  unfold maxLen at hm
  generalize hn : l.length = n at *
  have HN := Lib.hid hn
  clear hn
  have HC := Lib.hid hc
  clear hc
  go_enter Tryz.func133, Tryz.ntmps133
  go_wp2_with fail
  go_loopw [5, 8] (fun _ i wr => ∃ k : Nat, k ≤ n ∧ i = .int .i64 k ∧ Hid (∀ x ∈ l.take k, p x = false) ∧ Ext w wr) (fun _ i _ => n - (intOf i).toNat)
  case atStart => exact ⟨0, Nat.zero_le _, rfl, (by show ∀ x ∈ l.take 0, _; simp), Ext.refl w⟩
  case round =>
    obtain ⟨k, hk, rfl, hall, hx⟩ := hrel
    by_cases hlt : k < n
    · have k1 : k < l.length := by rw [HN.out]; exact hlt
      have hI : decide ((k : Int) < (n : Int)) = true := decide_eq_true (by omega)
      have hext := h.ext hx
      obtain ⟨B1, o1, rfl, f0, f1, f2, f3⟩ := SetR.at hext k1
      have hcall := HC.out _ l[k] hx (List.getElem_mem k1)
      have hhit : p l[k] = true → idxP p l = k := fun e => idxP_hit k1 hall.out e
      have hnext : p l[k] = false → ∀ x ∈ l.take (k + 1), p x = false := fun e x hx => by
        rw [List.take_succ_eq_append_getElem k1] at hx
        rcases List.mem_append.1 hx with hx | hx
        · exact hall.out x hx
        · rw [List.mem_singleton.1 hx]; exact e
      generalize l[k] = x at *
      have HCALL := Lib.hid hcall
      clear hcall
      cases hq : p x with
      | true =>
        have hres := Lib.hid (hhit hq)
        have HQ := Lib.hid hq
        clear hhit hnext hq
        go_wp2_with (go_at_fn g; refine HCALL.out.mono ?_; rw [HQ.out]; rintro e w2 ⟨rfl, hx2⟩)
        go_ret
        exact ⟨by rw [hres.out]; rfl, hx.trans hx2⟩
      | false =>
        have hres := Lib.hid (hnext hq)
        have HQ := Lib.hid hq
        clear hhit hnext hq
        go_wp2_with (go_at_fn g; refine HCALL.out.mono ?_; rw [HQ.out]; rintro e w2 ⟨rfl, hx2⟩)
        go_roundw
        case rel => exact ⟨k + 1, hlt, by go_num, hres.out, hx.trans hx2⟩
        case measure => simp [intOf]; omega
    · obtain rfl : k = n := by omega
      have hI : decide ((k : Int) < (k : Int)) = false := decide_eq_false (by omega)
      have hres : Hid (idxP p l = -1) := by
        show _ = _
        refine idxP_miss fun x hx => hall.out x ?_
        rw [List.take_of_length_le (by rw [HN.out]; exact Nat.le_refl _)]; exact hx
      go_wp2_with fail
      go_ret
      exact ⟨by rw [hres.out]; rfl, hx⟩

set_option maxRecDepth 100000 in
set_option maxHeartbeats 2000000 in
theorem hasV_any (w : World) (v : Value) (l : List (V)) (h : SetR w v l) (g : Nat) (cb : Array Value) (p : V → Bool) (eg : ∀ args w, (callFunc g args).run Tryz.prog w = .ok (.enter g args) w)
    (hc : ∀ (W : World) (x : V) , Ext w W → x ∈ l → Calls Tryz.prog g (#[.agg #[.int .i64 x.k, .int .i64 x.n, .string (strOf x.s), .bool x.b]] ++ cb) W fun e W' => e = .returned (.bool (p x)) ∧ Ext W W') :
    Calls Tryz.prog 103 #[v, .func (.func g) #[] cb] w fun e w' => e = .returned (.bool (l.any p)) ∧ Ext w w' := by
  have hcon := idxV_any w v l h g cb p eg hc
  have hb := Lib.hid (idxP_any p l)
  clear hc
  generalize idxP p l = i at *
  obtain ⟨a, cap, rfl, hcc, hm⟩ := Row.shape h
  go_enter Tryz.func103, Tryz.ntmps103
  go_wp2_with (go_at_call 133; refine hcon.mono ?_; rintro e w' ⟨rfl, hx⟩)
  go_ret
  exact ⟨by rw [hb.out]; rfl, hx⟩

end Go.Proofs.YtaklnpjpndkccaaGreat

namespace Go.Proofs.YtaklnpjpndkccaaGreat
open Go.RowKit

/-- A constraint's box: its seven cells. -/
structure CBox (W : World) (B : Nat) (c : C) (sa : Option Addr) (sc : Nat) : Prop where
  b : W.heap[B]? = some (.cells #[.string (strOf c.name), .int .i64 c.op, .int .i64 c.v.k, .int .i64 c.v.n, .string (strOf c.v.s), .bool c.v.b, .slice sa c.set.length sc] 94 (0, 0))
  s : SetR W (.slice sa c.set.length sc) c.set
theorem CBox.ext {W W' : World} {B : Nat} {c : C} {sa : Option Addr} {sc : Nat} (h : CBox W B c sa sc) (hx : Ext W W') : CBox W' B c sa sc :=
  ⟨by rw [hx.block B (Array.getElem?_eq_some_iff.1 h.b).1]; exact h.b, h.s.ext hx⟩
theorem CBox.cell {W : World} {B : Nat} {c : C} {sa : Option Addr} {sc : Nat} (h : CBox W B c sa sc) :
    W.cell? ⟨B, 0, none⟩ = some (.string (strOf c.name)) ∧ W.cell? ⟨B, 1, none⟩ = some (.int .i64 c.op) ∧ W.cell? ⟨B, 2, none⟩ = some (.int .i64 c.v.k) ∧ W.cell? ⟨B, 3, none⟩ = some (.int .i64 c.v.n) ∧ W.cell? ⟨B, 4, none⟩ = some (.string (strOf c.v.s)) ∧ W.cell? ⟨B, 5, none⟩ = some (.bool c.v.b) ∧ W.cell? ⟨B, 6, none⟩ = some (.slice sa c.set.length sc) :=
  ⟨cell_of_row W B 0 _ _ _ h.b, cell_of_row W B 1 _ _ _ h.b, cell_of_row W B 2 _ _ _ h.b, cell_of_row W B 3 _ _ _ h.b, cell_of_row W B 4 _ _ _ h.b, cell_of_row W B 5 _ _ _ h.b, cell_of_row W B 6 _ _ _ h.b⟩

theorem hasp_any (a b : List UInt8) (w : World) : Calls Tryz.prog 101 #[.string (strOf a), .string (strOf b)] w fun e w' => e = .returned (.bool (Lib.hasPrefix a b)) ∧ w = w' :=
  (Tryz.strings_HasPrefix (strOf a) (strOf b) w).mono fun _ _ ⟨he, hw⟩ => ⟨he, hw.symm⟩

theorem ent98 : ∀ args w, (callFunc 92 args).run Tryz.prog w = .ok (.enter 92 args) w := enters_of Tryz.func92 (by kernel_rfl) rfl
theorem ent99 : ∀ args w, (callFunc 93 args).run Tryz.prog w = .ok (.enter 93 args) w := enters_of Tryz.func93 (by kernel_rfl) rfl
theorem ent106 : ∀ args w, (callFunc 100 args).run Tryz.prog w = .ok (.enter 100 args) w := enters_of Tryz.func100 (by kernel_rfl) rfl
theorem ent108 : ∀ args w, (callFunc 102 args).run Tryz.prog w = .ok (.enter 102 args) w := enters_of Tryz.func102 (by kernel_rfl) rfl
theorem ent109 : ∀ args w, (callFunc 104 args).run Tryz.prog w = .ok (.enter 104 args) w := enters_of Tryz.func104 (by kernel_rfl) rfl
theorem ent110 : ∀ args w, (callFunc 105 args).run Tryz.prog w = .ok (.enter 105 args) w := enters_of Tryz.func105 (by kernel_rfl) rfl

/-- A test of a comparison. -/
def tst (q : Nat) (n : Int) : Bool := if q = 94 then decide (n = 0) else if q = 95 then !decide (n = 0) else if q = 96 then decide (n < 0) else if q = 97 then decide (n ≤ 0) else if q = 98 then decide (0 < n) else decide (0 ≤ n)
theorem beq_dec (n : Int) : (n == 0) = decide (n = 0) := by by_cases h : n = 0 <;> simp [h]
theorem tst_any (q : Nat) (hq : q = 94 ∨ q = 95 ∨ q = 96 ∨ q = 97 ∨ q = 98 ∨ q = 99) (n : Int) (w : World) : Calls Tryz.prog q #[.int .i64 n] w fun e w' => e = .returned (.bool (tst q n)) ∧ w = w' := by
  rcases hq with rfl | rfl | rfl | rfl | rfl | rfl
  · go_enter Tryz.func94, Tryz.ntmps94
    go_wp2
    go_ret
    exact ⟨by show _ = Ending.returned (.bool (decide (n = 0))); rw [← beq_dec]; rfl, rfl⟩
  · go_enter Tryz.func95, Tryz.ntmps95
    go_wp2
    go_ret
    exact ⟨by show _ = Ending.returned (.bool (!decide (n = 0))); rw [← beq_dec]; rfl, rfl⟩
  · go_enter Tryz.func96, Tryz.ntmps96
    go_wp2
    go_ret
    exact ⟨rfl, rfl⟩
  · go_enter Tryz.func97, Tryz.ntmps97
    go_wp2
    go_ret
    exact ⟨rfl, rfl⟩
  · go_enter Tryz.func98, Tryz.ntmps98
    go_wp2
    go_ret
    exact ⟨rfl, rfl⟩
  · go_enter Tryz.func99, Tryz.ntmps99
    go_wp2
    go_ret
    exact ⟨rfl, rfl⟩
theorem ent_tst (q : Nat) (hq : q = 94 ∨ q = 95 ∨ q = 96 ∨ q = 97 ∨ q = 98 ∨ q = 99) : ∀ args w, (callFunc q args).run Tryz.prog w = .ok (.enter q args) w := by
  rcases hq with rfl | rfl | rfl | rfl | rfl | rfl
  · exact enters_of Tryz.func94 (by kernel_rfl) rfl
  · exact enters_of Tryz.func95 (by kernel_rfl) rfl
  · exact enters_of Tryz.func96 (by kernel_rfl) rfl
  · exact enters_of Tryz.func97 (by kernel_rfl) rfl
  · exact enters_of Tryz.func98 (by kernel_rfl) rfl
  · exact enters_of Tryz.func99 (by kernel_rfl) rfl

set_option maxRecDepth 100000 in
set_option maxHeartbeats 2000000 in
/-- The comparing closure. -/
theorem asks98_any (w : World) (B F q : Nat) (c : C) (sa : Option Addr) (sc : Nat) (hb : CBox w B c sa sc) (hf : w.cell? ⟨F, 0, none⟩ = some (.func (.func q) #[] #[])) (hq : q = 94 ∨ q = 95 ∨ q = 96 ∨ q = 97 ∨ q = 98 ∨ q = 99) (k n : Int) (s : List UInt8) (b : Bool) :
    Calls Tryz.prog 92 #[.agg #[.int .i64 k, .int .i64 n, .string (strOf s), .bool b], .pointer (some ⟨B, 0, none⟩), .pointer (some ⟨F, 0, none⟩)] w
      fun e w' => e = .returned (.bool (decide (k = c.v.k) && tst q (cmpV ⟨k, n, s, b⟩ c.v))) ∧ Ext w w' := by
  have hx0 : Ext w (w.alloc (.cells #[.int .i64 k, .int .i64 n, .string (strOf s), .bool b] 80)) := (Ext.refl w).alloc _
  have hN : (w.alloc (.cells #[.int .i64 k, .int .i64 n, .string (strOf s), .bool b] 80)).heap[w.heap.size]? = some (.cells #[.int .i64 k, .int .i64 n, .string (strOf s), .bool b] 80 (0, 0)) := heap_alloc_new _ _
  have n0 := cell_of_row _ _ 0 _ _ _ hN
  have n1 := cell_of_row _ _ 1 _ _ _ hN
  have n2 := cell_of_row _ _ 2 _ _ _ hN
  have n3 := cell_of_row _ _ 3 _ _ _ hN
  obtain ⟨c0, c1, c2, c3, c4, c5, c6⟩ := (hb.ext hx0).cell
  have hf0 := hx0.cell hf
  have eq_ := ent_tst q hq
  by_cases hk : k = c.v.k
  · have e : (decide (k = c.v.k) && tst q (cmpV ⟨k, n, s, b⟩ c.v)) = tst q (cmpV ⟨k, n, s, b⟩ ⟨c.v.k, c.v.n, c.v.s, c.v.b⟩) := by rw [decide_eq_true hk]; rfl
    rw [e]
    clear e
    have hd : (k == c.v.k) = true := beq_iff_eq.2 hk
    clear hk hN c0 c1 c6
    go_enter Tryz.func92, Tryz.ntmps92
    go_upto_region 1 with fail
    generalize w.alloc (.cells #[.int .i64 k, .int .i64 n, .string (strOf s), .bool b] 80) = wa at *
    have hxd : Ext wa wa.drew := (Ext.refl wa).drew
    have m0 := hxd.cell n0
    have m1 := hxd.cell n1
    have m2 := hxd.cell n2
    have m3 := hxd.cell n3
    have d2 := hxd.cell c2
    have d3 := hxd.cell c3
    have d4 := hxd.cell c4
    have d5 := hxd.cell c5
    have df := hxd.cell hf0
    go_region_law (first | (go_simp; go_at_call 61; refine (compare_any _ _ _ _ _ _ _ _ _).mono ?_; rintro e w2 ⟨rfl, hx2⟩; have df2 := hx2.1.cell df) | (go_simp; go_at_fn q; refine (tst_any q hq _ _).mono ?_; rintro e w3 ⟨rfl, rfl⟩))
    all_goals
      go_wp2_with fail
      go_ret
      exact ⟨rfl, hx0.trans (hxd.trans hx2.1)⟩
  · have e : (decide (k = c.v.k) && tst q (cmpV ⟨k, n, s, b⟩ c.v)) = false := by rw [decide_eq_false hk]; rfl
    rw [e]
    clear e
    have hd : (k == c.v.k) = false := beq_eq_false_iff_ne.2 hk
    clear hk hN c0 c1 c6
    go_enter Tryz.func92, Tryz.ntmps92
    go_upto_region 1 with fail
    generalize w.alloc (.cells #[.int .i64 k, .int .i64 n, .string (strOf s), .bool b] 80) = wa at *
    go_quiet (fail)
    go_wp2_with fail
    go_ret
    exact ⟨rfl, hx0.drewN _⟩

set_option maxRecDepth 100000 in
set_option maxHeartbeats 2000000 in
/-- The prefix's closure. -/
theorem asks106_any (w : World) (B : Nat) (c : C) (sa : Option Addr) (sc : Nat) (hb : CBox w B c sa sc) (k n : Int) (s : List UInt8) (b : Bool) :
    Calls Tryz.prog 100 #[.agg #[.int .i64 k, .int .i64 n, .string (strOf s), .bool b], .pointer (some ⟨B, 0, none⟩)] w
      fun e w' => e = .returned (.bool (decide (k = 2) && (decide (c.v.k = 2) && Lib.hasPrefix s c.v.s))) ∧ Ext w w' := by
  have hx0 : Ext w (w.alloc (.cells #[.int .i64 k, .int .i64 n, .string (strOf s), .bool b] 80)) := (Ext.refl w).alloc _
  obtain ⟨c0, c1, c2, c3, c4, c5, c6⟩ := (hb.ext hx0).cell
  by_cases hk : k = 2
  · subst hk
    by_cases hk2 : c.v.k = 2
    · rw [hk2] at c2
      have e : (decide ((2 : Int) = 2) && (decide (c.v.k = 2) && Lib.hasPrefix s c.v.s)) = Lib.hasPrefix s c.v.s := by rw [decide_eq_true rfl, decide_eq_true hk2]; rfl
      rw [e]
      clear e hk2
      generalize c.v.s = t at *
      go_enter Tryz.func100, Tryz.ntmps100
      go_wp2_with (go_at_call 101; refine (hasp_any _ _ _).mono ?_; rintro e w' ⟨rfl, rfl⟩)
      go_ret
      exact ⟨rfl, hx0⟩
    · have e : (decide ((2 : Int) = 2) && (decide (c.v.k = 2) && Lib.hasPrefix s c.v.s)) = false := by rw [decide_eq_false hk2]; rfl
      rw [e]
      have hd : (c.v.k == 2) = false := beq_eq_false_iff_ne.2 hk2
      clear e hk2
      go_enter Tryz.func100, Tryz.ntmps100
      go_wp2_with fail
      go_ret
      exact ⟨rfl, hx0⟩
  · have e : (decide (k = 2) && (decide (c.v.k = 2) && Lib.hasPrefix s c.v.s)) = false := by rw [decide_eq_false hk]; rfl
    rw [e]
    have hd : (k == 2) = false := beq_eq_false_iff_ne.2 hk
    clear e hk
    go_enter Tryz.func100, Tryz.ntmps100
    go_wp2_with fail
    go_ret
    exact ⟨rfl, hx0⟩

set_option maxRecDepth 100000 in
set_option maxHeartbeats 2000000 in
/-- One of a set: the inner closure. -/
theorem asks109_any (w : World) (B : Nat) (v : V) (h0 : w.heap[B]? = some (.cells #[.int .i64 v.k, .int .i64 v.n, .string (strOf v.s), .bool v.b] 80 (0, 0))) (x : V) :
    Calls Tryz.prog 104 #[.agg #[.int .i64 x.k, .int .i64 x.n, .string (strOf x.s), .bool x.b], .pointer (some ⟨B, 0, none⟩)] w
      fun e w' => e = .returned (.bool (decide (cmpV v x = 0))) ∧ Ext w w' := by
  have hx0 : Ext w (w.alloc (.cells #[.int .i64 x.k, .int .i64 x.n, .string (strOf x.s), .bool x.b] 80)) := (Ext.refl w).alloc _
  have c0 := hx0.cell (cell_of_row w B 0 _ _ _ h0)
  have c1 := hx0.cell (cell_of_row w B 1 _ _ _ h0)
  have c2 := hx0.cell (cell_of_row w B 2 _ _ _ h0)
  have c3 := hx0.cell (cell_of_row w B 3 _ _ _ h0)
  have hres := Lib.hid (beq_dec (cmpV v x))
  have hcmp := fun W => compare_any W v.k v.n x.k x.n v.s x.s v.b x.b
  clear h0
  change ∀ W, Calls Tryz.prog 61 _ W fun e w' => e = .returned (.int .i64 (cmpV v x)) ∧ Grew W w' at hcmp
  generalize cmpV v x = r at *
  go_enter Tryz.func104, Tryz.ntmps104
  go_wp2_with (go_at_call 61; refine (hcmp _).mono ?_; rintro e w' ⟨rfl, hx⟩)
  go_ret
  exact ⟨by rw [← hres.out]; rfl, hx0.trans hx.1⟩

set_option maxRecDepth 100000 in
set_option maxHeartbeats 2000000 in
/-- One of a set. -/
theorem asks108_any (w : World) (B : Nat) (c : C) (sa : Option Addr) (sc : Nat) (hb : CBox w B c sa sc) (v : V) :
    Calls Tryz.prog 102 #[.agg #[.int .i64 v.k, .int .i64 v.n, .string (strOf v.s), .bool v.b], .pointer (some ⟨B, 0, none⟩)] w
      fun e w' => e = .returned (.bool (c.set.any fun x => decide (cmpV v x = 0))) ∧ Ext w w' := by
  have hx0 : Ext w (w.alloc (.cells #[.int .i64 v.k, .int .i64 v.n, .string (strOf v.s), .bool v.b] 80)) := (Ext.refl w).alloc _
  have hN : (w.alloc (.cells #[.int .i64 v.k, .int .i64 v.n, .string (strOf v.s), .bool v.b] 80)).heap[w.heap.size]? = some (.cells #[.int .i64 v.k, .int .i64 v.n, .string (strOf v.s), .bool v.b] 80 (0, 0)) := heap_alloc_new _ _
  obtain ⟨c0, c1, c2, c3, c4, c5, c6⟩ := (hb.ext hx0).cell
  have hs := hb.s.ext hx0
  have hcon := hasV_any _ _ _ hs 104 #[.pointer (some ⟨w.heap.size, 0, none⟩)] (fun x => decide (cmpV v x = 0)) ent109 (fun W x hx _ => asks109_any W w.heap.size v (by rw [hx.block _ (Array.getElem?_eq_some_iff.1 hN).1]; exact hN) x)
  clear hN hb hs c0 c1 c2 c3 c4 c5
  generalize (c.set.any fun x => decide (cmpV v x = 0)) = r at *
  go_enter Tryz.func102, Tryz.ntmps102
  go_wp2_with (go_at_call 103; refine hcon.mono ?_; rintro e w' ⟨rfl, hx⟩)
  go_ret
  exact ⟨rfl, hx0.trans hx⟩

/-- What pred.asks gives: a function that tells whether the constraint holds. -/
def AskEnd (w : World) (c : C) (e : Ending) (W : World) : Prop :=
  ∃ (g : Nat) (cb : Array Value), e = .returned (.func (.func g) #[] cb) ∧ (∀ args w, (callFunc g args).run Tryz.prog w = .ok (.enter g args) w) ∧ Ext w W ∧
    ∀ (W' : World) (v : V), Ext W W' → Calls Tryz.prog g (#[.agg #[.int .i64 v.k, .int .i64 v.n, .string (strOf v.s), .bool v.b]] ++ cb) W' fun e W2 => e = .returned (.bool (holdsC c v)) ∧ Ext W' W2

theorem holds_tst {c : C} {v : V} {q : Nat} (h : c.op = 2 ∧ q = 94 ∨ c.op = 3 ∧ q = 95 ∨ c.op = 4 ∧ q = 96 ∨ c.op = 5 ∧ q = 97 ∨ c.op = 6 ∧ q = 98 ∨ c.op = 7 ∧ q = 99) : holdsC c v = (decide (v.k = c.v.k) && tst q (cmpV v c.v)) := by
  unfold holdsC tst
  rcases h with ⟨h, rfl⟩ | ⟨h, rfl⟩ | ⟨h, rfl⟩ | ⟨h, rfl⟩ | ⟨h, rfl⟩ | ⟨h, rfl⟩ <;> rw [h] <;> by_cases hk : v.k = c.v.k <;> simp [hk]
theorem holds_pre {c : C} {v : V} (h : c.op = 8) : holdsC c v = (decide (v.k = 2) && (decide (c.v.k = 2) && Lib.hasPrefix v.s c.v.s)) := by
  unfold holdsC Lib.hasPrefix
  rw [h]
  by_cases h1 : v.k = 2
  · by_cases h2 : c.v.k = 2
    · simp [h1, h2]
    · have : ¬ v.k = c.v.k := by omega
      simp [h2]
      intro e; omega
  · by_cases h2 : v.k = c.v.k
    · simp only [if_pos h2]; rw [← h2]; simp [h1]
    · simp [h1, h2]

end Go.Proofs.YtaklnpjpndkccaaGreat

namespace Go.Proofs.YtaklnpjpndkccaaGreat
open Go.RowKit

set_option maxRecDepth 100000 in
set_option maxHeartbeats 4000000 in
theorem asks_any (w : World) (c : C) (sa : Option Addr) (sc : Nat) (hs : SetR w (.slice sa c.set.length sc) c.set) :
    Calls Tryz.prog 69 #[.agg #[.string (strOf c.name), .int .i64 c.op, .int .i64 c.v.k, .int .i64 c.v.n, .string (strOf c.v.s), .bool c.v.b, .slice sa c.set.length sc]] w (AskEnd w c) := by
  have hx0 : Ext w (w.alloc (.cells #[.string (strOf c.name), .int .i64 c.op, .int .i64 c.v.k, .int .i64 c.v.n, .string (strOf c.v.s), .bool c.v.b, .slice sa c.set.length sc] 94)) := (Ext.refl w).alloc _
  have hB : CBox (w.alloc (.cells #[.string (strOf c.name), .int .i64 c.op, .int .i64 c.v.k, .int .i64 c.v.n, .string (strOf c.v.s), .bool c.v.b, .slice sa c.set.length sc] 94)) w.heap.size c sa sc := ⟨heap_alloc_new _ _, hs.ext hx0⟩
  obtain ⟨c0, c1, c2, c3, c4, c5, c6⟩ := hB.cell
  clear c0 c2 c3 c4 c5 c6
  -- the comparing ones
  have hcmp : ∀ q, (q = 94 ∨ q = 95 ∨ q = 96 ∨ q = 97 ∨ q = 98 ∨ q = 99) → (∀ v, holdsC c v = (decide (v.k = c.v.k) && tst q (cmpV v c.v))) → ∀ (W : World) (F : Nat), Ext w W → CBox W w.heap.size c sa sc → W.cell? ⟨F, 0, none⟩ = some (.func (.func q) #[] #[]) → AskEnd w c (.returned (.func (.func 92) #[] #[.pointer (some ⟨w.heap.size, 0, none⟩), .pointer (some ⟨F, 0, none⟩)])) W := fun q hq hh W F hx hb hf =>
    ⟨92, _, rfl, ent98, hx, fun W' v hx' => by rw [hh v]; exact asks98_any W' w.heap.size F q c sa sc (hb.ext hx') (hx'.cell hf) hq v.k v.n v.s v.b⟩
  have HCMP := Lib.hid hcmp
  clear hcmp
  have hB0 := hB
  have hnew : ∀ q, Ext w ((w.alloc (.cells #[.string (strOf c.name), .int .i64 c.op, .int .i64 c.v.k, .int .i64 c.v.n, .string (strOf c.v.s), .bool c.v.b, .slice sa c.set.length sc] 94)).alloc (.cells #[.func (.func q) #[] #[]] 143)) ∧ CBox ((w.alloc (.cells #[.string (strOf c.name), .int .i64 c.op, .int .i64 c.v.k, .int .i64 c.v.n, .string (strOf c.v.s), .bool c.v.b, .slice sa c.set.length sc] 94)).alloc (.cells #[.func (.func q) #[] #[]] 143)) w.heap.size c sa sc ∧ ((w.alloc (.cells #[.string (strOf c.name), .int .i64 c.op, .int .i64 c.v.k, .int .i64 c.v.n, .string (strOf c.v.s), .bool c.v.b, .slice sa c.set.length sc] 94)).alloc (.cells #[.func (.func q) #[] #[]] 143)).cell? ⟨w.heap.size + 1, 0, none⟩ = some (.func (.func q) #[] #[]) := fun q =>
    ⟨hx0.alloc _, hB.ext ((Ext.refl _).alloc _), by have h := cell_of_row (_ : World) (_ : Nat) 0 _ _ _ (heap_alloc_new (w.alloc (.cells #[.string (strOf c.name), .int .i64 c.op, .int .i64 c.v.k, .int .i64 c.v.n, .string (strOf c.v.s), .bool c.v.b, .slice sa c.set.length sc] 94)) (.cells #[.func (.func q) #[] #[]] 143)); rw [World.size_alloc] at h; exact h⟩
  have HNEW := Lib.hid hnew
  clear hnew
  by_cases h1 : c.op = 1
  · have hh : ∀ v, holdsC c v = true := fun v => by unfold holdsC; rw [if_pos h1]
    have d1 : (c.op == 1) = true := beq_iff_eq.2 h1
    have HH := Lib.hid hh
    clear h1 hh
    go_enter Tryz.func69, Tryz.ntmps69
    go_wp2_with go_in
    go_ret
    refine ⟨93, #[], rfl, ent99, hx0, fun W' v _ => ?_⟩
    rw [HH.out v]
    clear HH HNEW HCMP hB hB0 c1 hs hx0
    go_enter Tryz.func93, Tryz.ntmps93
    go_wp2
    go_ret
    exact ⟨rfl, (Ext.refl _).alloc _⟩
  have d1 := beq_int_ne h1
  by_cases h2 : c.op = 2
  · have d2 : (c.op == 2) = true := beq_iff_eq.2 h2
    have HF := Lib.hid (HCMP.out 94 (by decide) (fun v => holds_tst (by simp [h2])) _ _ (HNEW.out 94).1 (HNEW.out 94).2.1 (HNEW.out 94).2.2)
    clear h2 
    go_enter Tryz.func69, Tryz.ntmps69
    go_wp2_with go_in
    go_ret
    exact HF.out
  have d2 := beq_int_ne h2
  by_cases h3 : c.op = 3
  · have d3 : (c.op == 3) = true := beq_iff_eq.2 h3
    have HF := Lib.hid (HCMP.out 95 (by decide) (fun v => holds_tst (by simp [h3])) _ _ (HNEW.out 95).1 (HNEW.out 95).2.1 (HNEW.out 95).2.2)
    clear h3 
    go_enter Tryz.func69, Tryz.ntmps69
    go_wp2_with go_in
    go_ret
    exact HF.out
  have d3 := beq_int_ne h3
  by_cases h4 : c.op = 4
  · have d4 : (c.op == 4) = true := beq_iff_eq.2 h4
    have HF := Lib.hid (HCMP.out 96 (by decide) (fun v => holds_tst (by simp [h4])) _ _ (HNEW.out 96).1 (HNEW.out 96).2.1 (HNEW.out 96).2.2)
    clear h4 
    go_enter Tryz.func69, Tryz.ntmps69
    go_wp2_with go_in
    go_ret
    exact HF.out
  have d4 := beq_int_ne h4
  by_cases h5 : c.op = 5
  · have d5 : (c.op == 5) = true := beq_iff_eq.2 h5
    have HF := Lib.hid (HCMP.out 97 (by decide) (fun v => holds_tst (by simp [h5])) _ _ (HNEW.out 97).1 (HNEW.out 97).2.1 (HNEW.out 97).2.2)
    clear h5 
    go_enter Tryz.func69, Tryz.ntmps69
    go_wp2_with go_in
    go_ret
    exact HF.out
  have d5 := beq_int_ne h5
  by_cases h6 : c.op = 6
  · have d6 : (c.op == 6) = true := beq_iff_eq.2 h6
    have HF := Lib.hid (HCMP.out 98 (by decide) (fun v => holds_tst (by simp [h6])) _ _ (HNEW.out 98).1 (HNEW.out 98).2.1 (HNEW.out 98).2.2)
    clear h6 
    go_enter Tryz.func69, Tryz.ntmps69
    go_wp2_with go_in
    go_ret
    exact HF.out
  have d6 := beq_int_ne h6
  by_cases h7 : c.op = 7
  · have d7 : (c.op == 7) = true := beq_iff_eq.2 h7
    have HF := Lib.hid (HCMP.out 99 (by decide) (fun v => holds_tst (by simp [h7])) _ _ (HNEW.out 99).1 (HNEW.out 99).2.1 (HNEW.out 99).2.2)
    clear h7 
    go_enter Tryz.func69, Tryz.ntmps69
    go_wp2_with go_in
    go_ret
    exact HF.out
  have d7 := beq_int_ne h7
  by_cases h8 : c.op = 8
  · have hh : ∀ v, holdsC c v = _ := fun v => holds_pre h8
    have d8 : (c.op == 8) = true := beq_iff_eq.2 h8
    have HH := Lib.hid hh
    clear h8 hh
    go_enter Tryz.func69, Tryz.ntmps69
    go_wp2_with go_in
    go_ret
    exact ⟨100, _, rfl, ent106, hx0, fun W' v hx' => by rw [HH.out v]; exact asks106_any W' w.heap.size c sa sc (hB0.ext hx') v.k v.n v.s v.b⟩
  have d8 := beq_int_ne h8
  by_cases h9 : c.op = 9
  · have hh : ∀ v, holdsC c v = c.set.any fun x => decide (cmpV v x = 0) := fun v => by unfold holdsC; rw [if_neg h1, if_pos h9]
    have d9 : (c.op == 9) = true := beq_iff_eq.2 h9
    have HH := Lib.hid hh
    clear h9 hh
    go_enter Tryz.func69, Tryz.ntmps69
    go_wp2_with go_in
    go_ret
    exact ⟨102, _, rfl, ent108, hx0, fun W' v hx' => by rw [HH.out v]; exact asks108_any W' w.heap.size c sa sc (hB0.ext hx') v⟩
  have d9 := beq_int_ne h9
  have hh : ∀ v, holdsC c v = false := fun v => by
    unfold holdsC
    rw [if_neg h1, if_neg h9]
    by_cases hk : v.k = c.v.k
    · rw [if_pos hk, if_neg h2, if_neg h3, if_neg h4, if_neg h5, if_neg h6, if_neg h7, if_neg h8]
    · rw [if_neg hk]
  have HH := Lib.hid hh
  clear h1 h2 h3 h4 h5 h6 h7 h8 h9 hh
  go_enter Tryz.func69, Tryz.ntmps69
  go_wp2_with go_in
  go_ret
  refine ⟨105, #[], rfl, ent110, hx0, fun W' v _ => ?_⟩
  rw [HH.out v]
  clear HH HNEW HCMP hB hB0 c1 hs hx0 d1 d2 d3 d4 d5 d6 d7 d8 d9
  go_enter Tryz.func105, Tryz.ntmps105
  go_wp2
  go_ret
  exact ⟨rfl, (Ext.refl _).alloc _⟩

end Go.Proofs.YtaklnpjpndkccaaGreat

namespace Go.Proofs.YtaklnpjpndkccaaGreat
open Go.RowKit

set_option maxRecDepth 100000 in
set_option maxHeartbeats 4000000 in
theorem pholds_any (w : World) (c : C) (sa : Option Addr) (sc : Nat) (hs : SetR w (.slice sa c.set.length sc) c.set) (v : V) :
    Calls Tryz.prog 39 #[.agg #[.string (strOf c.name), .int .i64 c.op, .int .i64 c.v.k, .int .i64 c.v.n, .string (strOf c.v.s), .bool c.v.b, .slice sa c.set.length sc], .agg #[.int .i64 v.k, .int .i64 v.n, .string (strOf v.s), .bool v.b]] w
      fun e w' => e = .returned (.bool (holdsC c v)) ∧ Ext w w' := by
  have hx0 : Ext w ((w.alloc (.cells #[.string (strOf c.name), .int .i64 c.op, .int .i64 c.v.k, .int .i64 c.v.n, .string (strOf c.v.s), .bool c.v.b, .slice sa c.set.length sc] 94)).alloc (.cells #[.int .i64 v.k, .int .i64 v.n, .string (strOf v.s), .bool v.b] 80)) := ((Ext.refl w).alloc _).alloc _
  have hN : ((w.alloc (.cells #[.string (strOf c.name), .int .i64 c.op, .int .i64 c.v.k, .int .i64 c.v.n, .string (strOf c.v.s), .bool c.v.b, .slice sa c.set.length sc] 94)).alloc (.cells #[.int .i64 v.k, .int .i64 v.n, .string (strOf v.s), .bool v.b] 80)).heap[w.heap.size + 1]? = some (.cells #[.int .i64 v.k, .int .i64 v.n, .string (strOf v.s), .bool v.b] 80 (0, 0)) := by
    have h := heap_alloc_new (w.alloc (.cells #[.string (strOf c.name), .int .i64 c.op, .int .i64 c.v.k, .int .i64 c.v.n, .string (strOf c.v.s), .bool c.v.b, .slice sa c.set.length sc] 94)) (.cells #[.int .i64 v.k, .int .i64 v.n, .string (strOf v.s), .bool v.b] 80)
    rw [World.size_alloc] at h; exact h
  have hB : CBox ((w.alloc (.cells #[.string (strOf c.name), .int .i64 c.op, .int .i64 c.v.k, .int .i64 c.v.n, .string (strOf c.v.s), .bool c.v.b, .slice sa c.set.length sc] 94)).alloc (.cells #[.int .i64 v.k, .int .i64 v.n, .string (strOf v.s), .bool v.b] 80)) w.heap.size c sa sc :=
    (CBox.mk (heap_alloc_new _ _) (hs.ext ((Ext.refl w).alloc _))).ext ((Ext.refl _).alloc _)
  go_enter Tryz.func39, Tryz.ntmps39
  go_upto_region 1 with fail
  generalize (w.alloc (.cells #[.string (strOf c.name), .int .i64 c.op, .int .i64 c.v.k, .int .i64 c.v.n, .string (strOf c.v.s), .bool c.v.b, .slice sa c.set.length sc] 94)).alloc (.cells #[.int .i64 v.k, .int .i64 v.n, .string (strOf v.s), .bool v.b] 80) = wa at *
  have hxd : Ext wa wa.drew := (Ext.refl wa).drew
  obtain ⟨c0, c1, c2, c3, c4, c5, c6⟩ := (hB.ext hxd).cell
  have hsd := hB.s.ext hxd
  have n0 := hxd.cell (cell_of_row _ _ 0 _ _ _ hN)
  have n1 := hxd.cell (cell_of_row _ _ 1 _ _ _ hN)
  have n2 := hxd.cell (cell_of_row _ _ 2 _ _ _ hN)
  have n3 := hxd.cell (cell_of_row _ _ 3 _ _ _ hN)
  clear hN hB
  go_region_law (first | (go_simp; go_at_call 69; refine (asks_any _ c sa sc hsd).mono ?_; rintro e w2 ⟨g, cb, rfl, eg, hx2, hcl⟩; have m0 := hx2.cell n0; have m1 := hx2.cell n1; have m2 := hx2.cell n2; have m3 := hx2.cell n3) | (go_simp; go_at_fn g; refine (hcl _ v (Ext.refl _)).mono ?_; rintro e w3 ⟨rfl, hx3⟩))
  all_goals
    go_wp2_with fail
    go_ret
    exact ⟨rfl, hx0.trans (hxd.trans (hx2.trans hx3))⟩

theorem ent113 : ∀ args w, (callFunc 68 args).run Tryz.prog w = .ok (.enter 68 args) w := enters_of Tryz.func68 (by kernel_rfl) rfl
theorem ent56 : ∀ args w, (callFunc 37 args).run Tryz.prog w = .ok (.enter 37 args) w := enters_of Tryz.func37 (by kernel_rfl) rfl

/-- What event.Get answers. -/
def getV (l : List (List UInt8 × V)) (name : List UInt8) : V × Bool := match getE l name with | some v => (v, true) | none => (⟨0, 0, [], false⟩, false)

set_option maxRecDepth 100000 in
set_option maxHeartbeats 2000000 in
theorem get113_any (w : World) (B : Nat) (name : List UInt8) (h0 : w.cell? ⟨B, 0, none⟩ = some (.string (strOf name))) (x : List UInt8 × V) :
    Calls Tryz.prog 68 #[.agg #[.string (strOf x.1), .int .i64 x.2.k, .int .i64 x.2.n, .string (strOf x.2.s), .bool x.2.b], .pointer (some ⟨B, 0, none⟩)] w
      fun e w' => e = .returned (.bool (decide (x.1 = name))) ∧ Ext w w' := by
  have hx0 : Ext w (w.alloc (.cells #[.string (strOf x.1), .int .i64 x.2.k, .int .i64 x.2.n, .string (strOf x.2.s), .bool x.2.b] 82)) := (Ext.refl w).alloc _
  have c0 := hx0.cell h0
  by_cases h : x.1 = name
  · have hd : (x.1 == name) = true := beq_iff_eq.2 h
    rw [decide_eq_true h]
    clear h h0
    go_enter Tryz.func68, Tryz.ntmps68
    go_wp2
    go_ret
    exact ⟨rfl, hx0⟩
  · have hd : (x.1 == name) = false := beq_eq_false_iff_ne.2 h
    have hne : ¬ strOf x.1 = strOf name := fun e => h (strOf_inj.1 e)
    rw [decide_eq_false h]
    clear h h0
    go_enter Tryz.func68, Tryz.ntmps68
    go_wp2
    go_ret
    exact ⟨rfl, hx0⟩

end Go.Proofs.YtaklnpjpndkccaaGreat

namespace Go.Proofs.YtaklnpjpndkccaaGreat
open Go.RowKit

theorem info80s : (Tryz.prog.info? 80).map (·.size) = some 4 := by kernel_rfl

set_option maxRecDepth 100000 in
set_option maxHeartbeats 4000000 in
theorem get_any (w : World) (key name : List UInt8) (va : Value) (l : List (List UInt8 × V)) (h : AttrR w va l) :
    Calls Tryz.prog 38 #[.agg #[.string (strOf key), va], .string (strOf name)] w
      fun e w' => e = .returned (.tuple #[.agg #[.int .i64 (getV l name).1.k, .int .i64 (getV l name).1.n, .string (strOf (getV l name).1.s), .bool (getV l name).1.b], .bool (getV l name).2]) ∧ Ext w w' := by
  obtain ⟨aa, ca, rfl, hca, hma⟩ := Row.shape h
  unfold maxLen at hma
  have hx0 : Ext w (((w.alloc (.cells #[.string (strOf key), .slice aa l.length ca] 47)).alloc (.cells #[.string (strOf name)] 9)).alloc (.cells #[.int .i64 0, .int .i64 0, .string ⟨#[]⟩, .bool false] 80)) := (((Ext.refl w).alloc _).alloc _).alloc _
  have h1 : (((w.alloc (.cells #[.string (strOf key), .slice aa l.length ca] 47)).alloc (.cells #[.string (strOf name)] 9)).alloc (.cells #[.int .i64 0, .int .i64 0, .string ⟨#[]⟩, .bool false] 80)).cell? ⟨w.heap.size + 1, 0, none⟩ = some (.string (strOf name)) := by
    refine ((Ext.refl _).alloc _).cell ?_
    have h := cell_of_row _ _ 0 _ _ _ (heap_alloc_new (w.alloc (.cells #[.string (strOf key), .slice aa l.length ca] 47)) (.cells #[.string (strOf name)] 9))
    rw [World.size_alloc] at h
    exact h
  have h2 : (((w.alloc (.cells #[.string (strOf key), .slice aa l.length ca] 47)).alloc (.cells #[.string (strOf name)] 9)).alloc (.cells #[.int .i64 0, .int .i64 0, .string ⟨#[]⟩, .bool false] 80)).heap[w.heap.size + 1 + 1]? = some (.cells #[.int .i64 0, .int .i64 0, .string ⟨#[]⟩, .bool false] 80 (0, 0)) := by
    have := heap_alloc_new ((w.alloc (.cells #[.string (strOf key), .slice aa l.length ca] 47)).alloc (.cells #[.string (strOf name)] 9)) (.cells #[.int .i64 0, .int .i64 0, .string ⟨#[]⟩, .bool false] 80)
    rw [World.size_alloc, World.size_alloc] at this
    exact this
  have h3 : (((w.alloc (.cells #[.string (strOf key), .slice aa l.length ca] 47)).alloc (.cells #[.string (strOf name)] 9)).alloc (.cells #[.int .i64 0, .int .i64 0, .string ⟨#[]⟩, .bool false] 80)).cell? ⟨w.heap.size, 1, none⟩ = some (.slice aa l.length ca) := by
    exact (((Ext.refl _).alloc _).alloc _).cell (cell_of_row _ _ 1 _ _ _ (heap_alloc_new w (.cells #[.string (strOf key), .slice aa l.length ca] 47)))
  generalize hG : getV l name = G at *
  have HG := Lib.hid hG
  clear hG
  go_enter Tryz.func38, Tryz.ntmps38
  go_wp2_with fail
  have hla := h.ext hx0
  have hcl : ∀ (W : World) (x : List UInt8 × V), Ext (((w.alloc (.cells #[.string (strOf key), .slice aa l.length ca] 47)).alloc (.cells #[.string (strOf name)] 9)).alloc (.cells #[.int .i64 0, .int .i64 0, .string ⟨#[]⟩, .bool false] 80)) W → x ∈ l → Calls Tryz.prog 68 (#[.agg #[.string (strOf x.1), .int .i64 x.2.k, .int .i64 x.2.n, .string (strOf x.2.s), .bool x.2.b]] ++ #[.pointer (some ⟨w.heap.size + 1, 0, none⟩)]) W fun e W' => e = .returned (.bool (decide (x.1 = name))) ∧ Ext W W' :=
    fun W x hx _ => get113_any W (w.heap.size + 1) name (hx.cell h1) x
  refine (idxA_any _ _ l hla 68 #[.pointer (some ⟨w.heap.size + 1, 0, none⟩)] (fun x => decide (x.1 = name)) ent113 hcl).mono ?_
  rintro e w2 ⟨rfl, hx2⟩
  have hg := idxP_get (fun x : List UInt8 × V => decide (x.1 = name)) l
  have hB4 : w2.heap[w.heap.size + 1 + 1]? = some (.cells #[.int .i64 0, .int .i64 0, .string ⟨#[]⟩, .bool false] 80 (0, 0)) := by rw [hx2.block _ (Array.getElem?_eq_some_iff.1 h2).1]; exact h2
  have h32 := hx2.cell h3
  have hl2 := hla.ext hx2
  have hxw := hx0.trans hx2
  have HB4 := Lib.hid hB4
  clear hcl hla h1 h2 h3 hx2 hx0 hB4 h
  generalize idxP (fun x : List UInt8 × V => decide (x.1 = name)) l = ix at *
  rcases hg with ⟨rfl, hf⟩ | ⟨i, hi, rfl, hf⟩
  · have hgv : G = (⟨0, 0, [], false⟩, false) := by rw [← HG.out]; unfold getV getE; rw [hf]; rfl
    subst hgv
    clear hf
    go_wp2_with (refine wpList_store_whole 80 (.tmp 4) (.tmp 13) rfl rfl (w.heap.size + 1 + 1) rfl #[.int .i64 0, .int .i64 0, .string ⟨#[]⟩, .bool false] rfl _ 80 HB4.out rfl info80s (by simp [Value.oneCell']) ?_)
    have hR := setRow_heap _ _ _ #[.int .i64 0, .int .i64 0, .string ⟨#[]⟩, .bool false] _ _ HB4.out
    have r0 := cell_of_row _ _ 0 _ _ _ hR
    have r1 := cell_of_row _ _ 1 _ _ _ hR
    have r2 := cell_of_row _ _ 2 _ _ _ hR
    have r3 := cell_of_row _ _ 3 _ _ _ hR
    refine bodyPost_ret (v := .tuple #[.agg #[.int .i64 0, .int .i64 0, .string (strOf []), .bool false], .bool false]) (by simp [results, Tryz.results38, go_sem, r0, r1, r2, r3]; rfl) rfl ⟨rfl, hxw.setRow (by omega) _⟩
  · have hgv : G = (l[i].2, true) := by rw [← HG.out]; unfold getV getE; rw [hf]; rfl
    obtain ⟨B1, o1, rfl, f0, f1, f2, f3, f4⟩ := AttrR.at hl2 hi
    generalize l[i] = x at *
    subst hgv
    have hI : decide ((i : Int) < 0) = false := decide_eq_false (by omega)
    clear hf
    go_wp2_with (refine wpList_store_whole 80 (.tmp 4) (.tmp 19) rfl rfl (w.heap.size + 1 + 1) rfl #[.int .i64 x.2.k, .int .i64 x.2.n, .string (strOf x.2.s), .bool x.2.b] rfl _ 80 HB4.out rfl info80s (by simp [Value.oneCell']) ?_)
    have hR := setRow_heap _ _ _ #[.int .i64 x.2.k, .int .i64 x.2.n, .string (strOf x.2.s), .bool x.2.b] _ _ HB4.out
    have r0 := cell_of_row _ _ 0 _ _ _ hR
    have r1 := cell_of_row _ _ 1 _ _ _ hR
    have r2 := cell_of_row _ _ 2 _ _ _ hR
    have r3 := cell_of_row _ _ 3 _ _ _ hR
    refine bodyPost_ret (v := .tuple #[.agg #[.int .i64 x.2.k, .int .i64 x.2.n, .string (strOf x.2.s), .bool x.2.b], .bool true]) (by simp [results, Tryz.results38, go_sem, r0, r1, r2, r3]) rfl ⟨rfl, hxw.setRow (by omega) _⟩
end Go.Proofs.YtaklnpjpndkccaaGreat
