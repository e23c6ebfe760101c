/- The rule of rows (K12) where the region ends in a chain (K7). -/
import Derived.Test.YtdfnfmanpdafpaaDoorK12
import Derived.Test.YtdfnfmanpdafpaaDoorK7
import Derived.Maps.AppendAt
namespace Go.Proofs.YtdfnfmanpdafpaaDoor.Rr
open Go.RowKit

section
variable {P : Program}

theorem region_chain {ops : Array Oper} {m : Nat} {T : Plan} {a0 : Act} {D : List (List (Nat × Tmp))} {E : List (Nat × Tmp)} {Q : Exit → Act → World → Prop}
    (hok : opsOk ops a0.tmps.size 0 (ops.toList.take m) D = true) (hms : m ≤ ops.size)
    (hE : ((E.all fun p => decide (p.1 < m) && dstOf ops p.1 == some p.2) && (List.range m).all fun j => match dstOf ops j with | some _ => E.any fun p => p.1 == j | none => true) = true)
    (hc : chainOk ops m = true) (hord : ∀ i o, ops[i]? = some o → ∀ e ∈ o.after, Region.binds .any e = true → e.on < i)
    (hst : ∀ i j, i < ops.size → j < ops.size → i ≠ j → ∀ v w w', T.R j w w' → T.F i v w → T.F i v w')
    (hsg : ∀ i j, i < ops.size → j < ops.size → i ≠ j → ∀ w w', T.R j w w' → T.G i w → T.G i w')
    (hsj : ∀ j w w', T.R j w w' → T.J w → T.J w')
    (hob : Obs P ops T a0 0 (ops.toList.take m) D)
    (hend : ∀ w, T.J w → (∀ j, m ≤ j → j < ops.size → T.G j w) → depsThen T.F w E a0 (fun a => wpList P ops Q (ops.toList.drop m) a w)) :
    ∀ (fuel : Nat) (listed : Array Bool) (a : Act) (w : World), listed.count false = fuel → (∀ j, m ≤ j → listed.getD j false = false) → Inv ops T a0 listed a w → wpAny P .any ops Q fuel listed a w := by
  have hget : ∀ {i o}, i < m → ops[i]? = some o → (ops.toList.take m)[i]? = some o := fun {i o} hi h => by
    rw [List.getElem?_take, if_pos hi]; simpa using h
  have hall : ∀ {i o}, i < m → ops[i]? = some o → opOk ops a0.tmps.size i o (D.getD i []) = true := fun {i o} hi h => by
    have := opsOk_get hok i o (hget hi h); simpa using this
  have hobs : ∀ {i o}, i < m → ops[i]? = some o → Ob P ops T a0 i o (D.getD i []) := fun {i o} hi h => by
    have := Obs_get hob i o (hget hi h); simpa using this
  -- all ahead of the chain are listed: the chain
  have fin : ∀ (fuel : Nat) (listed : Array Bool) (a : Act) (w : World), m + fuel = ops.size → (∀ j, j < m → listed.getD j false = true) → (∀ j, m ≤ j → listed.getD j false = false) → Inv ops T a0 listed a w → wpAny P .any ops Q fuel listed a w := by
    intro fuel listed a w hf hl hno hI
    simp only [Bool.and_eq_true] at hE
    obtain ⟨c, hk, hc1, hc2, hc3⟩ := depsThen_at a _ E a0 hI.ts.symm (fun p hp => by
      have hd := List.all_eq_true.1 hE.1 p hp
      simp only [Bool.and_eq_true, decide_eq_true_eq, beq_iff_eq] at hd
      have := hI.fact p.1 (by omega) (hl p.1 hd.1)
      simp only [hd.2] at this
      exact this) (hend w hI.ext fun j h1 h2 => hI.pre j h2 (hno j h1))
    have : c = a := by
      obtain ⟨ct, cd⟩ := c
      obtain ⟨at', ad⟩ := a
      have e2 : cd = ad := hc2.trans hI.df.symm
      have e1 : ct = at' := by
        apply Array.ext_getElem?
        intro s
        refine tmps_ext (a := ⟨ct, cd⟩) (b := ⟨at', ad⟩) hc1 ?_
        rw [hc3]
        split
        · rfl
        · rename_i hn
          refine (hI.old s fun j hj => ?_).symm
          rcases Nat.lt_or_ge j m with hjm | hjm
          · exfalso
            have h2 := List.all_eq_true.1 hE.2 j (List.mem_range.2 hjm)
            simp only [hj, List.any_eq_true, beq_iff_eq] at h2
            obtain ⟨p, hp, hpj⟩ := h2
            have hd := List.all_eq_true.1 hE.1 p hp
            simp only [Bool.and_eq_true, decide_eq_true_eq, beq_iff_eq] at hd
            have hd2 := hd.2
            rw [hpj, hj] at hd2
            exact hn ⟨p, hp, (Option.some.inj hd2).symm⟩
          · exact hno j hjm
      rw [e1, e2]
    rw [← this]
    exact chain_any hc hord fuel m listed c w (Nat.le_refl _) hf hI.size hl hno hI.down hk
  have hready_lt : ∀ (listed : Array Bool) (a : Act) (w : World), (∀ j, m ≤ j → listed.getD j false = false) → Inv ops T a0 listed a w → (¬ ∀ j, j < m → listed.getD j false = true) → ∀ i ∈ Region.ready .any ops listed, i < m := by
    intro listed a w hno hI hnot i hi
    obtain ⟨_, o, ho, _⟩ := mem_ready.1 hi
    have his : i < ops.size := (Array.getElem?_eq_some_iff.1 ho).1
    rcases Nat.lt_or_ge i m with h' | h'
    · exact h'
    · exfalso
      have hr := chain_reach hc hI.down his h' (waits_of_ready hi)
      exact hnot fun j hj => hr j (by omega)
  have hcount : ∀ (listed : Array Bool), listed.size = ops.size → (∀ j, j < m → listed.getD j false = true) → (∀ j, m ≤ j → listed.getD j false = false) → m + listed.count false = ops.size := by
    intro listed hs hl hno
    have e : listed = (List.replicate m true ++ List.replicate (ops.size - m) false).toArray := by
      apply Array.ext
      · simp; omega
      · intro j h1 h2
        have hj : j < listed.size := h1
        rcases Nat.lt_or_ge j m with hjm | hjm
        · have := hl j hjm
          simp [hj] at this
          rw [this]
          simp [hjm]
        · have := hno j hjm
          simp [hj] at this
          rw [this]
          have : ¬ j < m := by omega
          simp [List.getElem_append, this]
    rw [e]
    simp [List.count_append, List.count_replicate]
    omega
  intro fuel
  induction fuel with
  | zero =>
    intro listed a w hc0 hno hI
    by_cases hl : ∀ j, j < m → listed.getD j false = true
    · exact fin 0 listed a w (by have := hcount listed hI.size hl hno; omega) hl hno hI
    · exfalso
      apply hl
      intro j hj
      have hj' : j < listed.size := by rw [hI.size]; omega
      have := Array.count_eq_zero.1 hc0
      have h2 : listed[j] ≠ false := fun e => this (e ▸ Array.getElem_mem hj')
      simp [hj']; simpa using h2
  | succ fuel ih =>
    intro listed a w hcn hno hI
    by_cases hl : ∀ j, j < m → listed.getD j false = true
    · exact fin (fuel + 1) listed a w (by have := hcount listed hI.size hl hno; omega) hl hno hI
    refine ⟨fun hr => ?_, fun i hi => ?_⟩
    · exfalso
      apply hl
      intro j
      induction j using Nat.strongRecOn with
      | _ j ihj =>
        intro hjm
        have hj : j < ops.size := by omega
        cases hlj : listed.getD j false with
        | true => rfl
        | false =>
          exfalso
          have ho : ops[j]? = some ops[j] := by simp [hj]
          have hmem : j ∈ Region.ready .any ops listed := by
            refine mem_ready.2 ⟨?_, ops[j], ho, fun e he hb => ?_⟩
            · have : j < listed.size := by rw [hI.size]; exact hj
              simp [this] at hlj ⊢; exact hlj
            · have := hord j _ ho e he hb
              exact ihj e.on this (by omega)
          rw [hr] at hmem
          cases hmem
    have him := hready_lt listed a w hno hI hl i hi
    obtain ⟨h0, o, ho, hafter⟩ := mem_ready.1 hi
    have hil : i < ops.size := (Array.getElem?_eq_some_iff.1 ho).1
    have hil' : i < listed.size := hI.size ▸ hil
    have h0' : listed.getD i false = false := by simp [hil'] at h0 ⊢; exact h0
    have hopk := hall him ho
    simp only [opOk, Bool.and_eq_true] at hopk
    obtain ⟨⟨⟨⟨hk1, hk2⟩, hk3⟩, hk4⟩, hk5⟩ := hopk
    have hdep2 : ∀ p ∈ D.getD i [], waits ops i p.1 = true ∧ dstOf ops p.1 = some p.2 := fun p hp => by
      have := List.all_eq_true.1 hk3 p hp
      simpa using this
    have hdeps : ∀ p ∈ D.getD i [], listed.getD p.1 false = true := fun p hp => waits_of_ready hi p.1 (hdep2 p hp).1
    have hsel : ∀ cs b, o.op ≠ .select cs b := by intro cs b e; rw [e] at hk2; cases hk2
    have hjlt : ∀ j, listed.getD j false = true → j < ops.size := fun j hj => by
      rcases Nat.lt_or_ge j listed.size with h' | h'
      · exact hI.size ▸ h'
      · simp [Array.getElem?_eq_none h'] at hj
    obtain ⟨c, hk, hc1, hc2, hc3⟩ := depsThen_at a _ (D.getD i []) a0 hI.ts.symm (fun p hp => by
      have := hI.fact p.1 (hjlt p.1 (hdeps p hp)) (hdeps p hp)
      simp only [(hdep2 p hp).2] at this
      exact this) (hobs him ho w hI.ext (hI.pre i hil h0'))
    have same : ∀ s ∈ o.looksAt ops, c.tmps[s]? = a.tmps[s]? := by
      intro s hs
      refine tmps_ext hc1 ?_
      rw [hc3]
      split
      · rfl
      · rename_i hn
        refine (hI.old s fun j hj => ?_).symm
        have hjl : j < ops.size := by
          unfold dstOf at hj
          rcases Nat.lt_or_ge j ops.size with h' | h'
          · exact h'
          · rw [Array.getElem?_eq_none h'] at hj; cases hj
        have h1 := List.all_eq_true.1 (List.all_eq_true.1 hk5 s hs) j (List.mem_range.2 hjl)
        simp only [Bool.or_eq_true, bne_iff_ne, ne_eq, beq_iff_eq] at h1
        rcases h1 with ((h1 | h1) | h1) | h1
        · exact absurd hj h1
        · exfalso
          rw [List.any_eq_true] at h1
          obtain ⟨p, hp, hpj⟩ := h1
          have hd := (hdep2 p hp).2
          rw [eq_of_beq hpj, hj] at hd
          exact hn ⟨p, hp, (Option.some.inj hd).symm⟩
        · rw [h1]; exact h0'
        · cases hlj : listed.getD j false with
          | false => rfl
          | true => have := hI.down j hlj i h1; rw [h0'] at this; cases this
    have heval : execOp c.eval o = execOp a.eval o := execOp_congr o hsel fun x hx => by
      cases x with
      | tmp t =>
        have := same t (List.mem_append_left _ (List.mem_filterMap.2 ⟨.tmp t, by simpa using hx, rfl⟩))
        simp [Act.eval, this]
      | _ => rfl
    have hwant : Region.wanted o (yielded ops c.tmps) = Region.wanted o (yielded ops a.tmps) := by
      unfold Region.wanted
      cases hg : o.guard with
      | none => rfl
      | some gw =>
        obtain ⟨g, want⟩ := gw
        have hy : yielded ops c.tmps g = yielded ops a.tmps g := by
          unfold yielded
          cases ht : (ops[g]?).bind (·.dst) with
          | none => rfl
          | some t =>
            have := same t (by simp [Oper.looksAt, hg, ht])
            simp [this]
        simp only [hy]
    have next : ∀ v w', T.R i w w' → T.F i (match o.dst with | some d => (c.put o.dst v).tmps.getD d undef | none => undef) w' →
        wpAny P .any ops Q fuel (listed.setIfInBounds i true) (a.put o.dst v) w' := by
      intro v w' hx hF
      have hdst : dstOf ops i = o.dst := by simp [dstOf, ho]
      refine ih _ _ _ ?_ ?_ ⟨by simpa using hI.size, by rw [put_size]; exact hI.ts, by rw [put_defers]; exact hI.df, ?_, ?_, ?_, ?_, hsj i _ _ hx hI.ext⟩
      · have hset : listed.setIfInBounds i true = listed.set i true hil' := by simp [Array.setIfInBounds, hil']
        rw [hset, Array.count_set]
        have : listed[i] = false := by simpa [hil'] using h0'
        simp [this]; omega
      · intro j hj
        rw [getD_set_ne false (by omega)]; exact hno j hj
      · intro s hs
        have hne : o.dst ≠ some s := fun e => by
          have := hs i (hdst.trans e)
          simp [hil'] at this
        rw [put_getD_ne _ hne]
        refine hI.old s fun j hj => ?_
        by_cases hji : i = j
        · rw [← hji]; exact h0'
        · have := hs j hj
          rwa [getD_set_ne false hji] at this
      · intro j hj hlj
        by_cases hji : i = j
        · subst hji
          rw [hdst]
          cases hd : o.dst with
          | none => simp only [hd] at hF; exact hF
          | some d =>
            simp only [hd] at hF hk1
            simp only [Bool.and_eq_true, decide_eq_true_eq] at hk1
            rw [put_getD_eq _ (by rw [hc1, hI.ts]; exact hk1.1)] at hF
            show T.F i ((a.put (some d) v).tmps.getD d undef) w'
            rw [put_getD_eq _ (by rw [hI.ts]; exact hk1.1)]
            exact hF
        · rw [getD_set_ne false hji] at hlj
          have hfj := hst j i hj hil (fun e => hji e.symm) _ _ _ hx (hI.fact j hj hlj)
          cases hdj : dstOf ops j with
          | none => simp only [hdj] at hfj; exact hfj
          | some d =>
            simp only [hdj] at hfj
            have hne : o.dst ≠ some d := fun e => by
              rw [e] at hk1
              simp only [Bool.and_eq_true] at hk1
              have := List.all_eq_true.1 hk1.2 j (List.mem_range.2 hj)
              simp [hdj, Ne.symm hji] at this
            show T.F j ((a.put o.dst v).tmps.getD d undef) w'
            rw [put_getD_ne _ hne]
            exact hfj
      · intro j hlj k hw
        by_cases hji : i = j
        · subst hji; exact getD_set_true (waits_of_ready hi k hw)
        · rw [getD_set_ne false hji] at hlj
          exact getD_set_true (hI.down j hlj k hw)
      · intro j hj hlj
        by_cases hji : i = j
        · subst hji; simp [hil'] at hlj
        · rw [getD_set_ne false hji] at hlj
          exact hsg j i hj hil (fun e => hji e.symm) _ _ hx (hI.pre j hj hlj)
    unfold wpOp
    rw [ho]
    simp only []
    rw [← hwant]
    simp only [wpList] at hk
    split
    · rename_i hw
      rw [if_pos hw] at hk
      rcases hk with hk | ⟨_, x, y, hxy⟩
      · refine .inl ?_
        unfold Oper.wp at hk ⊢
        rw [heval] at hk
        generalize (execOp a.eval o).run P w = r at *
        cases r with
        | ok n w' =>
          cases n <;> simp only [Oper.upon] at hk ⊢
          case value u => exact next u w' hk.2.1 hk.2.2.2
          case skip => exact next undef w' hk.2.1 hk.2.2.2
          case defer d =>
            have := hk.2.2.1
            rw [put_defers] at this
            exact absurd this (by simp)
          case enter f args =>
            refine Calls.mono hk fun e w'' he => ?_
            cases e with
            | returned u => exact next u w'' he.2.1 he.2.2.2
            | panicked c => exact absurd he.1 (by simp)
            | outgrown => obtain ⟨_, _, h⟩ := he; exact absurd h.1 (by simp)
          case row row args => exact Rows.mono hk fun u w'' he => next u w'' he.2.1 he.2.2.2
        | halt x w' =>
          cases x <;> simp only [Oper.upon] at hk ⊢
          case panic u => exact absurd hk.1 (by simp)
      · exact absurd hxy.1 (by simp)
    · rename_i hw
      rw [if_neg hw] at hk
      exact next undef w hk.2.1 hk.2.2.2

end

section
variable {P : Program}
theorem wp_region_rows_chain {id : Nat} {l : List Oper} (m : Nat) (rows : List (Option Nat)) (Fs Gs : List FactB) (D : List (List (Nat × Tmp))) (E : List (Nat × Tmp)) {a0 : Act} {w0 : World} {Q : Exit → Act → World → Prop}
    (hm : P.follows .mixedOrders = true)
    (hok : (opsOk l.toArray a0.tmps.size 0 (l.take m) D && decide (m ≤ l.length) && ((E.all fun p => decide (p.1 < m) && dstOf l.toArray p.1 == some p.2) && (List.range m).all fun j => match dstOf l.toArray j with | some _ => E.any fun p => p.1 == j | none => true) && chainOk l.toArray m && ordOk l.toArray) = true)
    (hcf : calm rows 0 Fs) (hcg : calm rows 0 Gs) (hg : ∀ f ∈ Gs, f.p undef w0.drew)
    (hob : Obs P l.toArray (plan rows Fs Gs w0) a0 0 (l.take m) D)
    (hend : ∀ w, Buts rows w0 w → (∀ j, m ≤ j → j < l.length → (Gs.getD j FactB.any).p undef w) → depsThen (plan rows Fs Gs w0).F w E a0 (fun a => wpList P l.toArray Q (l.drop m) a w)) :
    (Code.region id l.toArray true).wp P Q a0 w0 := by
  simp only [Bool.and_eq_true] at hok
  obtain ⟨⟨⟨⟨k1, k2⟩, k3⟩, k4⟩, k5⟩ := hok
  have hno : ∀ j, (Array.replicate l.toArray.size false).getD j false = false := fun j => by
    simp only [Array.getD_eq_getD_getElem?, Array.getElem?_replicate]; split <;> rfl
  refine wp_region_any hm (region_chain (m := m) (T := plan rows Fs Gs w0) (D := D) (E := E) k1 (by simpa using k2) (by simp only [Bool.and_eq_true]; exact k3) k4 ?_ (fun i j _ _ hij v w w' hx h => ?_) (fun i j _ _ hij w w' hx h => ?_) (fun j w w' hx h => ?_) hob (fun w hJ hG => hend w hJ fun j h1 h2 => hG j h1 (by simpa using h2)) _ _ _ _ ?_ (fun j _ => hno j) ?_)
  · intro i o ho e he hb
    have hi : i < l.toArray.size := (Array.getElem?_eq_some_iff.1 ho).1
    have h1 := List.all_eq_true.1 k5 i (List.mem_range.2 hi)
    simp only [ho] at h1
    have h2 := (Array.all_eq_true_iff_forall_mem.1 h1) e he
    simpa [hb] using h2
  · exact (Fs.getD i FactB.any).st _ (calm_get hcf i j (by omega)) v w w' hx h
  · exact (Gs.getD i FactB.any).st _ (calm_get hcg i j (by omega)) undef w w' hx h
  · have hx : w.grownBy w' (rows.getD j none) := hx
    refine ⟨hx.os.trans h.os, hx.tape.trans h.tape, hx.output.trans h.output, Nat.le_trans h.size hx.size, fun k hk hn => (hx.block k (Nat.lt_of_lt_of_le hk h.size) (fun e => ?_)).trans (h.block k hk hn)⟩
    rw [List.getD_eq_getElem?_getD] at e
    cases hj : rows[j]? with
    | none => rw [hj] at e; cases e
    | some r => rw [hj] at e; exact hn (e ▸ List.mem_of_getElem? hj)
  · simp
  · refine ⟨by simp, rfl, rfl, fun _ _ => rfl, fun j _ h => (by rw [hno] at h; cases h), fun j h => (by rw [hno] at h; cases h), fun j _ _ => ?_, ⟨rfl, rfl, rfl, Nat.le_refl _, fun _ _ _ => rfl⟩⟩
    show (Gs.getD j FactB.any).p undef w0.drew
    rw [List.getD_eq_getElem?_getD]
    cases hj : Gs[j]? with
    | none => trivial
    | some f => exact hg f (List.mem_of_getElem? hj)
end

section
variable {P : Program}
/-- append behind a row of the call's own: and where the new row lies. -/
theorem wpList_append_rowA {ops : Array Oper} {Q : Exit → Act → World → Prop} {a : Act} {w : World} {rest : List Oper} {o : Oper}
    (t e : TypeId) (s x : Operand) (ho : o.op = .call { callee := .builtin .append, args := #[s, x], argTypes := #[t, t] })
    (base : Nat) (z : Value) (size bytes : Nat) (ht : P.underlying t = some (.slice e)) (hi : (P.info? e).map (fun i => (i.zero, i.size, i.bytes)) = some (some z, size, bytes))
    (hzs : z.cells.size = size) (hsz : 0 < size)
    (hw : Region.wanted o (yielded ops a.tmps) = true)
    (v : Value) (n : Nat) (xs : List Value) (hs : a.eval s = v) (hown : w.ownsRow base e size v n xs)
    (m : Nat) (news : List Value) (hx : Row w size (a.eval x) m news) (h1 : ∀ u ∈ news, u.oneCell' = true)
    (hbytes : (n + m) * bytes ≤ 140737488355328) (h63 : n + m ≤ maxLen) (hbase : base ≤ w.heap.size)
    (h : ∀ v' w', w'.ownsRow base e size v' (n + m) (xs ++ news) → w.grownBy w' v.ownBlock → (v'.ownBlock = v.ownBlock ∨ v'.ownBlock = some w.heap.size) → wpList P ops Q rest (a.put o.dst v') w') : wpList P ops Q (o :: rest) a w := by
  obtain ⟨i, hi1, hi2, hi3, hi4⟩ := info_parts hi
  obtain ⟨hl, ad, cap, hv, hc, hm, hnil, hspot, hcell⟩ := hx
  have hexec : ∀ r : Result Value, (Builtin.append_ #[t, t] o.type #[v, a.eval x]).run P w = r → (execOp a.eval o).run P w = r.andThen fun y w' => .ok (.value y) w' := by
    intro r hr
    simp only [execOp, ho, resolve, invoke, builtin, Sem.run_bind, Sem.run_pure, Result.andThen_ok, List.map_toArray, List.map_cons, List.map_nil, hs, hr]
  cases ad with
  | none =>
    have hc0 : cap = 0 := hnil rfl
    subst hc0
    have hm0 : m = 0 := by omega
    subst hm0
    have hn0 : news = [] := List.eq_nil_of_length_eq_zero (by simpa using hl)
    subst hn0
    have hr := run_append_owned_none (P := P) (w := w) base t o.type e i size ht hi1 v n xs hown
    rw [← hv] at hr
    refine wpList_val hw (hexec _ hr) ?_
    have := h v w (by simpa using hown) (World.grownBy.refl w _) (.inl rfl)
    exact this
  | some p =>
    obtain ⟨v', w', hr, ho', hg, _, hat⟩ := run_append_own_at (P := P) w base t o.type e i z size bytes ht hi1 hi2 hi3 hi4 hzs hsz v n xs hown p m cap news hl (fun j u hj => by
      obtain ⟨p', hp', hcl⟩ := hcell j u hj
      simp at hp'; subst hp'
      have hps := hspot _ rfl (by
        have hjl : j < news.length := by
          rcases Nat.lt_or_ge j news.length with h' | h'
          · exact h'
          · rw [List.getElem?_eq_none h'] at hj; cases hj
        rcases Nat.eq_zero_or_pos m with h' | h'
        · subst h'; simp at hl; subst hl; simp at hjl
        · omega)
      have : p.add j = ⟨p.block, p.off + j, none⟩ := by
        obtain ⟨pb, po, ps⟩ := p
        simp only at hps; subst hps
        unfold Addr.add; split <;> simp_all
      rw [this]; exact hcl) h1 h63 hbytes hbase
    rw [← hv] at hr
    exact wpList_val hw (hexec _ hr) (h v' w' ho' hg hat)
end
end Go.Proofs.YtdfnfmanpdafpaaDoor.Rr
