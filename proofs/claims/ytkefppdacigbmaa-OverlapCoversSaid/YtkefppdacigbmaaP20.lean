/- As K7, where one operation (a box that is made) may come up at any time until the chain is all but done.
A range over a function: its record, its rounds (a body that may leave by a return), and what stays beside.
Boxes of regions that a drawn region makes.
The names of either of both, and what both ask of them: asked. (Printed by a program.)
The iterator over the names of either of both (asked's second closure). -/
import Derived.RangeFuncNested
import Derived.RangeFuncBound
import Derived.RangeFuncCalls
import Derived.RangeFuncLeaves
import Derived.Shelf.Abstract
import Derived.Shelf.RegionOpen
import Derived.WalkKit
import Derived.OwnWalkIn
import Derived.TacticsInMore
import Derived.LoopNIn
import Derived.LoopIn
import Derived.Laws.EntriesVeiled
import Derived.Test.YtkefppdacigbmaaP19
import Derived.Test.YtkefppdacigbmaaP12
import Derived.Test.YtkefppdacigbmaaP14
import Derived.Test.YtkefppdacigbmaaP15
import Derived.Test.YtkefppdacigbmaaP17
import Derived.Test.YtkefppdacigbmaaP4
namespace Go.Proofs.Ytkefppdacigbmaa
open Go.RowKit

section
variable {P : Program}

theorem s_step {ops : Array Oper} {F : Nat → Value → World → Prop} {a0 : Act} {w0 : World} {Q : Exit → Act → World → Prop} {fuel : Nat} {listed : Array Bool} {a : Act} {w : World} {i : Nat} {o : Oper} (Di : List (Nat × Tmp))
    (hi : i ∈ Region.ready .any ops listed) (ho : ops[i]? = some o) (hopk : opOk ops a0.tmps.size i o Di = true) (hob : Ob P ops F a0 w0 i o Di)
    (hst : ∀ i v w w', Ext w w' → F i v w → F i v w') (hI : Inv ops F a0 w0 listed a w)
    (next' : ∀ v w', Inv ops F a0 w0 (listed.setIfInBounds i true) (a.put o.dst v) w' → wpAny P .any ops Q fuel (listed.setIfInBounds i true) (a.put o.dst v) w') :
    wpOp P ops Q i (wpAny P .any ops Q fuel (listed.setIfInBounds i true)) a w := by
  obtain ⟨h0, o', ho', hafter⟩ := mem_ready.1 hi
  obtain rfl : o = o' := by rw [ho] at ho'; exact Option.some.inj ho'
  have hil : i < ops.size := (Array.getElem?_eq_some_iff.1 ho).1
  have hil' : i < listed.size := hI.size ▸ hil
  have h0' : listed.getD i false = false := by simp [hil'] at h0 ⊢; exact h0
  simp only [opOk, Bool.and_eq_true] at hopk
  obtain ⟨⟨⟨⟨hk1, hk2⟩, hk3⟩, hk4⟩, hk5⟩ := hopk
  have hdep2 : ∀ p ∈ Di, waits ops i p.1 = true ∧ dstOf ops p.1 = some p.2 := fun p hp => by
    have := List.all_eq_true.1 hk3 p hp
    simpa using this
  have hdeps : ∀ p ∈ Di, listed.getD p.1 false = true := fun p hp => waits_of_ready hi p.1 (hdep2 p hp).1
  have hsel : ∀ cs b, o.op ≠ .select cs b := by intro cs b e; rw [e] at hk2; cases hk2
  have hjlt : ∀ j, listed.getD j false = true → j < ops.size := fun j hj => by
    rcases Nat.lt_or_ge j listed.size with h' | h'
    · exact hI.size ▸ h'
    · simp [Array.getElem?_eq_none h'] at hj
  obtain ⟨c, hk, hc1, hc2, hc3⟩ := depsThen_at a _ (Di) a0 hI.ts.symm (fun p hp => by
    have := hI.fact p.1 (hjlt p.1 (hdeps p hp)) (hdeps p hp)
    simp only [(hdep2 p hp).2] at this
    exact this) (hob w hI.ext)
  have same : ∀ s ∈ o.looksAt ops, c.tmps[s]? = a.tmps[s]? := by
    intro s hs
    refine tmps_ext hc1 ?_
    rw [hc3]
    split
    · rfl
    · rename_i hn
      refine (hI.old s fun j hj => ?_).symm
      have hjl : j < ops.size := by
        unfold dstOf at hj
        rcases Nat.lt_or_ge j ops.size with h' | h'
        · exact h'
        · rw [Array.getElem?_eq_none h'] at hj; cases hj
      have h1 := List.all_eq_true.1 (List.all_eq_true.1 hk5 s hs) j (List.mem_range.2 hjl)
      simp only [Bool.or_eq_true, bne_iff_ne, ne_eq, beq_iff_eq] at h1
      rcases h1 with ((h1 | h1) | h1) | h1
      · exact absurd hj h1
      · exfalso
        rw [List.any_eq_true] at h1
        obtain ⟨p, hp, hpj⟩ := h1
        have hd := (hdep2 p hp).2
        rw [eq_of_beq hpj, hj] at hd
        exact hn ⟨p, hp, (Option.some.inj hd).symm⟩
      · rw [h1]; exact h0'
      · cases hlj : listed.getD j false with
        | false => rfl
        | true => have := hI.down j hlj i h1; rw [h0'] at this; cases this
  have heval : execOp c.eval o = execOp a.eval o := execOp_congr o hsel fun x hx => by
    cases x with
    | tmp t =>
      have := same t (List.mem_append_left _ (List.mem_filterMap.2 ⟨.tmp t, by simpa using hx, rfl⟩))
      simp [Act.eval, this]
    | _ => rfl
  have hwant : Region.wanted o (yielded ops c.tmps) = Region.wanted o (yielded ops a.tmps) := by
    unfold Region.wanted
    cases hg : o.guard with
    | none => rfl
    | some gw =>
      obtain ⟨g, want⟩ := gw
      have hy : yielded ops c.tmps g = yielded ops a.tmps g := by
        unfold yielded
        cases ht : (ops[g]?).bind (·.dst) with
        | none => rfl
        | some t =>
          have := same t (by simp [Oper.looksAt, hg, ht])
          simp [this]
      simp only [hy]
  have next : ∀ v w', Ext w w' → F i (match o.dst with | some d => (c.put o.dst v).tmps.getD d undef | none => undef) w' →
      wpAny P .any ops Q fuel (listed.setIfInBounds i true) (a.put o.dst v) w' := by
    intro v w' hx hF
    have hdst : dstOf ops i = o.dst := by simp [dstOf, ho]
    refine next' v w' ⟨by simpa using hI.size, by rw [put_size]; exact hI.ts, by rw [put_defers]; exact hI.df, ?_, ?_, ?_, hI.ext.trans hx⟩
    · intro s hs
      have hne : o.dst ≠ some s := fun e => by
        have := hs i (hdst.trans e)
        simp [hil'] at this
      rw [put_getD_ne _ hne]
      refine hI.old s fun j hj => ?_
      by_cases hji : i = j
      · rw [← hji]; exact h0'
      · have := hs j hj
        rwa [getD_set_ne false hji] at this
    · intro j hj hlj
      by_cases hji : i = j
      · subst hji
        rw [hdst]
        cases hd : o.dst with
        | none => simp only [hd] at hF; exact hF
        | some d =>
          simp only [hd] at hF hk1
          simp only [Bool.and_eq_true, decide_eq_true_eq] at hk1
          rw [put_getD_eq _ (by rw [hc1, hI.ts]; exact hk1.1)] at hF
          show F i ((a.put (some d) v).tmps.getD d undef) w'
          rw [put_getD_eq _ (by rw [hI.ts]; exact hk1.1)]
          exact hF
      · rw [getD_set_ne false hji] at hlj
        have hfj := hst _ _ _ _ hx (hI.fact j hj hlj)
        cases hdj : dstOf ops j with
        | none => simp only [hdj] at hfj; exact hfj
        | some d =>
          simp only [hdj] at hfj
          have hne : o.dst ≠ some d := fun e => by
            rw [e] at hk1
            simp only [Bool.and_eq_true] at hk1
            have := List.all_eq_true.1 hk1.2 j (List.mem_range.2 hj)
            simp [hdj, Ne.symm hji] at this
          show F j ((a.put o.dst v).tmps.getD d undef) w'
          rw [put_getD_ne _ hne]
          exact hfj
    · intro j hlj k hw
      by_cases hji : i = j
      · subst hji; exact getD_set_true (waits_of_ready hi k hw)
      · rw [getD_set_ne false hji] at hlj
        exact getD_set_true (hI.down j hlj k hw)
  unfold wpOp
  rw [ho]
  simp only []
  rw [← hwant]
  simp only [wpList] at hk
  split
  · rename_i hw
    rw [if_pos hw] at hk
    rcases hk with hk | ⟨_, x, y, hxy⟩
    · refine .inl ?_
      unfold Oper.wp at hk ⊢
      rw [heval] at hk
      generalize (execOp a.eval o).run P w = r at *
      cases r with
      | ok n w' =>
        cases n <;> simp only [Oper.upon] at hk ⊢
        case value u => exact next u w' hk.2.1 hk.2.2.2
        case skip => exact next undef w' hk.2.1 hk.2.2.2
        case defer d =>
          have := hk.2.2.1
          rw [put_defers] at this
          exact absurd this (by simp)
        case enter f args =>
          refine Calls.mono hk fun e w'' he => ?_
          cases e with
          | returned u => exact next u w'' he.2.1 he.2.2.2
          | panicked c => exact absurd he.1 (by simp)
          | outgrown => obtain ⟨_, _, h⟩ := he; exact absurd h.1 (by simp)
        case row row args => exact Rows.mono hk fun u w'' he => next u w'' he.2.1 he.2.2.2
      | halt x w' =>
        cases x <;> simp only [Oper.upon] at hk ⊢
        case panic u => exact absurd hk.1 (by simp)
    · exact absurd hxy.1 (by simp)
  · rename_i hw
    rw [if_neg hw] at hk
    exact next undef w hk.2.1 hk.2.2.2

theorem count_put {listed : Array Bool} {i n : Nat} (h : i < listed.size) (h0 : listed.getD i false = false) (hn : listed.count false = n + 1) : (listed.setIfInBounds i true).count false = n := by
  have hset : listed.setIfInBounds i true = listed.set i true h := by simp [Array.setIfInBounds, h]
  rw [hset, Array.count_set]
  have : listed[i] = false := by simpa [h] using h0
  simp [this]; omega

theorem count_upto {listed : Array Bool} {m : Nat} (hms : m ≤ listed.size) (hl : ∀ j, j < m → listed.getD j false = true) (hno : ∀ j, m ≤ j → listed.getD j false = false) : m + listed.count false = listed.size := by
  have e : listed = (List.replicate m true ++ List.replicate (listed.size - m) false).toArray := by
    apply Array.ext
    · simp; omega
    · intro j h1 h2
      have hj : j < listed.size := h1
      rcases Nat.lt_or_ge j m with hjm | hjm
      · have := hl j hjm
        simp [hj] at this
        rw [this]
        simp [hjm]
      · have := hno j hjm
        simp [hj] at this
        rw [this]
        have : ¬ j < m := by omega
        simp [List.getElem_append, this]
  conv => lhs; rw [e]
  simp [List.count_append, List.count_replicate]
  omega

theorem step_op {ops : Array Oper} {Q : Exit → Act → World → Prop} {fuel : Nat} {listed : Array Bool} {a : Act} {w : World} {k : Nat} {o : Oper} {rest : List Oper} (ho : ops[k]? = some o) (h : wpList P ops Q (o :: rest) a w)
    (next : ∀ a w, wpList P ops Q rest a w → wpAny P .any ops Q fuel (listed.setIfInBounds k true) a w) : wpOp P ops Q k (wpAny P .any ops Q fuel (listed.setIfInBounds k true)) a w := by
  unfold wpOp
  rw [ho]
  simp only []
  simp only [wpList] at h
  split
  · rename_i hw
    rw [if_pos hw] at h
    exact h.imp (Oper.wp_mono next) id
  · rename_i hw
    rw [if_neg hw] at h
    exact next _ _ h

theorem deps_act {ops : Array Oper} {F : Nat → Value → World → Prop} {a0 : Act} {w0 : World} {listed : Array Bool} {a : Act} {w : World} {E : List (Nat × Tmp)} {k : Act → Prop} (hI : Inv ops F a0 w0 listed a w)
    (hE : ∀ p ∈ E, p.1 < ops.size ∧ dstOf ops p.1 = some p.2 ∧ listed.getD p.1 false = true) (hn : ∀ j s, dstOf ops j = some s → (∀ p ∈ E, p.1 ≠ j) → listed.getD j false = false)
    (h : depsThen F w E a0 k) : k a := by
  obtain ⟨c, hk, hc1, hc2, hc3⟩ := depsThen_at a _ E a0 hI.ts.symm (fun p hp => by
    have hd := hE p hp
    have := hI.fact p.1 hd.1 hd.2.2
    simp only [hd.2.1] at this
    exact this) h
  have : c = a := by
    obtain ⟨ct, cd⟩ := c
    obtain ⟨at', ad⟩ := a
    have e2 : cd = ad := hc2.trans hI.df.symm
    have e1 : ct = at' := by
      apply Array.ext_getElem?
      intro s
      refine tmps_ext (a := ⟨ct, cd⟩) (b := ⟨at', ad⟩) hc1 ?_
      rw [hc3]
      split
      · rfl
      · rename_i hne
        refine (hI.old s fun j hj => hn j s hj fun p hp e => hne ⟨p, hp, ?_⟩).symm
        have := (hE p hp).2.1
        rw [e, hj] at this
        exact (Option.some.inj this).symm
    rw [e1, e2]
  rw [← this]; exact hk

/-- From m on each operation but m + 1 waits for all ahead of it (m + 1 aside, as to m); those behind m + 1 for that one too. -/
def lateOk (ops : Array Oper) (m : Nat) : Bool :=
  ((List.range m).all fun j => (List.range (m + 1)).any fun k => decide (j < k) && waits ops k j) &&
  ((List.range ops.size).all fun i => i < m + 2 || (waits ops i (m + 1) && waits ops i m))

theorem region_late {ops : Array Oper} {m dx : Nat} {om ox : Oper} {F : Nat → Value → World → Prop} {a0 : Act} {w0 : World} {D : List (List (Nat × Tmp))} {E : List (Nat × Tmp)} {Q : Exit → Act → World → Prop}
    (hok : opsOk ops a0.tmps.size 0 (ops.toList.take m) D = true) (hms : m + 2 ≤ ops.size) (hom : ops[m]? = some om) (hox : ops[m + 1]? = some ox) (hokx : opOk ops a0.tmps.size (m + 1) ox [] = true) (hdx : dstOf ops (m + 1) = some dx)
    (hE : ((E.all fun p => decide (p.1 < m) && dstOf ops p.1 == some p.2) && (List.range m).all fun j => match dstOf ops j with | some _ => E.any fun p => p.1 == j | none => true) = true)
    (hc : chainOk ops (m + 2) = true) (hlate : lateOk ops m = true) (hord : ∀ i o, ops[i]? = some o → ∀ e ∈ o.after, Region.binds .any e = true → e.on < i) (hordm : ∀ o, ops[m + 1]? = some o → ∀ e ∈ o.after, Region.binds .any e = true → False) (hordn : waits ops m (m + 1) = false)
    (hst : ∀ i v w w', Ext w w' → F i v w → F i v w')
    (hob : Obs P ops F a0 w0 0 (ops.toList.take m) D) (hobx : Ob P ops F a0 w0 (m + 1) ox [])
    (hendA : ∀ w, Ext w0 w → depsThen F w (E ++ [(m + 1, dx)]) a0 (fun a => wpList P ops Q (om :: ops.toList.drop (m + 2)) a w))
    (hendB : ∀ w, Ext w0 w → depsThen F w E a0 (fun a => wpList P ops Q (om :: ox :: ops.toList.drop (m + 2)) a w)) :
    ∀ (fuel : Nat) (listed : Array Bool) (a : Act) (w : World), listed.count false = fuel → (∀ j, m ≤ j → j ≠ m + 1 → listed.getD j false = false) → Inv ops F a0 w0 listed a w → wpAny P .any ops Q fuel listed a w := by
  have hget : ∀ {i o}, i < m → ops[i]? = some o → (ops.toList.take m)[i]? = some o := fun {i o} hi h => by
    rw [List.getElem?_take, if_pos hi]; simpa using h
  have hall : ∀ {i o}, i < m → ops[i]? = some o → opOk ops a0.tmps.size i o (D.getD i []) = true := fun {i o} hi h => by
    have := opsOk_get hok i o (hget hi h); simpa using this
  have hobs : ∀ {i o}, i < m → ops[i]? = some o → Ob P ops F a0 w0 i o (D.getD i []) := fun {i o} hi h => by
    have := Obs_get hob i o (hget hi h); simpa using this
  simp only [lateOk, Bool.and_eq_true] at hlate
  have hEE : ∀ p ∈ E, p.1 < m ∧ dstOf ops p.1 = some p.2 := fun p hp => by
    simp only [Bool.and_eq_true] at hE
    have hd := List.all_eq_true.1 hE.1 p hp
    simpa using hd
  have hEn : ∀ j s, j < m → dstOf ops j = some s → ∃ p ∈ E, p.1 = j := fun j s hj hd => by
    simp only [Bool.and_eq_true] at hE
    have h2 := List.all_eq_true.1 hE.2 j (List.mem_range.2 hj)
    simp only [hd, List.any_eq_true, beq_iff_eq] at h2
    exact h2
  have hlate1 : ∀ i, m + 2 ≤ i → i < ops.size → waits ops i (m + 1) = true ∧ waits ops i m = true := fun i h1 h2 => by
    have := List.all_eq_true.1 hlate.2 i (List.mem_range.2 h2)
    simp only [Bool.or_eq_true, decide_eq_true_eq, Bool.and_eq_true] at this
    rcases this with h | h
    · omega
    · exact h
  -- m waits, by way of others, for all ahead
  have hreach : ∀ (listed : Array Bool), (∀ j, listed.getD j false = true → ∀ i, waits ops j i = true → listed.getD i false = true) → (∀ j, waits ops m j = true → listed.getD j false = true) → ∀ j, j < m → listed.getD j false = true := by
    intro listed down hd
    have key : ∀ d j, m - j = d → j < m → listed.getD j false = true := by
      intro d
      induction d using Nat.strongRecOn with
      | _ d ih =>
        intro j hd' hj
        have h1 := List.all_eq_true.1 hlate.1 j (List.mem_range.2 hj)
        obtain ⟨k, hk, hk2⟩ := List.any_eq_true.1 h1
        simp only [Bool.and_eq_true, decide_eq_true_eq] at hk2
        have hki := List.mem_range.1 hk
        by_cases he : k = m
        · subst he; exact hd j hk2.2
        · exact down k (ih (m - k) (by omega) k rfl (by omega)) j hk2.2
    intro j hj
    exact key _ j rfl hj
  have hready_of : ∀ (listed : Array Bool) (a : Act) (w : World) (i : Nat) (o : Oper), Inv ops F a0 w0 listed a w → ops[i]? = some o → listed.getD i false = false → (∀ e ∈ o.after, Region.binds .any e = true → listed.getD e.on false = true) → i ∈ Region.ready .any ops listed := by
    intro listed a w i o hI ho h0 hall
    have hi : i < ops.size := (Array.getElem?_eq_some_iff.1 ho).1
    have : i < listed.size := by rw [hI.size]; exact hi
    refine mem_ready.2 ⟨?_, o, ho, hall⟩
    simp [this] at h0 ⊢; exact h0
  -- behind m + 1: the chain
  have tail : ∀ (fuel : Nat) (listed : Array Bool) (a : Act) (w : World), listed.size = ops.size → listed.count false = fuel → (∀ j, j < m + 2 → listed.getD j false = true) → (∀ j, m + 2 ≤ j → listed.getD j false = false) →
      (∀ j, listed.getD j false = true → ∀ i, waits ops j i = true → listed.getD i false = true) → wpList P ops Q (ops.toList.drop (m + 2)) a w → wpAny P .any ops Q fuel listed a w := by
    intro fuel listed a w hs hcn hl hno hdn h
    refine chain_any hc hord fuel (m + 2) listed a w (Nat.le_refl _) ?_ hs hl hno hdn h
    have := count_upto (by rw [hs]; exact hms) hl hno
    omega
  have hput : ∀ (listed : Array Bool) (i j : Nat), i < listed.size → (listed.setIfInBounds i true).getD j false = if i = j then true else listed.getD j false := by
    intro listed i j hi
    by_cases e : i = j
    · subst e; simp [hi]
    · rw [getD_set_ne false e, if_neg e]
  have hdown : ∀ (listed : Array Bool) (i : Nat), i < listed.size → (∀ j, listed.getD j false = true → ∀ i, waits ops j i = true → listed.getD i false = true) → (∀ j, waits ops i j = true → listed.getD j false = true) → ∀ j, (listed.setIfInBounds i true).getD j false = true → ∀ k, waits ops j k = true → (listed.setIfInBounds i true).getD k false = true := by
    intro listed i hi hdn hw j hj k hk
    rw [hput _ _ _ hi] at hj ⊢
    split
    · rfl
    · by_cases e : i = j
      · subst e; exact hw k hk
      · rw [if_neg e] at hj; exact hdn j hj k hk
  intro fuel
  induction fuel with
  | zero =>
    intro listed a w hc0 hno hI
    exfalso
    have h1 := hno m (Nat.le_refl _) (by omega)
    have hm' : m < listed.size := by rw [hI.size]; omega
    have := Array.count_eq_zero.1 hc0
    simp [hm'] at h1
    exact this (h1 ▸ Array.getElem_mem hm')
  | succ fuel ih =>
    intro listed a w hcn hno hI
    have hm' : m < listed.size := by rw [hI.size]; omega
    have hx' : m + 1 < listed.size := by rw [hI.size]; omega
    -- an operation by its facts
    have facts : ∀ i, i ∈ Region.ready .any ops listed → (i < m ∨ i = m + 1) → wpOp P ops Q i (wpAny P .any ops Q fuel (listed.setIfInBounds i true)) a w := by
      intro i hi him
      obtain ⟨h0, o, ho, _⟩ := mem_ready.1 hi
      have his : i < listed.size := by rw [hI.size]; exact (Array.getElem?_eq_some_iff.1 ho).1
      have h0' : listed.getD i false = false := by simp [his] at h0 ⊢; exact h0
      have nx : ∀ v w', Inv ops F a0 w0 (listed.setIfInBounds i true) (a.put o.dst v) w' → wpAny P .any ops Q fuel (listed.setIfInBounds i true) (a.put o.dst v) w' := fun v w' hI' => by
        refine ih _ _ _ (count_put his h0' hcn) (fun j hj hjx => ?_) hI'
        rw [hput _ _ _ his, if_neg (by omega)]; exact hno j hj hjx
      rcases him with him | him
      · exact s_step _ hi ho (hall him ho) (hobs him ho) hst hI nx
      · subst him
        obtain rfl : ox = o := by rw [hox] at ho; exact Option.some.inj ho
        exact s_step _ hi ho hokx hobx hst hI nx
    by_cases hl : ∀ j, j < m → listed.getD j false = true
    · have hmr : m ∈ Region.ready .any ops listed := hready_of listed a w m om hI hom (hno m (Nat.le_refl _) (by omega)) fun e he hb => hl _ (hord m _ hom e he hb)
      refine ⟨fun hr => absurd hmr (by rw [hr]; exact List.not_mem_nil), fun i hi => ?_⟩
      obtain ⟨h0, o, ho, _⟩ := mem_ready.1 hi
      have his : i < ops.size := (Array.getElem?_eq_some_iff.1 ho).1
      have hil : i < listed.size := by rw [hI.size]; exact his
      have h0' : listed.getD i false = false := by simp [hil] at h0 ⊢; exact h0
      by_cases hix : i = m + 1
      · exact facts i hi (.inr hix)
      · have him : i = m := by
          rcases Nat.lt_trichotomy i m with h | h | h
          · rw [hl i h] at h0'; cases h0'
          · exact h
          · exfalso
            have := waits_of_ready hi m (hlate1 i (by omega) his).2
            rw [hno m (Nat.le_refl _) (by omega)] at this; cases this
        subst him
        obtain rfl : om = o := by rw [hom] at ho; exact Option.some.inj ho
        have hdn1 := hdown listed i hil hI.down (waits_of_ready hi)
        cases hx : listed.getD (i + 1) false with
        | true =>
          have h := deps_act hI (E := E ++ [(i + 1, dx)]) (fun p hp => by
            rcases List.mem_append.1 hp with hp | hp
            · have := hEE p hp; exact ⟨by omega, this.2, hl p.1 this.1⟩
            · rw [List.mem_singleton.1 hp]; exact ⟨by show i + 1 < _; omega, hdx, hx⟩) (fun j s hj hne => by
            rcases Nat.lt_or_ge j i with h | h
            · obtain ⟨p, hp, e⟩ := hEn j s h hj
              exact absurd e (hne p (List.mem_append_left _ hp))
            · refine hno j h fun e => ?_
              exact hne (i + 1, dx) (List.mem_append_right _ (List.mem_singleton.2 rfl)) e.symm) (hendA w hI.ext)
          refine step_op ho h fun a' w' h' => tail fuel _ a' w' (by simpa using hI.size) (count_put hil h0' hcn) (fun j hj => ?_) (fun j hj => ?_) hdn1 h'
          · rw [hput _ _ _ hil]; split
            · rfl
            · by_cases e : j = i + 1
              · subst e; exact hx
              · exact hl j (by omega)
          · rw [hput _ _ _ hil, if_neg (by omega)]; exact hno j (by omega) (by omega)
        | false =>
          have h := deps_act hI (E := E) (fun p hp => by have := hEE p hp; exact ⟨by omega, this.2, hl p.1 this.1⟩) (fun j s hj hne => by
            rcases Nat.lt_or_ge j i with h | h
            · obtain ⟨p, hp, e⟩ := hEn j s h hj
              exact absurd e (hne p hp)
            · by_cases e : j = i + 1
              · subst e; exact hx
              · exact hno j h e) (hendB w hI.ext)
          refine step_op ho h fun a' w' h' => ?_
          have hcn1 := count_put hil h0' hcn
          cases fuel with
          | zero =>
            exfalso
            have h1 : (listed.setIfInBounds i true).getD (i + 1) false = false := by rw [hput _ _ _ hil, if_neg (by omega)]; exact hx
            have hs1 : i + 1 < (listed.setIfInBounds i true).size := by simpa using hx'
            have := Array.count_eq_zero.1 hcn1
            have h2 : (listed.setIfInBounds i true)[i + 1] = false := by simp only [Array.getD_eq_getD_getElem?, Array.getElem?_eq_getElem hs1, Option.getD_some] at h1; exact h1
            exact this (h2 ▸ Array.getElem_mem hs1)
          | succ fuel =>
            have hs1 : (listed.setIfInBounds i true).size = ops.size := by simpa using hI.size
            have hx1 : (listed.setIfInBounds i true).getD (i + 1) false = false := by rw [hput _ _ _ hil, if_neg (by omega)]; exact hx
            have hil1 : i + 1 < (listed.setIfInBounds i true).size := by rw [hs1]; omega
            have hmr1 : i + 1 ∈ Region.ready .any ops (listed.setIfInBounds i true) := by
              refine mem_ready.2 ⟨?_, ox, hox, fun e he hb => (hordm ox hox e he hb).elim⟩
              have h2 := hx1
              simp only [Array.getD_eq_getD_getElem?, Array.getElem?_eq_getElem hil1, Option.getD_some] at h2
              simpa [hx'] using h2
            refine ⟨fun hr => absurd hmr1 (by rw [hr]; exact List.not_mem_nil), fun k hk => ?_⟩
            obtain ⟨k0, o, hok2, _⟩ := mem_ready.1 hk
            have hks : k < ops.size := (Array.getElem?_eq_some_iff.1 hok2).1
            have hkl : k < (listed.setIfInBounds i true).size := by rw [hs1]; exact hks
            have k0' : (listed.setIfInBounds i true).getD k false = false := by
              simp only [Array.getD_eq_getD_getElem?, Array.getElem?_eq_getElem hkl, Option.getD_some]
              simpa [hkl, hks, hI.size] using k0
            have hki : k = i + 1 := by
              rw [hput _ _ _ hil] at k0'
              split at k0'
              · cases k0'
              · rcases Nat.lt_trichotomy k (i + 1) with h | h | h
                · rw [hl k (by omega)] at k0'; cases k0'
                · exact h
                · exfalso
                  have := waits_of_ready hk (i + 1) (hlate1 k (by omega) hks).1
                  rw [hx1] at this; cases this
            subst hki
            have hdn2 := hdown _ (i + 1) hil1 hdn1 (waits_of_ready hk)
            refine step_op hox h' fun a'' w'' h'' => tail fuel _ a'' w'' (by simpa using hI.size) (count_put hil1 hx1 hcn1) (fun j hj => ?_) (fun j hj => ?_) hdn2 h''
            · rw [hput _ _ _ hil1]; split
              · rfl
              · rw [hput _ _ _ hil]; split
                · rfl
                · exact hl j (by omega)
            · rw [hput _ _ _ hil1, if_neg (by omega), hput _ _ _ hil, if_neg (by omega)]; exact hno j (by omega) (by omega)
    · refine ⟨fun hr => ?_, fun i hi => ?_⟩
      · exfalso
        apply hl
        intro j
        induction j using Nat.strongRecOn with
        | _ j ihj =>
          intro hjm
          have hj : j < ops.size := by omega
          cases hlj : listed.getD j false with
          | true => rfl
          | false =>
            exfalso
            have ho : ops[j]? = some ops[j] := by simp [hj]
            have hmem := hready_of listed a w j _ hI ho hlj fun e he hb => by
              have := hord j _ ho e he hb
              exact ihj e.on this (by omega)
            rw [hr] at hmem
            cases hmem
      · refine facts i hi ?_
        obtain ⟨_, o, ho, _⟩ := mem_ready.1 hi
        have his : i < ops.size := (Array.getElem?_eq_some_iff.1 ho).1
        rcases Nat.lt_trichotomy i m with h | h | h
        · exact .inl h
        · exfalso; subst h; exact hl (hreach listed hI.down (waits_of_ready hi))
        · by_cases e : i = m + 1
          · exact .inr e
          · exfalso
            have := waits_of_ready hi m (hlate1 i (by omega) his).2
            rw [hno m (Nat.le_refl _) (by omega)] at this; cases this

/-- A REGION THAT DRAWS ITS ORDER AND ENDS IN A CHAIN, whose second operation (a box that is made) may come up at any time ahead. -/
theorem wp_region_late {id : Nat} {l : List Oper} (m dx : Nat) (om ox : Oper) (Fs : List Fact) (D : List (List (Nat × Tmp))) (E : List (Nat × Tmp)) {a0 : Act} {w0 : World} {Q : Exit → Act → World → Prop}
    (hm : P.follows .mixedOrders = true) (hom : l[m]? = some om) (hox : l[m + 1]? = some ox) (hdx : ox.dst = some dx)
    (hok : (opsOk l.toArray a0.tmps.size 0 (l.take m) D && decide (m + 2 ≤ l.length) && opOk l.toArray a0.tmps.size (m + 1) ox [] && ((E.all fun p => decide (p.1 < m) && dstOf l.toArray p.1 == some p.2) && (List.range m).all fun j => match dstOf l.toArray j with | some _ => E.any fun p => p.1 == j | none => true) && chainOk l.toArray (m + 2) && lateOk l.toArray m && ordOk l.toArray && (ox.after.all fun e => !Region.binds .any e) && !waits l.toArray m (m + 1)) = true)
    (hob : Obs P l.toArray (factAt Fs) a0 w0 0 (l.take m) D) (hobx : Ob P l.toArray (factAt Fs) a0 w0 (m + 1) ox [])
    (hendA : ∀ w, Ext w0 w → depsThen (factAt Fs) w (E ++ [(m + 1, dx)]) a0 (fun a => wpList P l.toArray Q (om :: l.drop (m + 2)) a w))
    (hendB : ∀ w, Ext w0 w → depsThen (factAt Fs) w E a0 (fun a => wpList P l.toArray Q (om :: ox :: l.drop (m + 2)) a w)) :
    (Code.region id l.toArray true).wp P Q a0 w0 := by
  simp only [Bool.and_eq_true] at hok
  obtain ⟨⟨⟨⟨⟨⟨⟨⟨k1, k2⟩, k3⟩, k4⟩, k5⟩, k6⟩, k7⟩, k8⟩, k9⟩ := hok
  have hno : ∀ j, (Array.replicate l.toArray.size false).getD j false = false := fun j => by
    simp only [Array.getD_eq_getD_getElem?, Array.getElem?_replicate]; split <;> rfl
  refine wp_region_any hm (region_late (m := m) (dx := dx) (om := om) (ox := ox) (F := factAt Fs) (D := D) (E := E) (w0 := w0) k1 (by simpa using k2) (by simpa using hom) (by simpa using hox) k3 (by simp [dstOf, hox, hdx]) (by simp only [Bool.and_eq_true]; exact k4) k5 k6 ?_ ?_ (by simpa using k9) (fun i v w w' hx h => (Fs.getD i Fact.any).st v w w' hx h) hob hobx hendA hendB _ _ _ _ ?_ (fun j _ _ => hno j) ?_)
  · intro i o ho e he hb
    have hi : i < l.toArray.size := (Array.getElem?_eq_some_iff.1 ho).1
    have h1 := List.all_eq_true.1 k7 i (List.mem_range.2 hi)
    simp only [ho] at h1
    have h2 := (Array.all_eq_true_iff_forall_mem.1 h1) e he
    simpa [hb] using h2
  · intro o ho e he hb
    obtain rfl : ox = o := by
      have : l[m + 1]? = some o := by simpa using ho
      rw [hox] at this; exact Option.some.inj this
    have h2 := (Array.all_eq_true_iff_forall_mem.1 k8) e he
    simp [hb] at h2
  · simp
  · exact ⟨by simp, rfl, rfl, fun _ _ => rfl, fun j _ h => (by rw [hno] at h; cases h), fun j h => (by rw [hno] at h; cases h), (Ext.refl w0).drew⟩

end
end Go.Proofs.Ytkefppdacigbmaa

namespace Go.Proofs.Ytkefppdacigbmaa
open Go.RowKit Go.Shelf
attribute [local go_sem] Oper.semAt_some

/-- The blocks of S alone may turn. -/
structure Keeps (S : Nat → Prop) (W W' : World) : Prop where
  os : W'.os = W.os
  tape : W'.tape = W.tape
  output : W'.output = W.output
  size : W.heap.size ≤ W'.heap.size
  block : ∀ k, k < W.heap.size → ¬ S k → W'.heap[k]? = W.heap[k]?
theorem Keeps.refl (S : Nat → Prop) (W : World) : Keeps S W W := ⟨rfl, rfl, rfl, Nat.le_refl _, fun _ _ _ => rfl⟩
theorem Keeps.trans {S : Nat → Prop} {A B C : World} (h : Keeps S A B) (k : Keeps S B C) : Keeps S A C :=
  ⟨k.os.trans h.os, k.tape.trans h.tape, k.output.trans h.output, Nat.le_trans h.size k.size, fun i hi hs => (k.block i (Nat.lt_of_lt_of_le hi h.size) hs).trans (h.block i hi hs)⟩
theorem Keeps.of_grown {S : Nat → Prop} {W W' : World} {row : Option Nat} (hg : W.grownBy W' row) (h : ∀ k, row = some k → S k) : Keeps S W W' :=
  ⟨hg.os, hg.tape, hg.output, hg.size, fun k hk hs => hg.block k hk (fun e => hs (h k e.symm))⟩
theorem Keeps.of_ext {S : Nat → Prop} {W W' : World} (h : Ext W W') : Keeps S W W' := ⟨h.os, h.tape, h.output, h.size, fun k hk _ => h.block k hk⟩
theorem Keeps.ext {S : Nat → Prop} {w W W' : World} (h : Keeps S W W') (hx : Ext w W) (hS : ∀ k, S k → w.heap.size ≤ k) : Ext w W' :=
  ⟨h.os.trans hx.os, h.tape.trans hx.tape, h.output.trans hx.output, Nat.le_trans hx.size h.size, fun k hk => (h.block k (Nat.lt_of_lt_of_le hk hx.size) (fun e => by have := hS k e; omega)).trans (hx.block k hk)⟩
theorem Keeps.heap {S : Nat → Prop} {W W' : World} (h : Keeps S W W') {k : Nat} {o : Obj} (ho : W.heap[k]? = some o) (hS : ¬ S k) : W'.heap[k]? = some o :=
  (h.block k (Array.getElem?_eq_some_iff.1 ho).1 hS).trans ho
theorem Keeps.mono {S T : Nat → Prop} {W W' : World} (h : Keeps S W W') (hST : ∀ k, S k → T k) : Keeps T W W' :=
  ⟨h.os, h.tape, h.output, h.size, fun k hk hs => h.block k hk (fun e => hs (hST k e))⟩
theorem own_mono {W : World} {base base' : Nat} {e : TypeId} {size n : Nat} {v : Value} {xs : List Value} (h : W.ownsRow base e size v n xs) (hb : base' ≤ base) : W.ownsRow base' e size v n xs := by
  obtain ⟨h1, h2⟩ := h
  refine ⟨h1, ?_⟩
  rcases h2 with h2 | ⟨g, cap, cur, hv, hg, r⟩
  · exact .inl h2
  · exact .inr ⟨g, cap, cur, hv, Nat.le_trans hb hg, r⟩
theorem own_keeps {S : Nat → Prop} {W W' : World} {base : Nat} {e : TypeId} {size n : Nat} {v : Value} {xs : List Value} (h : W.ownsRow base e size v n xs) (hk : Keeps S W W') (hS : ∀ k, S k → v.ownBlock ≠ some k) : W'.ownsRow base e size v n xs := by
  obtain ⟨h1, h2⟩ := h
  refine ⟨h1, ?_⟩
  rcases h2 with h2 | ⟨g, cap, cur, hv, hg, hh, r⟩
  · exact .inl h2
  · exact .inr ⟨g, cap, cur, hv, hg, hk.heap hh (fun e => hS g e (by rw [hv]; rfl)), r⟩
theorem Keeps.put (S : Nat → Prop) (W : World) (l : Nat) (o : Obj) (h : S l) : Keeps S W (W.putObj l o) := Keeps.of_grown (grownBy_putObj' W l o) (fun k e => by cases e; exact h)
theorem Keeps.cell (S : Nat → Prop) (W : World) (l : Nat) (x : Value) (h : S l) : Keeps S W (W.setCell ⟨l, 0, none⟩ x) := Keeps.of_grown (grownBy_setCell' W l x) (fun k e => by cases e; exact h)
theorem Keeps.row (S : Nat → Prop) (W : World) (l : Nat) (cs : Array Value) (h : S l) : Keeps S W (W.setRow l cs) :=
  ⟨rfl, rfl, rfl, by unfold World.setRow; simp, fun k _ hs => setRow_other W l k cs (fun e => hs (e ▸ h))⟩

/-- The record of a range over a function, in a state, no jump pending. -/
def recOf (fn : FuncId) (tmps : Array Value) (ps : Array Tmp) (assign body : Code) (D : Nat) (st : LoopState) : Loop :=
  { state := st, pending := none, fn, tmps, params := ps, assign, body, defers := D }
/-- The same, to return. -/
def recRet (rc : LoopState → Loop) (st : LoopState) : Loop := { rc st with pending := some .ret }

/-- A range over a function whose body may leave by a return. -/
theorem range_law {n : Nat} {P : Program} {g : Operand} {ps : Array Tmp} {assign body : Code} {Q : Exit → Act → World → Prop} {a : Act} {w : World} {gf : Nat} {lb : Array Value}
    (hg : a.eval g = .func (.func gf) #[] lb) (eg : ∀ args w, (callFunc gf args).run P w = .ok (.enter gf args) w)
    (h : ∀ fn rc, rc = recOf fn a.tmps ps assign body w.heap.size → CallsIn Fence.wide (n - 1) P gf (#[.func (.yield (w.heap.size + 1)) #[] #[]] ++ lb) ((w.alloc (.deferred (some []))).alloc (.loop (rc .ready))) fun e W =>
      (∃ v, e = .returned v) ∧ ((W.heap[w.heap.size + 1]? = some (.loop (rc .ready)) ∧
        Q .normal { a with defers := { target := .collected w.heap.size, args := #[] } :: a.defers } (W.putObj (w.heap.size + 1) (.loop (rc .exhausted)))) ∨
        (W.heap[w.heap.size + 1]? = some (.loop (recRet rc .done)) ∧
        Q .ret { a with defers := { target := .collected w.heap.size, args := #[] } :: a.defers } (W.putObj (w.heap.size + 1) (.loop (recRet rc .exhausted)))))) :
    (Code.rangeFunc g ps assign body).wpIn Fence.wide n P Q a w := by
  refine wpIn_rangeFunc ?_
  intro fn hfn
  have h := h fn _ rfl
  refine ⟨w.heap.size + 1, [{ target := .collected w.heap.size, args := #[] }], (w.alloc (.deferred (some []))).alloc (.loop (recOf fn a.tmps ps assign body w.heap.size .ready)), { target := .fn (.func gf) lb, args := #[.func (.yield (w.heap.size + 1)) #[] #[]] }, (w.alloc (.deferred (some []))).alloc (.loop (recOf fn a.tmps ps assign body w.heap.size .ready)), gf,
    #[.func (.yield (w.heap.size + 1)) #[] #[]] ++ lb, (w.alloc (.deferred (some []))).alloc (.loop (recOf fn a.tmps ps assign body w.heap.size .ready)), ?_, ?_, ?_, ?_, (fun h => by cases h), ?_⟩
  · exact run_enterLoop_outer _ _ _ _ _
  · simp only [resolve, hg]
    simp [go_sem]
  · intro f' hf'; trivial
  · simp [invoke, go_sem, eg]
  · refine h.mono ?_
    rintro e W ⟨⟨v, rfl⟩, ⟨hl, hq⟩ | ⟨hl, hq⟩⟩
    · exact ⟨none, _, run_endLoop hl (by simp [recOf]), hq⟩
    · exact ⟨some .ret, _, run_endLoop hl (by simp [recOf, recRet]), wpIn_ret hq⟩

/-- How a body ends that may leave by a return. -/
def bodyEnd (l : Nat) (r : LoopState → Loop) (R : Ending → World → Prop) : Exit → Act → World → Prop
  | .normal, _, W2 => W2.heap[l]? = some (.loop (r .busy)) ∧ R (.returned (.bool true)) (W2.putObj l (.loop (r .ready)))
  | .ret, _, W2 => W2.heap[l]? = some (.loop (r .busy)) ∧ R (.returned (.bool false)) (W2.putObj l (.loop (recRet r .done)))
  | _, _, _ => False

theorem round_law {n l : Nat} {P : Program} {args : Array Value} {W : World} {R : Ending → World → Prop} {fn : FuncId} {tmps : Array Value} {ps : Array Tmp} {assign body : Code} {D : Nat} {rc : LoopState → Loop} (hrc : rc = recOf fn tmps ps assign body D)
    (hl : W.heap[l]? = some (.loop (rc .ready))) (hs : args.size = ps.size)
    (h : assign.wpIn (Fence.wide.inRound l) n P (Exit.then (fun a₁ w₁ => w₁.heap[l]? = some (.loop (rc .ready)) ∧
      body.wpIn (Fence.wide.inRound l) n P (bodyEnd l rc R) a₁ (w₁.putObj l (.loop (rc .busy)))) (fun _ _ _ => False))
      { tmps := (ps.zip args).foldl (fun tmps (t, a) => tmps.setIfInBounds t a) tmps, defers := [] } W) :
    YieldAt Fence.wide n P l args W R := by
  subst hrc
  refine ⟨fn, _, assign, body, run_yield hl hs, roundIn_of_wpIn trivial (wpIn_mono h ?_)⟩
  rintro e a1 w1 hp
  cases e with
  | normal =>
    obtain ⟨hl1, hb⟩ := hp
    refine ⟨_, run_beginRound hl1 rfl, wpIn_mono hb ?_⟩
    rintro e2 a2 w2 hq
    cases e2 with
    | normal => exact ⟨_, _, run_endRound none hq.1, hq.2⟩
    | ret => exact ⟨_, _, run_endRound (some .ret) hq.1, hq.2⟩
    | exit id => exact hq.elim
    | goto t => exact hq.elim
    | panic c => exact hq.elim
    | outgrown => exact hq.elim
  | ret => exact hp.elim
  | exit id => exact hp.elim
  | goto t => exact hp.elim
  | panic c => exact hp.elim
  | outgrown => exact hp.elim
end Go.Proofs.Ytkefppdacigbmaa

namespace Go.Proofs.Ytkefppdacigbmaa
open Go.RowKit

/-- A box of the region's own. -/
def Fact.box (n : Nat) (cs : Array Value) (t : TypeId) : Fact := ⟨fun v w => ∃ b, v = .pointer (some ⟨b, 0, none⟩) ∧ n ≤ b ∧ w.heap[b]? = some (.cells cs t (0, 0)), fun _ _ _ hx ⟨b, h1, h2, h3⟩ => ⟨b, h1, h2, block_later h3 hx⟩⟩
theorem zero57 : ∀ w, Sem.run Try.prog (zeroValue 57) w = .ok (.agg #[.slice none 0 0, .slice none 0 0, .slice none 0 0, .bool false]) w := fun w => by kernel_rfl
theorem rgr_setRow {W : World} {v : Value} {r : Rg} (h : RgR W v r) {b : Nat} {cs c : Array Value} {t : TypeId} {fr : Nat × Nat} (hb : W.heap[b]? = some (.cells c t fr)) (hc : ∀ s, Value.string s ∉ c.toList) : RgR (W.setRow b cs) v r := by
  obtain ⟨a1, c1, a2, c2, a3, c3, e, h1, h2, h3⟩ := h.ex
  exact ⟨a1, c1, a2, c2, a3, c3, e, spr_setRow h1 hb hc, spr_setRow h2 hb hc, spr_setRow h3 hb hc⟩
def z57 : Array Value := #[.slice none 0 0, .slice none 0 0, .slice none 0 0, .bool false]
theorem z57_none : ∀ s, Value.string s ∉ z57.toList := by intro s h; simp [z57] at h
/-- Two boxes of regions, filled. -/
theorem two_filled {w w1 : World} {b c : Nat} {m l : Rg} {vm vl : Value} {cm cl : Array Value} (hx : Ext w w1) (hb : w.heap.size ≤ b) (hc : w.heap.size ≤ c) (hne : b ≠ c) (h1 : w1.heap[b]? = some (.cells z57 57 (0, 0))) (h2 : w1.heap[c]? = some (.cells z57 57 (0, 0)))
    (hm : RgR w1 vm m) (hl : RgR w1 vl l) :
    Ext w ((w1.setRow b cm).setRow c cl) ∧ ((w1.setRow b cm).setRow c cl).heap[b]? = some (.cells cm 57 (0, 0)) ∧ ((w1.setRow b cm).setRow c cl).heap[c]? = some (.cells cl 57 (0, 0)) ∧ (w1.setRow b cm).heap[c]? = some (.cells z57 57 (0, 0)) ∧
      RgR ((w1.setRow b cm).setRow c cl) vm m ∧ RgR ((w1.setRow b cm).setRow c cl) vl l := by
  have e1 := setRow_heap w1 b z57 cm 57 (0, 0) h1
  have e2 : (w1.setRow b cm).heap[c]? = some (.cells z57 57 (0, 0)) := (setRow_other w1 b c cm (Ne.symm hne)).trans h2
  have e3 := setRow_heap (w1.setRow b cm) c z57 cl 57 (0, 0) e2
  refine ⟨(hx.setRow hb _).setRow hc _, (setRow_other _ c b cl hne).trans e1, e3, e2, ?_, ?_⟩
  · exact rgr_setRow (rgr_setRow hm h1 z57_none) e2 z57_none
  · exact rgr_setRow (rgr_setRow hl h1 z57_none) e2 z57_none
theorem one_filled {w w1 : World} {b : Nat} {m : Rg} {vm : Value} {cm : Array Value} (hx : Ext w w1) (hb : w.heap.size ≤ b) (h1 : w1.heap[b]? = some (.cells z57 57 (0, 0))) (hm : RgR w1 vm m) :
    Ext w (w1.setRow b cm) ∧ (w1.setRow b cm).heap[b]? = some (.cells cm 57 (0, 0)) ∧ RgR (w1.setRow b cm) vm m :=
  ⟨hx.setRow hb _, setRow_heap w1 b z57 cm 57 (0, 0) h1, rgr_setRow hm h1 z57_none⟩
end Go.Proofs.Ytkefppdacigbmaa

namespace Go.Proofs.Ytkefppdacigbmaa
open Go.RowKit Go.Sort

def Fact.own (base : Nat) (l : List (List UInt8)) : Fact := ⟨fun v w => w.ownsRow base 9 1 v l.length (l.map stC), fun _ _ _ hx h => own_ext h hx⟩
theorem frozen_row {w : World} {b : Nat} {c : Array Value} {t : TypeId} (h : w.heap[b]? = some (.cells c t (0, 0))) (o : Nat) : w.frozen? ⟨b, o, none⟩ = false := by simp [World.frozen?, h]
theorem info113s : (Try.prog.info? 113).map (·.size) = some 1 := by kernel_rfl
theorem stC_one : ∀ (l : List (List UInt8)), ∀ u ∈ l.map stC, u.oneCell' = true := fun l u hu => by obtain ⟨x, _, rfl⟩ := List.mem_map.1 hu; rfl

theorem own_lt {w : World} {base size n : Nat} {e : TypeId} {v : Value} {xs : List Value} (h : w.ownsRow base e size v n xs) : ∀ k, v.ownBlock = some k → k < w.heap.size := by
  intro k hk
  rcases h.2 with ⟨rfl, _⟩ | ⟨g, cap, cur, rfl, hb, hg, _⟩
  · cases hk
  · have : g = k := by simpa [Value.ownBlock] using hk
    subst this
    exact (Array.getElem?_eq_some_iff.1 hg).1
/-- What the iterator stands on. -/
structure ItB (lo hi b6 : Nat) (vp vq v : Value) (l : List (List UInt8)) (W : World) : Prop where
  own : W.ownsRow lo 9 1 v l.length (l.map stC)
  olt : ∀ k, v.ownBlock = some k → lo ≤ k ∧ k < hi
  b6lo : lo ≤ b6
  b6hi : b6 < hi
  lohi : 2 ≤ lo ∧ lo < hi
  hb6 : W.heap[b6]? = some (.cells #[.func (.func 139) #[] #[.pointer (some ⟨lo - 2, 0, none⟩), .pointer (some ⟨lo - 1, 0, none⟩)]] 145 (0, 0))
  hbp : W.heap[lo - 2]? = some (.cells #[vp] 23 (0, 0))
  hbq : W.heap[lo - 1]? = some (.cells #[vq] 23 (0, 0))

set_option maxRecDepth 100000 in
set_option maxHeartbeats 16000000 in
theorem asked96_any (w : World) (vp vq : Value) (p q : List C) (hp : PredR w vp p) (hq : PredR w vq q) (hlp : p.length ≤ 6) (hlq : q.length ≤ 6) :
    Calls Try.prog 96 #[vp, vq] w fun e W => ∃ b5 b6 vn l, e = .returned (.func (.func 140) #[] #[.pointer (some ⟨b5, 0, none⟩), .pointer (some ⟨b6, 0, none⟩)]) ∧ compE l = bothF p q ∧ l.length ≤ 1000000 ∧
      Ext w W ∧ ItB (w.heap.size + 2) W.heap.size b6 vp vq vn l W ∧ w.heap.size + 2 ≤ b5 ∧ W.heap[b5]? = some (.cells #[vn] 113 (0, 0)) := by
  obtain ⟨ap, cp, rfl, _, _⟩ := hp.shape
  obtain ⟨aq, cq, rfl, _, _⟩ := hq.shape
  have hb : ∀ l' : List (List UInt8), l'.Perm (namesF p ++ namesF q) → (l'.Pairwise fun a b => Lib.compareBytes a b ≤ 0) → compE l' = bothF p q := fun l' h1 h2 => by
    unfold bothF
    refine compL_sorted wo_bytes h1 h2 (fun _ _ _ _ => bytes_zero) fun a _ b _ => ?_
    rw [decide_eq_true_iff]
    exact ⟨fun h => by rw [h]; exact wo_bytes.refl b, bytes_zero⟩
  have hn1 : (namesF p).length ≤ 6 := Nat.le_trans (names_len p) hlp
  have hn2 : (namesF q).length ≤ 6 := Nat.le_trans (names_len q) hlq
  have HN1 := Lib.hid (fun W (hx : Ext w W) => names_any W _ p (hp.ext hx) (by omega))
  have HN2 := Lib.hid (fun W (hx : Ext w W) => names_any W _ q (hq.ext hx) (by omega))
  have HB := Lib.hid hb
  clear hb hp hq
  generalize bothF p q = bo at *
  generalize namesF p = l1 at *
  generalize namesF q = l2 at *
  generalize p.length = pl at *
  generalize q.length = ql at *
  obtain ⟨hx0, hbp, hbq⟩ := boxes2 w (.cells #[.slice ap pl cp] 23) (.cells #[.slice aq ql cq] 23)
  have hsz : ((w.alloc (.cells #[.slice ap pl cp] 23)).alloc (.cells #[.slice aq ql cq] 23)).heap.size = w.heap.size + 2 := by simp
  go_enter Try.func96, Try.ntmps96
  go_upto_region 1 with fail
  generalize (w.alloc (.cells #[.slice ap pl cp] 23)).alloc (.cells #[.slice aq ql cq] 23) = w0 at *
  have HBP := Lib.hid hbp
  have HBQ := Lib.hid hbq
  have HSZ := Lib.hid hsz
  clear hbp hbq hsz
  refine wp_region_late 4 5 _ _ [Fact.eq (.slice ap pl cp),
      Fact.own w0.heap.size l1,
      Fact.eq (.slice aq ql cq),
      Fact.own w0.heap.size l2,
      Fact.any,
      Fact.box w0.heap.size #[.slice none 0 0] 113]
    [[], [(0, 7)], [], [(2, 9)]]
    [(0, 7), (1, 8), (2, 9), (3, 10)] (by kernel_rfl) rfl rfl rfl (by kernel_rfl) ?_ ?_ ?_ ?_
  · refine ⟨?_, ?_, ?_, ?_, trivial⟩
    · intro w1 hx1; change wpList _ _ _ _ _ _; have m0 := cell_of_row _ _ 0 _ _ _ (block_later HBP.out hx1); go_wp2_with fail; exact ⟨rfl, Ext.refl _, rfl, rfl⟩
    · intro w1 hx1; rintro _ rfl; change wpList _ _ _ _ _ _; go_wp2_with fail; refine (HN1.out w1 (hx0.trans hx1)).mono ?_; rintro e w2 ⟨va, rfl, hA2, hx2⟩; have hA3 := own_mono hA2 hx1.size; go_wp2_with fail; exact ⟨rfl, hx2, rfl, hA3⟩
    · intro w1 hx1; change wpList _ _ _ _ _ _; have m0 := cell_of_row _ _ 0 _ _ _ (block_later HBQ.out hx1); go_wp2_with fail; exact ⟨rfl, Ext.refl _, rfl, rfl⟩
    · intro w1 hx1; rintro _ rfl; change wpList _ _ _ _ _ _; go_wp2_with fail; refine (HN2.out w1 (hx0.trans hx1)).mono ?_; rintro e w2 ⟨va, rfl, hA2, hx2⟩; have hA3 := own_mono hA2 hx1.size; go_wp2_with fail; exact ⟨rfl, hx2, rfl, hA3⟩
  · intro w1 hx1; change wpList _ _ _ _ _ _; go_wp2_with fail; exact ⟨rfl, (Ext.refl _).alloc _, rfl, _, rfl, hx1.size, (boxes1 w1 _).2⟩
  · intro w1 hx1; rintro _ rfl; intro v8 h8; rintro _ rfl; intro v10 h10; intro v5 h5; refine depsThen_nil ?_; dsimp only; simp only [Act.put, List.setIfInBounds_toArray, List.set_cons_zero, List.set_cons_succ, List.drop_succ_cons, List.drop_zero]
    replace h8 : (Fact.own w0.heap.size l1).p v8 w1 := h8
    replace h10 : (Fact.own w0.heap.size l2).p v10 w1 := h10
    replace h5 : (Fact.box w0.heap.size #[.slice none 0 0] 113).p v5 w1 := h5
    have h8o : w1.ownsRow w0.heap.size 9 1 v8 l1.length (l1.map stC) := h8
    have h10o : Row w1 1 v10 l2.length (l2.map stC) := Row.of_own h10
    have H8 := Lib.hid h8o
    have H10 := Lib.hid h10o
    clear h8 h10 h8o h10o HN1 HN2
    obtain ⟨b5, rfl, hb5, hbox⟩ := h5
    have HBX := Lib.hid hbox
    clear hbox
    go_upto_region 2 with (at_builtin; refine wpList_append_row 113 9 (.tmp 8) (.tmp 10) rfl w0.heap.size _ 1 16 Try.underlying113 info9t rfl (by decide) rfl _ l1.length (l1.map stC) rfl H8.out l2.length (l2.map stC) H10.out (stC_one l2) (by omega) (by unfold maxLen; omega) hx1.size ?_; intro v' w' hown2 hg; obtain ⟨ao, co, rfl, _, _⟩ := Row.shape (own_row hown2); have HBX2 := Lib.hid ((hg.block b5 (Array.getElem?_eq_some_iff.1 HBX.out).1 (fun e => own_ne H8.out HBX.out (by decide) e.symm)).trans HBX.out); have mc := cell_of_row _ _ 0 _ _ _ HBX2.out; have mf : w'.frozen? ⟨b5, 0, none⟩ = false := frozen_row HBX2.out 0; have HO2 := Lib.hid hown2; have HG := Lib.hid hg; clear hown2 hg)
    have hxa : Ext w0 w' := hx1.grown_none HG.out (own_base H8.out)
    have hxb : Ext w0 (w'.setCell ⟨b5, 0, none⟩ (.slice ao (l1.length + l2.length) co)) := hxa.setCell (p := ⟨b5, 0, none⟩) hb5 _
    have hB5 : (w'.setCell ⟨b5, 0, none⟩ (.slice ao (l1.length + l2.length) co)).heap[b5]? = some (.cells #[.slice ao (l1.length + l2.length) co] 113 (0, 0)) := setCell_block w' b5 0 _ _ _ _ HBX2.out
    have hO3 := own_cell HO2.out HBX2.out (by decide) 0 (.slice ao (l1.length + l2.length) co)
    clear mc mf
    generalize w'.setCell ⟨b5, 0, none⟩ (.slice ao (l1.length + l2.length) co) = w3 at *
    have hlen : (l1 ++ l2).length = l1.length + l2.length := List.length_append
    have hO4 := hO3
    rw [← List.map_append, ← hlen] at hO4
    have hsort := Lib.hid (sortSt_any w3 w0.heap.size _ (l1 ++ l2) hO4 (by omega))
    rw [hlen] at hsort
    have HB5 := Lib.hid hB5
    have HO4 := Lib.hid hO4
    rw [hlen] at HO4
    have m5 := cell_of_row _ _ 0 _ _ _ hB5
    have hne : (Value.slice ao (l1.length + l2.length) co).ownBlock ≠ some b5 := own_ne hO3 hB5 (by decide)
    have hbase := own_base hO3
    have HNE := Lib.hid hne
    have HBA := Lib.hid hbase
    clear hB5 hO3 hO4 hxa hne hbase
    go_wp2_with fail
    refine hsort.out.mono ?_
    rintro e w4 ⟨rfl, l', q1, q2, q3, q4⟩
    clear m5
    have hx4 : Ext w0 w4 := hxb.grown_none q4 HBA.out
    have hB5' : w4.heap[b5]? = some (.cells #[.slice ao (l1.length + l2.length) co] 113 (0, 0)) := (q4.block b5 (Array.getElem?_eq_some_iff.1 HB5.out).1 (fun e => HNE.out e.symm)).trans HB5.out
    obtain ⟨hx5, hb6⟩ := boxes1 w4 (.cells #[.func (.func 139) #[] #[.pointer (some ⟨w.heap.size, 0, none⟩), .pointer (some ⟨w.heap.size + 1, 0, none⟩)]] 145)
    have hx6 := hx4.trans hx5
    have hl' : l'.length = l1.length + l2.length := by rw [q1.length_eq, hlen]
    have hcomp := HB.out l' q1 q2
    have Q3 := Lib.hid (own_ext q3 hx5)
    have hlt : ∀ k, (Value.slice ao (l1.length + l2.length) co).ownBlock = some k → w.heap.size + 2 ≤ k ∧ k < w4.heap.size := fun k hk => by
      have h1 := HBA.out k hk
      rw [HSZ.out] at h1
      exact ⟨h1, own_lt q3 k hk⟩
    have HLT := Lib.hid hlt
    have hw4 : w.heap.size + 2 ≤ w4.heap.size := by have := hx4.size; rw [HSZ.out] at this; exact this
    have HB5' := Lib.hid hB5'
    have HB6 := Lib.hid hb6
    have HL' := Lib.hid hl'
    have HCO := Lib.hid hcomp
    have HW4 := Lib.hid hw4
    clear q1 q2 q3 q4 hlt hsort hB5' hb6 hl' hcomp hw4
    go_wp2_with fail
    go_ret
    refine ⟨b5, w4.heap.size, .slice ao (l1.length + l2.length) co, l', rfl, HCO.out, by rw [HL'.out]; omega, hx0.trans hx6, ?_, by have := hb5; rw [HSZ.out] at this; exact this, block_later HB5'.out hx5⟩
    have hsz5 : (w4.alloc (.cells #[.func (.func 139) #[] #[.pointer (some ⟨w.heap.size, 0, none⟩), .pointer (some ⟨w.heap.size + 1, 0, none⟩)]] 145)).heap.size = w4.heap.size + 1 := by simp
    refine ⟨?_, fun k hk => ?_, HW4.out, by rw [hsz5]; omega, ⟨by omega, by have := HW4.out; rw [hsz5]; omega⟩, HB6.out, block_later HBP.out hx6, block_later HBQ.out hx6⟩
    · rw [HL'.out]
      have := Q3.out
      rw [HSZ.out] at this
      exact this
    · have := HLT.out k hk
      rw [hsz5]; omega
  · intro w1 hx1; rintro _ rfl; intro v8 h8; rintro _ rfl; intro v10 h10; refine depsThen_nil ?_; dsimp only; simp only [Act.put, List.setIfInBounds_toArray, List.set_cons_zero, List.set_cons_succ, List.drop_succ_cons, List.drop_zero]
    replace h8 : (Fact.own w0.heap.size l1).p v8 w1 := h8
    replace h10 : (Fact.own w0.heap.size l2).p v10 w1 := h10
    have h8o : w1.ownsRow w0.heap.size 9 1 v8 l1.length (l1.map stC) := h8
    have h10o : Row w1 1 v10 l2.length (l2.map stC) := Row.of_own h10
    have H8 := Lib.hid h8o
    have H10 := Lib.hid h10o
    clear h8 h10 h8o h10o HN1 HN2
    go_upto_region 2 with (at_builtin; refine wpList_append_row 113 9 (.tmp 8) (.tmp 10) rfl w0.heap.size _ 1 16 Try.underlying113 info9t rfl (by decide) rfl _ l1.length (l1.map stC) rfl H8.out l2.length (l2.map stC) H10.out (stC_one l2) (by omega) (by unfold maxLen; omega) hx1.size ?_; intro v' w' hown2 hg; obtain ⟨ao, co, rfl, _, _⟩ := Row.shape (own_row hown2); have HO2 := Lib.hid hown2; have HG := Lib.hid hg; clear hown2 hg)
    have hxa : Ext w0 w' := hx1.grown_none HG.out (own_base H8.out)
    obtain ⟨hxc, hB5⟩ := boxes1 w' (.cells #[.slice ao (l1.length + l2.length) co] 113)
    have hxb := hxa.trans hxc
    have hb5 := hxa.size
    have hO3 := own_ext HO2.out hxc
    generalize w'.alloc (.cells #[.slice ao (l1.length + l2.length) co] 113) = w3 at *
    generalize w'.heap.size = b5 at *
    have hlen : (l1 ++ l2).length = l1.length + l2.length := List.length_append
    have hO4 := hO3
    rw [← List.map_append, ← hlen] at hO4
    have hsort := Lib.hid (sortSt_any w3 w0.heap.size _ (l1 ++ l2) hO4 (by omega))
    rw [hlen] at hsort
    have HB5 := Lib.hid hB5
    have HO4 := Lib.hid hO4
    rw [hlen] at HO4
    have m5 := cell_of_row _ _ 0 _ _ _ hB5
    have hne : (Value.slice ao (l1.length + l2.length) co).ownBlock ≠ some b5 := own_ne hO3 hB5 (by decide)
    have hbase := own_base hO3
    have HNE := Lib.hid hne
    have HBA := Lib.hid hbase
    clear hB5 hO3 hO4 hxa hne hbase
    go_wp2_with fail
    refine hsort.out.mono ?_
    rintro e w4 ⟨rfl, l', q1, q2, q3, q4⟩
    clear m5
    have hx4 : Ext w0 w4 := hxb.grown_none q4 HBA.out
    have hB5' : w4.heap[b5]? = some (.cells #[.slice ao (l1.length + l2.length) co] 113 (0, 0)) := (q4.block b5 (Array.getElem?_eq_some_iff.1 HB5.out).1 (fun e => HNE.out e.symm)).trans HB5.out
    obtain ⟨hx5, hb6⟩ := boxes1 w4 (.cells #[.func (.func 139) #[] #[.pointer (some ⟨w.heap.size, 0, none⟩), .pointer (some ⟨w.heap.size + 1, 0, none⟩)]] 145)
    have hx6 := hx4.trans hx5
    have hl' : l'.length = l1.length + l2.length := by rw [q1.length_eq, hlen]
    have hcomp := HB.out l' q1 q2
    have Q3 := Lib.hid (own_ext q3 hx5)
    have hlt : ∀ k, (Value.slice ao (l1.length + l2.length) co).ownBlock = some k → w.heap.size + 2 ≤ k ∧ k < w4.heap.size := fun k hk => by
      have h1 := HBA.out k hk
      rw [HSZ.out] at h1
      exact ⟨h1, own_lt q3 k hk⟩
    have HLT := Lib.hid hlt
    have hw4 : w.heap.size + 2 ≤ w4.heap.size := by have := hx4.size; rw [HSZ.out] at this; exact this
    have HB5' := Lib.hid hB5'
    have HB6 := Lib.hid hb6
    have HL' := Lib.hid hl'
    have HCO := Lib.hid hcomp
    have HW4 := Lib.hid hw4
    clear q1 q2 q3 q4 hlt hsort hB5' hb6 hl' hcomp hw4
    go_wp2_with fail
    go_ret
    refine ⟨b5, w4.heap.size, .slice ao (l1.length + l2.length) co, l', rfl, HCO.out, by rw [HL'.out]; omega, hx0.trans hx6, ?_, by have := hb5; rw [HSZ.out] at this; exact this, block_later HB5'.out hx5⟩
    have hsz5 : (w4.alloc (.cells #[.func (.func 139) #[] #[.pointer (some ⟨w.heap.size, 0, none⟩), .pointer (some ⟨w.heap.size + 1, 0, none⟩)]] 145)).heap.size = w4.heap.size + 1 := by simp
    refine ⟨?_, fun k hk => ?_, HW4.out, by rw [hsz5]; omega, ⟨by omega, by have := HW4.out; rw [hsz5]; omega⟩, HB6.out, block_later HBP.out hx6, block_later HBQ.out hx6⟩
    · rw [HL'.out]
      have := Q3.out
      rw [HSZ.out] at this
      exact this
    · have := HLT.out k hk
      rw [hsz5]; omega
end Go.Proofs.Ytkefppdacigbmaa

namespace Go.Proofs.Ytkefppdacigbmaa
open Go.RowKit Go.Sort Go.Shelf
attribute [local go_sem] Oper.semAt_some

theorem ItB.keeps {S : Nat → Prop} {lo hi b6 : Nat} {vp vq v : Value} {l : List (List UInt8)} {W W' : World} (h : ItB lo hi b6 vp vq v l W) (hk : Keeps S W W') (hS : ∀ k, S k → k + 2 < lo ∨ hi ≤ k) : ItB lo hi b6 vp vq v l W' := by
  have h2 := h.lohi
  have h3 := h.b6lo
  have h4 := h.b6hi
  refine ⟨own_keeps h.own hk fun k hs e => ?_, h.olt, h3, h4, h2, hk.heap h.hb6 fun e => ?_, hk.heap h.hbp fun e => ?_, hk.heap h.hbq fun e => ?_⟩
  · have := h.olt k e; have := hS k hs; omega
  · have := hS _ e; omega
  · have := hS _ e; omega
  · have := hS _ e; omega

set_option maxRecDepth 100000 in
set_option maxHeartbeats 4000000 in
theorem iter_any (n l : Nat) (w0 : World) (p q : List C) (vp vq : Value) (hp : PredR w0 vp p) (hq : PredR w0 vq q) (kp : ∀ c ∈ p, okC c) (kq : ∀ c ∈ q, okC c) (lo hi b5 b6 : Nat) (hlo : w0.heap.size + 2 ≤ lo)
    (vn : Value) (l0 names : List (List UInt8)) (hnames : compE l0 = names) (hl0 : l0.length ≤ 1000000)
    (U : List (List UInt8) → World → Prop) (D : World → Prop)
    (hU : ∀ pre W W', U pre W → Keeps (fun k => lo ≤ k ∧ k < hi) W W' → U pre W')
    (hY : ∀ pre nm rest vc v W, names = pre ++ nm :: rest → Ext w0 W → ItB lo hi b6 vp vq vc names W → U pre W → RgR W v ((askedF p nm).and (askedF q nm)) →
      YieldAt Fence.wide (n - 1) Try.prog l #[.string (strOf nm), v] W fun e W' => (e = .returned (.bool true) ∧ Ext w0 W' ∧ ItB lo hi b6 vp vq vc names W' ∧ U (pre ++ [nm]) W') ∨ (e = .returned (.bool false) ∧ D W'))
    (W : World) (hx : Ext w0 W) (hI : ItB lo hi b6 vp vq vn l0 W) (hb5 : W.heap[b5]? = some (.cells #[vn] 113 (0, 0))) (h0 : U [] W) :
    CallsIn Fence.wide n Try.prog 140 #[.func (.yield l) #[] #[], .pointer (some ⟨b5, 0, none⟩), .pointer (some ⟨b6, 0, none⟩)] W fun e W' =>
      (∃ x, e = .returned x) ∧ ((Ext w0 W' ∧ U names W') ∨ D W') := by
  obtain ⟨a0, c0, rfl, _, _⟩ := Row.shape (own_row hI.own)
  have hcomp := compactSt_any W lo _ l0 hI.own hl0
  rw [hnames] at hcomp
  have HC := Lib.hid hcomp
  have m5 := cell_of_row _ _ 0 _ _ _ hb5
  have HI := Lib.hid hI
  have HN := Lib.hid hnames
  clear hcomp hI hb5 hnames
  refine callsIn_of_wp Try.func140 rfl trivial ?_ rfl
  simp only [Try.ntmps140, List.size_toArray, List.length_cons, List.length_nil, Nat.reduceAdd, Nat.reduceSub, Array.replicate_succ, Array.replicate_zero, List.push_toArray, List.append_toArray, List.nil_append, List.cons_append]
  gi_wp2_with fail
  refine ⟨trivial, fun h => (by cases h), ?_⟩
  refine CallsIn.mono (callsIn_wide.2 HC.out) ?_
  rintro e W1 ⟨vc, rfl, hown, hg, hob⟩
  clear m5
  have hK1 : Keeps (fun k => lo ≤ k ∧ k < hi) W W1 := Keeps.of_grown hg (fun k e => HI.out.olt k e)
  have hK2 : Keeps (fun k => (Value.slice a0 l0.length c0).ownBlock = some k) W W1 := Keeps.of_grown hg (fun k e => e)
  have hx1 : Ext w0 W1 := hK1.ext hx (fun k hk => by omega)
  have hU1 : U [] W1 := hU _ _ _ h0 hK1
  have hI1 : ItB lo hi b6 vp vq vc names W1 := by
    have h2 := HI.out.lohi
    refine ⟨hown, fun k e => HI.out.olt k (by rw [← hob]; exact e), HI.out.b6lo, HI.out.b6hi, h2, hK2.heap HI.out.hb6 fun e => ?_, hK1.heap HI.out.hbp fun e => by omega, hK1.heap HI.out.hbq fun e => by omega⟩
    exact own_ne HI.out.own HI.out.hb6 (by decide) e
  obtain ⟨a, cap, rfl, _, _⟩ := Row.shape (own_row hown)
  clear hown hg hob hK1 hK2 HI HC h0 hx
  have hcap : names.length ≤ 9000000000000000000 := by
    have : names.length ≤ l0.length := by rw [← HN.out]; exact compE_len _ l0 (Nat.le_refl _)
    omega
  generalize hNN : names.length = N at *
  have HNN := Lib.hid hNN
  clear hNN
  gi_wp2_with fail
  gi_loopw [9] (fun i wr => ∃ k : Nat, k ≤ N ∧ i = .int .i64 k ∧ Hid (Ext w0 wr ∧ ItB lo hi b6 vp vq (.slice a N cap) names wr ∧ U (names.take k) wr)) (fun i _ => N - (intOf i).toNat)
  case atStart => exact ⟨0, Nat.zero_le _, rfl, ⟨hx1, hI1, hU1⟩⟩
  case round =>
    clear hx1 hI1 hU1
    obtain ⟨k, hk, rfl, hst⟩ := hrel
    by_cases hlt : k < N
    · have hD : decide ((k : Int) < (N : Int)) = true := decide_eq_true (by omega)
      have hkl : k < names.length := by rw [HNN.out]; exact hlt
      have hrow : StrR wr (.slice a N cap) names := own_row hst.out.2.1.own
      obtain ⟨B, o, rfl, f0⟩ := StrR.at hrow hkl
      have m6 := cell_of_row _ _ 0 _ _ _ hst.out.2.1.hb6
      have hsp : names = names.take k ++ names[k] :: names.drop (k + 1) := by
        rw [← List.drop_eq_getElem_cons hkl, List.take_append_drop]
      have hnx : names.take (k + 1) = names.take k ++ [names[k]] := List.take_succ_eq_append_getElem hkl
      have hboth := both_any wr (lo - 2) (lo - 1) vp vq p q names[k] hst.out.2.1.hbp hst.out.2.1.hbq (hp.ext hst.out.1) (hq.ext hst.out.1) kp kq
      have HB := Lib.hid hboth
      have HSP := Lib.hid hsp
      have HNX := Lib.hid hnx
      clear hboth hsp hnx hrow
      generalize names[k] = nm at *
      gi_wp2_with fail
      refine ⟨trivial, fun h => (by cases h), ?_⟩
      refine CallsIn.mono (callsIn_wide.2 HB.out) ?_
      rintro e W2 ⟨vr, rfl, hvr, hx2⟩
      clear f0 m6
      have hI2 := hst.out.2.1.keeps (Keeps.of_ext (S := fun _ => False) hx2) (fun _ h => h.elim)
      have hU2 := hU _ _ _ hst.out.2.2 (Keeps.of_ext hx2)
      have hx3 := hst.out.1.trans hx2
      obtain ⟨fn, tmps, assign, body, hy, hR⟩ := hY _ nm _ _ vr W2 HSP.out hx3 hI2 hU2 hvr
      clear hI2 hU2 hx3 hx2 hvr
      gi_wp2_with fail
      refine ⟨fun h => (by cases h), ?_⟩
      refine hR.mono ?_
      rintro e W4 (⟨rfl, hx4, hI4, hU4⟩ | ⟨rfl, hd⟩)
      · have HS := Lib.hid (And.intro hx4 (And.intro hI4 hU4))
        clear hx4 hI4 hU4
        gi_wp2_with fail
        go_roundw
        case rel =>
          refine ⟨k + 1, hlt, by go_num, HS.out.1, HS.out.2.1, ?_⟩
          rw [HNX.out]; exact HS.out.2.2
        case measure => simp [intOf]; omega
      · have HD := Lib.hid hd
        clear hd
        gi_wp2_with fail
        exact bodyPost_ret (results_none (fn := Try.f140) rfl _ _ _) rfl ⟨⟨_, rfl⟩, .inr HD.out⟩
    · obtain rfl : k = N := by omega
      have hD : decide ((k : Int) < (k : Int)) = false := decide_eq_false (by omega)
      gi_wp2_with fail
      go_end0
      refine ⟨⟨_, rfl⟩, .inl ⟨hst.out.1, ?_⟩⟩
      have := hst.out.2.2
      rwa [List.take_of_length_le (by rw [HNN.out]; exact Nat.le_refl _)] at this
end Go.Proofs.Ytkefppdacigbmaa
