/- As K7, where one operation (a box that is made) may come up at any time until the chain is all but done.
A range over a function: its record, its rounds (a body that may leave by a return), and what stays beside.
A block of the call's own that holds what it held, or what it is to hold: for a region that draws its order and stores there.
Regions: whole (eight bytes as a number), the closures of Some.
Regions: Some. (Four walks alike, printed by a program.)
The event that speaks against covering: Counter. (Printed by a program.)
Boxes of regions that a drawn region makes.
The names of either of both, and what both ask of them: asked. (Printed by a program.)
The iterator over the names of either of both (asked's second closure).
Apart.
Overlaps, Any.
Subs (24): Reset; the closures of wanted. -/
import Derived.RangeFuncNested
import Derived.RangeFuncBound
import Derived.RangeFuncCalls
import Derived.RangeFuncLeaves
import Derived.Shelf.Abstract
import Derived.Shelf.RegionOpen
import Derived.WalkKit
import Derived.OwnWalkIn
import Derived.TacticsInMore
import Derived.LoopNIn
import Derived.LoopIn
import Derived.LoopTactic
import Derived.Laws.BitsAllLaws
import Derived.Laws.EntriesVeiled
import Derived.Test.YtlhbpflcffjhmaaGreatPk13
import Derived.Test.YtlhbpflcffjhmaaGreatPk3
import Derived.Test.YtlhbpflcffjhmaaGreatPk4
import Derived.Test.YtlhbpflcffjhmaaGreatPk10
import Derived.Test.YtlhbpflcffjhmaaGreatPk6
import Derived.Test.YtlhbpflcffjhmaaGreatPk12
import Derived.Test.YtlhbpflcffjhmaaGreatPk11
namespace Go.Proofs.YtlhbpflcffjhmaaGreat
open Go.RowKit

section
variable {P : Program}

theorem s_step {ops : Array Oper} {F : Nat → Value → World → Prop} {a0 : Act} {w0 : World} {Q : Exit → Act → World → Prop} {fuel : Nat} {listed : Array Bool} {a : Act} {w : World} {i : Nat} {o : Oper} (Di : List (Nat × Tmp))
    (hi : i ∈ Region.ready .any ops listed) (ho : ops[i]? = some o) (hopk : opOk ops a0.tmps.size i o Di = true) (hob : Ob P ops F a0 w0 i o Di)
    (hst : ∀ i v w w', Ext w w' → F i v w → F i v w') (hI : Inv ops F a0 w0 listed a w)
    (next' : ∀ v w', Inv ops F a0 w0 (listed.setIfInBounds i true) (a.put o.dst v) w' → wpAny P .any ops Q fuel (listed.setIfInBounds i true) (a.put o.dst v) w') :
    wpOp P ops Q i (wpAny P .any ops Q fuel (listed.setIfInBounds i true)) a w := by
  obtain ⟨h0, o', ho', hafter⟩ := mem_ready.1 hi
  obtain rfl : o = o' := by rw [ho] at ho'; exact Option.some.inj ho'
  have hil : i < ops.size := (Array.getElem?_eq_some_iff.1 ho).1
  have hil' : i < listed.size := hI.size ▸ hil
  have h0' : listed.getD i false = false := by simp [hil'] at h0 ⊢; exact h0
  simp only [opOk, Bool.and_eq_true] at hopk
  obtain ⟨⟨⟨⟨hk1, hk2⟩, hk3⟩, hk4⟩, hk5⟩ := hopk
  have hdep2 : ∀ p ∈ Di, waits ops i p.1 = true ∧ dstOf ops p.1 = some p.2 := fun p hp => by
    have := List.all_eq_true.1 hk3 p hp
    simpa using this
  have hdeps : ∀ p ∈ Di, listed.getD p.1 false = true := fun p hp => waits_of_ready hi p.1 (hdep2 p hp).1
  have hsel : ∀ cs b, o.op ≠ .select cs b := by intro cs b e; rw [e] at hk2; cases hk2
  have hjlt : ∀ j, listed.getD j false = true → j < ops.size := fun j hj => by
    rcases Nat.lt_or_ge j listed.size with h' | h'
    · exact hI.size ▸ h'
    · simp [Array.getElem?_eq_none h'] at hj
  obtain ⟨c, hk, hc1, hc2, hc3⟩ := depsThen_at a _ (Di) a0 hI.ts.symm (fun p hp => by
    have := hI.fact p.1 (hjlt p.1 (hdeps p hp)) (hdeps p hp)
    simp only [(hdep2 p hp).2] at this
    exact this) (hob w hI.ext)
  have same : ∀ s ∈ o.looksAt ops, c.tmps[s]? = a.tmps[s]? := by
    intro s hs
    refine tmps_ext hc1 ?_
    rw [hc3]
    split
    · rfl
    · rename_i hn
      refine (hI.old s fun j hj => ?_).symm
      have hjl : j < ops.size := by
        unfold dstOf at hj
        rcases Nat.lt_or_ge j ops.size with h' | h'
        · exact h'
        · rw [Array.getElem?_eq_none h'] at hj; cases hj
      have h1 := List.all_eq_true.1 (List.all_eq_true.1 hk5 s hs) j (List.mem_range.2 hjl)
      simp only [Bool.or_eq_true, bne_iff_ne, ne_eq, beq_iff_eq] at h1
      rcases h1 with ((h1 | h1) | h1) | h1
      · exact absurd hj h1
      · exfalso
        rw [List.any_eq_true] at h1
        obtain ⟨p, hp, hpj⟩ := h1
        have hd := (hdep2 p hp).2
        rw [eq_of_beq hpj, hj] at hd
        exact hn ⟨p, hp, (Option.some.inj hd).symm⟩
      · rw [h1]; exact h0'
      · cases hlj : listed.getD j false with
        | false => rfl
        | true => have := hI.down j hlj i h1; rw [h0'] at this; cases this
  have heval : execOp c.eval o = execOp a.eval o := execOp_congr o hsel fun x hx => by
    cases x with
    | tmp t =>
      have := same t (List.mem_append_left _ (List.mem_filterMap.2 ⟨.tmp t, by simpa using hx, rfl⟩))
      simp [Act.eval, this]
    | _ => rfl
  have hwant : Region.wanted o (yielded ops c.tmps) = Region.wanted o (yielded ops a.tmps) := by
    unfold Region.wanted
    cases hg : o.guard with
    | none => rfl
    | some gw =>
      obtain ⟨g, want⟩ := gw
      have hy : yielded ops c.tmps g = yielded ops a.tmps g := by
        unfold yielded
        cases ht : (ops[g]?).bind (·.dst) with
        | none => rfl
        | some t =>
          have := same t (by simp [Oper.looksAt, hg, ht])
          simp [this]
      simp only [hy]
  have next : ∀ v w', Ext w w' → F i (match o.dst with | some d => (c.put o.dst v).tmps.getD d undef | none => undef) w' →
      wpAny P .any ops Q fuel (listed.setIfInBounds i true) (a.put o.dst v) w' := by
    intro v w' hx hF
    have hdst : dstOf ops i = o.dst := by simp [dstOf, ho]
    refine next' v w' ⟨by simpa using hI.size, by rw [put_size]; exact hI.ts, by rw [put_defers]; exact hI.df, ?_, ?_, ?_, hI.ext.trans hx⟩
    · intro s hs
      have hne : o.dst ≠ some s := fun e => by
        have := hs i (hdst.trans e)
        simp [hil'] at this
      rw [put_getD_ne _ hne]
      refine hI.old s fun j hj => ?_
      by_cases hji : i = j
      · rw [← hji]; exact h0'
      · have := hs j hj
        rwa [getD_set_ne false hji] at this
    · intro j hj hlj
      by_cases hji : i = j
      · subst hji
        rw [hdst]
        cases hd : o.dst with
        | none => simp only [hd] at hF; exact hF
        | some d =>
          simp only [hd] at hF hk1
          simp only [Bool.and_eq_true, decide_eq_true_eq] at hk1
          rw [put_getD_eq _ (by rw [hc1, hI.ts]; exact hk1.1)] at hF
          show F i ((a.put (some d) v).tmps.getD d undef) w'
          rw [put_getD_eq _ (by rw [hI.ts]; exact hk1.1)]
          exact hF
      · rw [getD_set_ne false hji] at hlj
        have hfj := hst _ _ _ _ hx (hI.fact j hj hlj)
        cases hdj : dstOf ops j with
        | none => simp only [hdj] at hfj; exact hfj
        | some d =>
          simp only [hdj] at hfj
          have hne : o.dst ≠ some d := fun e => by
            rw [e] at hk1
            simp only [Bool.and_eq_true] at hk1
            have := List.all_eq_true.1 hk1.2 j (List.mem_range.2 hj)
            simp [hdj, Ne.symm hji] at this
          show F j ((a.put o.dst v).tmps.getD d undef) w'
          rw [put_getD_ne _ hne]
          exact hfj
    · intro j hlj k hw
      by_cases hji : i = j
      · subst hji; exact getD_set_true (waits_of_ready hi k hw)
      · rw [getD_set_ne false hji] at hlj
        exact getD_set_true (hI.down j hlj k hw)
  unfold wpOp
  rw [ho]
  simp only []
  rw [← hwant]
  simp only [wpList] at hk
  split
  · rename_i hw
    rw [if_pos hw] at hk
    rcases hk with hk | ⟨_, x, y, hxy⟩
    · refine .inl ?_
      unfold Oper.wp at hk ⊢
      rw [heval] at hk
      generalize (execOp a.eval o).run P w = r at *
      cases r with
      | ok n w' =>
        cases n <;> simp only [Oper.upon] at hk ⊢
        case value u => exact next u w' hk.2.1 hk.2.2.2
        case skip => exact next undef w' hk.2.1 hk.2.2.2
        case defer d =>
          have := hk.2.2.1
          rw [put_defers] at this
          exact absurd this (by simp)
        case enter f args =>
          refine Calls.mono hk fun e w'' he => ?_
          cases e with
          | returned u => exact next u w'' he.2.1 he.2.2.2
          | panicked c => exact absurd he.1 (by simp)
          | outgrown => obtain ⟨_, _, h⟩ := he; exact absurd h.1 (by simp)
        case row row args => exact Rows.mono hk fun u w'' he => next u w'' he.2.1 he.2.2.2
      | halt x w' =>
        cases x <;> simp only [Oper.upon] at hk ⊢
        case panic u => exact absurd hk.1 (by simp)
    · exact absurd hxy.1 (by simp)
  · rename_i hw
    rw [if_neg hw] at hk
    exact next undef w hk.2.1 hk.2.2.2

theorem count_put {listed : Array Bool} {i n : Nat} (h : i < listed.size) (h0 : listed.getD i false = false) (hn : listed.count false = n + 1) : (listed.setIfInBounds i true).count false = n := by
  have hset : listed.setIfInBounds i true = listed.set i true h := by simp [Array.setIfInBounds, h]
  rw [hset, Array.count_set]
  have : listed[i] = false := by simpa [h] using h0
  simp [this]; omega

theorem count_upto {listed : Array Bool} {m : Nat} (hms : m ≤ listed.size) (hl : ∀ j, j < m → listed.getD j false = true) (hno : ∀ j, m ≤ j → listed.getD j false = false) : m + listed.count false = listed.size := by
  have e : listed = (List.replicate m true ++ List.replicate (listed.size - m) false).toArray := by
    apply Array.ext
    · simp; omega
    · intro j h1 h2
      have hj : j < listed.size := h1
      rcases Nat.lt_or_ge j m with hjm | hjm
      · have := hl j hjm
        simp [hj] at this
        rw [this]
        simp [hjm]
      · have := hno j hjm
        simp [hj] at this
        rw [this]
        have : ¬ j < m := by omega
        simp [List.getElem_append, this]
  conv => lhs; rw [e]
  simp [List.count_append, List.count_replicate]
  omega

theorem step_op {ops : Array Oper} {Q : Exit → Act → World → Prop} {fuel : Nat} {listed : Array Bool} {a : Act} {w : World} {k : Nat} {o : Oper} {rest : List Oper} (ho : ops[k]? = some o) (h : wpList P ops Q (o :: rest) a w)
    (next : ∀ a w, wpList P ops Q rest a w → wpAny P .any ops Q fuel (listed.setIfInBounds k true) a w) : wpOp P ops Q k (wpAny P .any ops Q fuel (listed.setIfInBounds k true)) a w := by
  unfold wpOp
  rw [ho]
  simp only []
  simp only [wpList] at h
  split
  · rename_i hw
    rw [if_pos hw] at h
    exact h.imp (Oper.wp_mono next) id
  · rename_i hw
    rw [if_neg hw] at h
    exact next _ _ h

theorem deps_act {ops : Array Oper} {F : Nat → Value → World → Prop} {a0 : Act} {w0 : World} {listed : Array Bool} {a : Act} {w : World} {E : List (Nat × Tmp)} {k : Act → Prop} (hI : Inv ops F a0 w0 listed a w)
    (hE : ∀ p ∈ E, p.1 < ops.size ∧ dstOf ops p.1 = some p.2 ∧ listed.getD p.1 false = true) (hn : ∀ j s, dstOf ops j = some s → (∀ p ∈ E, p.1 ≠ j) → listed.getD j false = false)
    (h : depsThen F w E a0 k) : k a := by
  obtain ⟨c, hk, hc1, hc2, hc3⟩ := depsThen_at a _ E a0 hI.ts.symm (fun p hp => by
    have hd := hE p hp
    have := hI.fact p.1 hd.1 hd.2.2
    simp only [hd.2.1] at this
    exact this) h
  have : c = a := by
    obtain ⟨ct, cd⟩ := c
    obtain ⟨at', ad⟩ := a
    have e2 : cd = ad := hc2.trans hI.df.symm
    have e1 : ct = at' := by
      apply Array.ext_getElem?
      intro s
      refine tmps_ext (a := ⟨ct, cd⟩) (b := ⟨at', ad⟩) hc1 ?_
      rw [hc3]
      split
      · rfl
      · rename_i hne
        refine (hI.old s fun j hj => hn j s hj fun p hp e => hne ⟨p, hp, ?_⟩).symm
        have := (hE p hp).2.1
        rw [e, hj] at this
        exact (Option.some.inj this).symm
    rw [e1, e2]
  rw [← this]; exact hk

/-- From m on each operation but m + 1 waits for all ahead of it (m + 1 aside, as to m); those behind m + 1 for that one too. -/
def lateOk (ops : Array Oper) (m : Nat) : Bool :=
  ((List.range m).all fun j => (List.range (m + 1)).any fun k => decide (j < k) && waits ops k j) &&
  ((List.range ops.size).all fun i => i < m + 2 || (waits ops i (m + 1) && waits ops i m))

theorem region_late {ops : Array Oper} {m dx : Nat} {om ox : Oper} {F : Nat → Value → World → Prop} {a0 : Act} {w0 : World} {D : List (List (Nat × Tmp))} {E : List (Nat × Tmp)} {Q : Exit → Act → World → Prop}
    (hok : opsOk ops a0.tmps.size 0 (ops.toList.take m) D = true) (hms : m + 2 ≤ ops.size) (hom : ops[m]? = some om) (hox : ops[m + 1]? = some ox) (hokx : opOk ops a0.tmps.size (m + 1) ox [] = true) (hdx : dstOf ops (m + 1) = some dx)
    (hE : ((E.all fun p => decide (p.1 < m) && dstOf ops p.1 == some p.2) && (List.range m).all fun j => match dstOf ops j with | some _ => E.any fun p => p.1 == j | none => true) = true)
    (hc : chainOk ops (m + 2) = true) (hlate : lateOk ops m = true) (hord : ∀ i o, ops[i]? = some o → ∀ e ∈ o.after, Region.binds .any e = true → e.on < i) (hordm : ∀ o, ops[m + 1]? = some o → ∀ e ∈ o.after, Region.binds .any e = true → False) (hordn : waits ops m (m + 1) = false)
    (hst : ∀ i v w w', Ext w w' → F i v w → F i v w')
    (hob : Obs P ops F a0 w0 0 (ops.toList.take m) D) (hobx : Ob P ops F a0 w0 (m + 1) ox [])
    (hendA : ∀ w, Ext w0 w → depsThen F w (E ++ [(m + 1, dx)]) a0 (fun a => wpList P ops Q (om :: ops.toList.drop (m + 2)) a w))
    (hendB : ∀ w, Ext w0 w → depsThen F w E a0 (fun a => wpList P ops Q (om :: ox :: ops.toList.drop (m + 2)) a w)) :
    ∀ (fuel : Nat) (listed : Array Bool) (a : Act) (w : World), listed.count false = fuel → (∀ j, m ≤ j → j ≠ m + 1 → listed.getD j false = false) → Inv ops F a0 w0 listed a w → wpAny P .any ops Q fuel listed a w := by
  have hget : ∀ {i o}, i < m → ops[i]? = some o → (ops.toList.take m)[i]? = some o := fun {i o} hi h => by
    rw [List.getElem?_take, if_pos hi]; simpa using h
  have hall : ∀ {i o}, i < m → ops[i]? = some o → opOk ops a0.tmps.size i o (D.getD i []) = true := fun {i o} hi h => by
    have := opsOk_get hok i o (hget hi h); simpa using this
  have hobs : ∀ {i o}, i < m → ops[i]? = some o → Ob P ops F a0 w0 i o (D.getD i []) := fun {i o} hi h => by
    have := Obs_get hob i o (hget hi h); simpa using this
  simp only [lateOk, Bool.and_eq_true] at hlate
  have hEE : ∀ p ∈ E, p.1 < m ∧ dstOf ops p.1 = some p.2 := fun p hp => by
    simp only [Bool.and_eq_true] at hE
    have hd := List.all_eq_true.1 hE.1 p hp
    simpa using hd
  have hEn : ∀ j s, j < m → dstOf ops j = some s → ∃ p ∈ E, p.1 = j := fun j s hj hd => by
    simp only [Bool.and_eq_true] at hE
    have h2 := List.all_eq_true.1 hE.2 j (List.mem_range.2 hj)
    simp only [hd, List.any_eq_true, beq_iff_eq] at h2
    exact h2
  have hlate1 : ∀ i, m + 2 ≤ i → i < ops.size → waits ops i (m + 1) = true ∧ waits ops i m = true := fun i h1 h2 => by
    have := List.all_eq_true.1 hlate.2 i (List.mem_range.2 h2)
    simp only [Bool.or_eq_true, decide_eq_true_eq, Bool.and_eq_true] at this
    rcases this with h | h
    · omega
    · exact h
  -- m waits, by way of others, for all ahead
  have hreach : ∀ (listed : Array Bool), (∀ j, listed.getD j false = true → ∀ i, waits ops j i = true → listed.getD i false = true) → (∀ j, waits ops m j = true → listed.getD j false = true) → ∀ j, j < m → listed.getD j false = true := by
    intro listed down hd
    have key : ∀ d j, m - j = d → j < m → listed.getD j false = true := by
      intro d
      induction d using Nat.strongRecOn with
      | _ d ih =>
        intro j hd' hj
        have h1 := List.all_eq_true.1 hlate.1 j (List.mem_range.2 hj)
        obtain ⟨k, hk, hk2⟩ := List.any_eq_true.1 h1
        simp only [Bool.and_eq_true, decide_eq_true_eq] at hk2
        have hki := List.mem_range.1 hk
        by_cases he : k = m
        · subst he; exact hd j hk2.2
        · exact down k (ih (m - k) (by omega) k rfl (by omega)) j hk2.2
    intro j hj
    exact key _ j rfl hj
  have hready_of : ∀ (listed : Array Bool) (a : Act) (w : World) (i : Nat) (o : Oper), Inv ops F a0 w0 listed a w → ops[i]? = some o → listed.getD i false = false → (∀ e ∈ o.after, Region.binds .any e = true → listed.getD e.on false = true) → i ∈ Region.ready .any ops listed := by
    intro listed a w i o hI ho h0 hall
    have hi : i < ops.size := (Array.getElem?_eq_some_iff.1 ho).1
    have : i < listed.size := by rw [hI.size]; exact hi
    refine mem_ready.2 ⟨?_, o, ho, hall⟩
    simp [this] at h0 ⊢; exact h0
  -- behind m + 1: the chain
  have tail : ∀ (fuel : Nat) (listed : Array Bool) (a : Act) (w : World), listed.size = ops.size → listed.count false = fuel → (∀ j, j < m + 2 → listed.getD j false = true) → (∀ j, m + 2 ≤ j → listed.getD j false = false) →
      (∀ j, listed.getD j false = true → ∀ i, waits ops j i = true → listed.getD i false = true) → wpList P ops Q (ops.toList.drop (m + 2)) a w → wpAny P .any ops Q fuel listed a w := by
    intro fuel listed a w hs hcn hl hno hdn h
    refine chain_any hc hord fuel (m + 2) listed a w (Nat.le_refl _) ?_ hs hl hno hdn h
    have := count_upto (by rw [hs]; exact hms) hl hno
    omega
  have hput : ∀ (listed : Array Bool) (i j : Nat), i < listed.size → (listed.setIfInBounds i true).getD j false = if i = j then true else listed.getD j false := by
    intro listed i j hi
    by_cases e : i = j
    · subst e; simp [hi]
    · rw [getD_set_ne false e, if_neg e]
  have hdown : ∀ (listed : Array Bool) (i : Nat), i < listed.size → (∀ j, listed.getD j false = true → ∀ i, waits ops j i = true → listed.getD i false = true) → (∀ j, waits ops i j = true → listed.getD j false = true) → ∀ j, (listed.setIfInBounds i true).getD j false = true → ∀ k, waits ops j k = true → (listed.setIfInBounds i true).getD k false = true := by
    intro listed i hi hdn hw j hj k hk
    rw [hput _ _ _ hi] at hj ⊢
    split
    · rfl
    · by_cases e : i = j
      · subst e; exact hw k hk
      · rw [if_neg e] at hj; exact hdn j hj k hk
  intro fuel
  induction fuel with
  | zero =>
    intro listed a w hc0 hno hI
    exfalso
    have h1 := hno m (Nat.le_refl _) (by omega)
    have hm' : m < listed.size := by rw [hI.size]; omega
    have := Array.count_eq_zero.1 hc0
    simp [hm'] at h1
    exact this (h1 ▸ Array.getElem_mem hm')
  | succ fuel ih =>
    intro listed a w hcn hno hI
    have hm' : m < listed.size := by rw [hI.size]; omega
    have hx' : m + 1 < listed.size := by rw [hI.size]; omega
    -- an operation by its facts
    have facts : ∀ i, i ∈ Region.ready .any ops listed → (i < m ∨ i = m + 1) → wpOp P ops Q i (wpAny P .any ops Q fuel (listed.setIfInBounds i true)) a w := by
      intro i hi him
      obtain ⟨h0, o, ho, _⟩ := mem_ready.1 hi
      have his : i < listed.size := by rw [hI.size]; exact (Array.getElem?_eq_some_iff.1 ho).1
      have h0' : listed.getD i false = false := by simp [his] at h0 ⊢; exact h0
      have nx : ∀ v w', Inv ops F a0 w0 (listed.setIfInBounds i true) (a.put o.dst v) w' → wpAny P .any ops Q fuel (listed.setIfInBounds i true) (a.put o.dst v) w' := fun v w' hI' => by
        refine ih _ _ _ (count_put his h0' hcn) (fun j hj hjx => ?_) hI'
        rw [hput _ _ _ his, if_neg (by omega)]; exact hno j hj hjx
      rcases him with him | him
      · exact s_step _ hi ho (hall him ho) (hobs him ho) hst hI nx
      · subst him
        obtain rfl : ox = o := by rw [hox] at ho; exact Option.some.inj ho
        exact s_step _ hi ho hokx hobx hst hI nx
    by_cases hl : ∀ j, j < m → listed.getD j false = true
    · have hmr : m ∈ Region.ready .any ops listed := hready_of listed a w m om hI hom (hno m (Nat.le_refl _) (by omega)) fun e he hb => hl _ (hord m _ hom e he hb)
      refine ⟨fun hr => absurd hmr (by rw [hr]; exact List.not_mem_nil), fun i hi => ?_⟩
      obtain ⟨h0, o, ho, _⟩ := mem_ready.1 hi
      have his : i < ops.size := (Array.getElem?_eq_some_iff.1 ho).1
      have hil : i < listed.size := by rw [hI.size]; exact his
      have h0' : listed.getD i false = false := by simp [hil] at h0 ⊢; exact h0
      by_cases hix : i = m + 1
      · exact facts i hi (.inr hix)
      · have him : i = m := by
          rcases Nat.lt_trichotomy i m with h | h | h
          · rw [hl i h] at h0'; cases h0'
          · exact h
          · exfalso
            have := waits_of_ready hi m (hlate1 i (by omega) his).2
            rw [hno m (Nat.le_refl _) (by omega)] at this; cases this
        subst him
        obtain rfl : om = o := by rw [hom] at ho; exact Option.some.inj ho
        have hdn1 := hdown listed i hil hI.down (waits_of_ready hi)
        cases hx : listed.getD (i + 1) false with
        | true =>
          have h := deps_act hI (E := E ++ [(i + 1, dx)]) (fun p hp => by
            rcases List.mem_append.1 hp with hp | hp
            · have := hEE p hp; exact ⟨by omega, this.2, hl p.1 this.1⟩
            · rw [List.mem_singleton.1 hp]; exact ⟨by show i + 1 < _; omega, hdx, hx⟩) (fun j s hj hne => by
            rcases Nat.lt_or_ge j i with h | h
            · obtain ⟨p, hp, e⟩ := hEn j s h hj
              exact absurd e (hne p (List.mem_append_left _ hp))
            · refine hno j h fun e => ?_
              exact hne (i + 1, dx) (List.mem_append_right _ (List.mem_singleton.2 rfl)) e.symm) (hendA w hI.ext)
          refine step_op ho h fun a' w' h' => tail fuel _ a' w' (by simpa using hI.size) (count_put hil h0' hcn) (fun j hj => ?_) (fun j hj => ?_) hdn1 h'
          · rw [hput _ _ _ hil]; split
            · rfl
            · by_cases e : j = i + 1
              · subst e; exact hx
              · exact hl j (by omega)
          · rw [hput _ _ _ hil, if_neg (by omega)]; exact hno j (by omega) (by omega)
        | false =>
          have h := deps_act hI (E := E) (fun p hp => by have := hEE p hp; exact ⟨by omega, this.2, hl p.1 this.1⟩) (fun j s hj hne => by
            rcases Nat.lt_or_ge j i with h | h
            · obtain ⟨p, hp, e⟩ := hEn j s h hj
              exact absurd e (hne p hp)
            · by_cases e : j = i + 1
              · subst e; exact hx
              · exact hno j h e) (hendB w hI.ext)
          refine step_op ho h fun a' w' h' => ?_
          have hcn1 := count_put hil h0' hcn
          cases fuel with
          | zero =>
            exfalso
            have h1 : (listed.setIfInBounds i true).getD (i + 1) false = false := by rw [hput _ _ _ hil, if_neg (by omega)]; exact hx
            have hs1 : i + 1 < (listed.setIfInBounds i true).size := by simpa using hx'
            have := Array.count_eq_zero.1 hcn1
            have h2 : (listed.setIfInBounds i true)[i + 1] = false := by simp only [Array.getD_eq_getD_getElem?, Array.getElem?_eq_getElem hs1, Option.getD_some] at h1; exact h1
            exact this (h2 ▸ Array.getElem_mem hs1)
          | succ fuel =>
            have hs1 : (listed.setIfInBounds i true).size = ops.size := by simpa using hI.size
            have hx1 : (listed.setIfInBounds i true).getD (i + 1) false = false := by rw [hput _ _ _ hil, if_neg (by omega)]; exact hx
            have hil1 : i + 1 < (listed.setIfInBounds i true).size := by rw [hs1]; omega
            have hmr1 : i + 1 ∈ Region.ready .any ops (listed.setIfInBounds i true) := by
              refine mem_ready.2 ⟨?_, ox, hox, fun e he hb => (hordm ox hox e he hb).elim⟩
              have h2 := hx1
              simp only [Array.getD_eq_getD_getElem?, Array.getElem?_eq_getElem hil1, Option.getD_some] at h2
              simpa [hx'] using h2
            refine ⟨fun hr => absurd hmr1 (by rw [hr]; exact List.not_mem_nil), fun k hk => ?_⟩
            obtain ⟨k0, o, hok2, _⟩ := mem_ready.1 hk
            have hks : k < ops.size := (Array.getElem?_eq_some_iff.1 hok2).1
            have hkl : k < (listed.setIfInBounds i true).size := by rw [hs1]; exact hks
            have k0' : (listed.setIfInBounds i true).getD k false = false := by
              simp only [Array.getD_eq_getD_getElem?, Array.getElem?_eq_getElem hkl, Option.getD_some]
              simpa [hkl, hks, hI.size] using k0
            have hki : k = i + 1 := by
              rw [hput _ _ _ hil] at k0'
              split at k0'
              · cases k0'
              · rcases Nat.lt_trichotomy k (i + 1) with h | h | h
                · rw [hl k (by omega)] at k0'; cases k0'
                · exact h
                · exfalso
                  have := waits_of_ready hk (i + 1) (hlate1 k (by omega) hks).1
                  rw [hx1] at this; cases this
            subst hki
            have hdn2 := hdown _ (i + 1) hil1 hdn1 (waits_of_ready hk)
            refine step_op hox h' fun a'' w'' h'' => tail fuel _ a'' w'' (by simpa using hI.size) (count_put hil1 hx1 hcn1) (fun j hj => ?_) (fun j hj => ?_) hdn2 h''
            · rw [hput _ _ _ hil1]; split
              · rfl
              · rw [hput _ _ _ hil]; split
                · rfl
                · exact hl j (by omega)
            · rw [hput _ _ _ hil1, if_neg (by omega), hput _ _ _ hil, if_neg (by omega)]; exact hno j (by omega) (by omega)
    · refine ⟨fun hr => ?_, fun i hi => ?_⟩
      · exfalso
        apply hl
        intro j
        induction j using Nat.strongRecOn with
        | _ j ihj =>
          intro hjm
          have hj : j < ops.size := by omega
          cases hlj : listed.getD j false with
          | true => rfl
          | false =>
            exfalso
            have ho : ops[j]? = some ops[j] := by simp [hj]
            have hmem := hready_of listed a w j _ hI ho hlj fun e he hb => by
              have := hord j _ ho e he hb
              exact ihj e.on this (by omega)
            rw [hr] at hmem
            cases hmem
      · refine facts i hi ?_
        obtain ⟨_, o, ho, _⟩ := mem_ready.1 hi
        have his : i < ops.size := (Array.getElem?_eq_some_iff.1 ho).1
        rcases Nat.lt_trichotomy i m with h | h | h
        · exact .inl h
        · exfalso; subst h; exact hl (hreach listed hI.down (waits_of_ready hi))
        · by_cases e : i = m + 1
          · exact .inr e
          · exfalso
            have := waits_of_ready hi m (hlate1 i (by omega) his).2
            rw [hno m (Nat.le_refl _) (by omega)] at this; cases this

/-- A REGION THAT DRAWS ITS ORDER AND ENDS IN A CHAIN, whose second operation (a box that is made) may come up at any time ahead. -/
theorem wp_region_late {id : Nat} {l : List Oper} (m dx : Nat) (om ox : Oper) (Fs : List Fact) (D : List (List (Nat × Tmp))) (E : List (Nat × Tmp)) {a0 : Act} {w0 : World} {Q : Exit → Act → World → Prop}
    (hm : P.follows .mixedOrders = true) (hom : l[m]? = some om) (hox : l[m + 1]? = some ox) (hdx : ox.dst = some dx)
    (hok : (opsOk l.toArray a0.tmps.size 0 (l.take m) D && decide (m + 2 ≤ l.length) && opOk l.toArray a0.tmps.size (m + 1) ox [] && ((E.all fun p => decide (p.1 < m) && dstOf l.toArray p.1 == some p.2) && (List.range m).all fun j => match dstOf l.toArray j with | some _ => E.any fun p => p.1 == j | none => true) && chainOk l.toArray (m + 2) && lateOk l.toArray m && ordOk l.toArray && (ox.after.all fun e => !Region.binds .any e) && !waits l.toArray m (m + 1)) = true)
    (hob : Obs P l.toArray (factAt Fs) a0 w0 0 (l.take m) D) (hobx : Ob P l.toArray (factAt Fs) a0 w0 (m + 1) ox [])
    (hendA : ∀ w, Ext w0 w → depsThen (factAt Fs) w (E ++ [(m + 1, dx)]) a0 (fun a => wpList P l.toArray Q (om :: l.drop (m + 2)) a w))
    (hendB : ∀ w, Ext w0 w → depsThen (factAt Fs) w E a0 (fun a => wpList P l.toArray Q (om :: ox :: l.drop (m + 2)) a w)) :
    (Code.region id l.toArray true).wp P Q a0 w0 := by
  simp only [Bool.and_eq_true] at hok
  obtain ⟨⟨⟨⟨⟨⟨⟨⟨k1, k2⟩, k3⟩, k4⟩, k5⟩, k6⟩, k7⟩, k8⟩, k9⟩ := hok
  have hno : ∀ j, (Array.replicate l.toArray.size false).getD j false = false := fun j => by
    simp only [Array.getD_eq_getD_getElem?, Array.getElem?_replicate]; split <;> rfl
  refine wp_region_any hm (region_late (m := m) (dx := dx) (om := om) (ox := ox) (F := factAt Fs) (D := D) (E := E) (w0 := w0) k1 (by simpa using k2) (by simpa using hom) (by simpa using hox) k3 (by simp [dstOf, hox, hdx]) (by simp only [Bool.and_eq_true]; exact k4) k5 k6 ?_ ?_ (by simpa using k9) (fun i v w w' hx h => (Fs.getD i Fact.any).st v w w' hx h) hob hobx hendA hendB _ _ _ _ ?_ (fun j _ _ => hno j) ?_)
  · intro i o ho e he hb
    have hi : i < l.toArray.size := (Array.getElem?_eq_some_iff.1 ho).1
    have h1 := List.all_eq_true.1 k7 i (List.mem_range.2 hi)
    simp only [ho] at h1
    have h2 := (Array.all_eq_true_iff_forall_mem.1 h1) e he
    simpa [hb] using h2
  · intro o ho e he hb
    obtain rfl : ox = o := by
      have : l[m + 1]? = some o := by simpa using ho
      rw [hox] at this; exact Option.some.inj this
    have h2 := (Array.all_eq_true_iff_forall_mem.1 k8) e he
    simp [hb] at h2
  · simp
  · exact ⟨by simp, rfl, rfl, fun _ _ => rfl, fun j _ h => (by rw [hno] at h; cases h), fun j h => (by rw [hno] at h; cases h), (Ext.refl w0).drew⟩

end
end Go.Proofs.YtlhbpflcffjhmaaGreat

namespace Go.Proofs.YtlhbpflcffjhmaaGreat
open Go.RowKit Go.Shelf
attribute [local go_sem] Oper.semAt_some

/-- The blocks of S alone may turn. -/
structure Keeps (S : Nat → Prop) (W W' : World) : Prop where
  os : W'.os = W.os
  tape : W'.tape = W.tape
  output : W'.output = W.output
  size : W.heap.size ≤ W'.heap.size
  block : ∀ k, k < W.heap.size → ¬ S k → W'.heap[k]? = W.heap[k]?
theorem Keeps.refl (S : Nat → Prop) (W : World) : Keeps S W W := ⟨rfl, rfl, rfl, Nat.le_refl _, fun _ _ _ => rfl⟩
theorem Keeps.trans {S : Nat → Prop} {A B C : World} (h : Keeps S A B) (k : Keeps S B C) : Keeps S A C :=
  ⟨k.os.trans h.os, k.tape.trans h.tape, k.output.trans h.output, Nat.le_trans h.size k.size, fun i hi hs => (k.block i (Nat.lt_of_lt_of_le hi h.size) hs).trans (h.block i hi hs)⟩
theorem Keeps.of_grown {S : Nat → Prop} {W W' : World} {row : Option Nat} (hg : W.grownBy W' row) (h : ∀ k, row = some k → S k) : Keeps S W W' :=
  ⟨hg.os, hg.tape, hg.output, hg.size, fun k hk hs => hg.block k hk (fun e => hs (h k e.symm))⟩
theorem Keeps.of_ext {S : Nat → Prop} {W W' : World} (h : Ext W W') : Keeps S W W' := ⟨h.os, h.tape, h.output, h.size, fun k hk _ => h.block k hk⟩
theorem Keeps.ext {S : Nat → Prop} {w W W' : World} (h : Keeps S W W') (hx : Ext w W) (hS : ∀ k, S k → w.heap.size ≤ k) : Ext w W' :=
  ⟨h.os.trans hx.os, h.tape.trans hx.tape, h.output.trans hx.output, Nat.le_trans hx.size h.size, fun k hk => (h.block k (Nat.lt_of_lt_of_le hk hx.size) (fun e => by have := hS k e; omega)).trans (hx.block k hk)⟩
theorem Keeps.heap {S : Nat → Prop} {W W' : World} (h : Keeps S W W') {k : Nat} {o : Obj} (ho : W.heap[k]? = some o) (hS : ¬ S k) : W'.heap[k]? = some o :=
  (h.block k (Array.getElem?_eq_some_iff.1 ho).1 hS).trans ho
theorem Keeps.mono {S T : Nat → Prop} {W W' : World} (h : Keeps S W W') (hST : ∀ k, S k → T k) : Keeps T W W' :=
  ⟨h.os, h.tape, h.output, h.size, fun k hk hs => h.block k hk (fun e => hs (hST k e))⟩
theorem own_mono {W : World} {base base' : Nat} {e : TypeId} {size n : Nat} {v : Value} {xs : List Value} (h : W.ownsRow base e size v n xs) (hb : base' ≤ base) : W.ownsRow base' e size v n xs := by
  obtain ⟨h1, h2⟩ := h
  refine ⟨h1, ?_⟩
  rcases h2 with h2 | ⟨g, cap, cur, hv, hg, r⟩
  · exact .inl h2
  · exact .inr ⟨g, cap, cur, hv, Nat.le_trans hb hg, r⟩
theorem own_keeps {S : Nat → Prop} {W W' : World} {base : Nat} {e : TypeId} {size n : Nat} {v : Value} {xs : List Value} (h : W.ownsRow base e size v n xs) (hk : Keeps S W W') (hS : ∀ k, S k → v.ownBlock ≠ some k) : W'.ownsRow base e size v n xs := by
  obtain ⟨h1, h2⟩ := h
  refine ⟨h1, ?_⟩
  rcases h2 with h2 | ⟨g, cap, cur, hv, hg, hh, r⟩
  · exact .inl h2
  · exact .inr ⟨g, cap, cur, hv, hg, hk.heap hh (fun e => hS g e (by rw [hv]; rfl)), r⟩
theorem Keeps.put (S : Nat → Prop) (W : World) (l : Nat) (o : Obj) (h : S l) : Keeps S W (W.putObj l o) := Keeps.of_grown (grownBy_putObj' W l o) (fun k e => by cases e; exact h)
theorem Keeps.cell (S : Nat → Prop) (W : World) (l : Nat) (x : Value) (h : S l) : Keeps S W (W.setCell ⟨l, 0, none⟩ x) := Keeps.of_grown (grownBy_setCell' W l x) (fun k e => by cases e; exact h)
theorem Keeps.row (S : Nat → Prop) (W : World) (l : Nat) (cs : Array Value) (h : S l) : Keeps S W (W.setRow l cs) :=
  ⟨rfl, rfl, rfl, by unfold World.setRow; simp, fun k _ hs => setRow_other W l k cs (fun e => hs (e ▸ h))⟩

/-- The record of a range over a function, in a state, no jump pending. -/
def recOf (fn : FuncId) (tmps : Array Value) (ps : Array Tmp) (assign body : Code) (D : Nat) (st : LoopState) : Loop :=
  { state := st, pending := none, fn, tmps, params := ps, assign, body, defers := D }
/-- The same, to return. -/
def recRet (rc : LoopState → Loop) (st : LoopState) : Loop := { rc st with pending := some .ret }

/-- A range over a function whose body may leave by a return. -/
theorem range_law {n : Nat} {P : Program} {g : Operand} {ps : Array Tmp} {assign body : Code} {Q : Exit → Act → World → Prop} {a : Act} {w : World} {gf : Nat} {lb : Array Value}
    (hg : a.eval g = .func (.func gf) #[] lb) (eg : ∀ args w, (callFunc gf args).run P w = .ok (.enter gf args) w)
    (h : ∀ fn rc, rc = recOf fn a.tmps ps assign body w.heap.size → CallsIn Fence.wide (n - 1) P gf (#[.func (.yield (w.heap.size + 1)) #[] #[]] ++ lb) ((w.alloc (.deferred (some []))).alloc (.loop (rc .ready))) fun e W =>
      (∃ v, e = .returned v) ∧ ((W.heap[w.heap.size + 1]? = some (.loop (rc .ready)) ∧
        Q .normal { a with defers := { target := .collected w.heap.size, args := #[] } :: a.defers } (W.putObj (w.heap.size + 1) (.loop (rc .exhausted)))) ∨
        (W.heap[w.heap.size + 1]? = some (.loop (recRet rc .done)) ∧
        Q .ret { a with defers := { target := .collected w.heap.size, args := #[] } :: a.defers } (W.putObj (w.heap.size + 1) (.loop (recRet rc .exhausted)))))) :
    (Code.rangeFunc g ps assign body).wpIn Fence.wide n P Q a w := by
  refine wpIn_rangeFunc ?_
  intro fn hfn
  have h := h fn _ rfl
  refine ⟨w.heap.size + 1, [{ target := .collected w.heap.size, args := #[] }], (w.alloc (.deferred (some []))).alloc (.loop (recOf fn a.tmps ps assign body w.heap.size .ready)), { target := .fn (.func gf) lb, args := #[.func (.yield (w.heap.size + 1)) #[] #[]] }, (w.alloc (.deferred (some []))).alloc (.loop (recOf fn a.tmps ps assign body w.heap.size .ready)), gf,
    #[.func (.yield (w.heap.size + 1)) #[] #[]] ++ lb, (w.alloc (.deferred (some []))).alloc (.loop (recOf fn a.tmps ps assign body w.heap.size .ready)), ?_, ?_, ?_, ?_, (fun h => by cases h), ?_⟩
  · exact run_enterLoop_outer _ _ _ _ _
  · simp only [resolve, hg]
    simp [go_sem]
  · intro f' hf'; trivial
  · simp [invoke, go_sem, eg]
  · refine h.mono ?_
    rintro e W ⟨⟨v, rfl⟩, ⟨hl, hq⟩ | ⟨hl, hq⟩⟩
    · exact ⟨none, _, run_endLoop hl (by simp [recOf]), hq⟩
    · exact ⟨some .ret, _, run_endLoop hl (by simp [recOf, recRet]), wpIn_ret hq⟩

/-- How a body ends that may leave by a return. -/
def bodyEnd (l : Nat) (r : LoopState → Loop) (R : Ending → World → Prop) : Exit → Act → World → Prop
  | .normal, _, W2 => W2.heap[l]? = some (.loop (r .busy)) ∧ R (.returned (.bool true)) (W2.putObj l (.loop (r .ready)))
  | .ret, _, W2 => W2.heap[l]? = some (.loop (r .busy)) ∧ R (.returned (.bool false)) (W2.putObj l (.loop (recRet r .done)))
  | _, _, _ => False

theorem round_law {n l : Nat} {P : Program} {args : Array Value} {W : World} {R : Ending → World → Prop} {fn : FuncId} {tmps : Array Value} {ps : Array Tmp} {assign body : Code} {D : Nat} {rc : LoopState → Loop} (hrc : rc = recOf fn tmps ps assign body D)
    (hl : W.heap[l]? = some (.loop (rc .ready))) (hs : args.size = ps.size)
    (h : assign.wpIn (Fence.wide.inRound l) n P (Exit.then (fun a₁ w₁ => w₁.heap[l]? = some (.loop (rc .ready)) ∧
      body.wpIn (Fence.wide.inRound l) n P (bodyEnd l rc R) a₁ (w₁.putObj l (.loop (rc .busy)))) (fun _ _ _ => False))
      { tmps := (ps.zip args).foldl (fun tmps (t, a) => tmps.setIfInBounds t a) tmps, defers := [] } W) :
    YieldAt Fence.wide n P l args W R := by
  subst hrc
  refine ⟨fn, _, assign, body, run_yield hl hs, roundIn_of_wpIn trivial (wpIn_mono h ?_)⟩
  rintro e a1 w1 hp
  cases e with
  | normal =>
    obtain ⟨hl1, hb⟩ := hp
    refine ⟨_, run_beginRound hl1 rfl, wpIn_mono hb ?_⟩
    rintro e2 a2 w2 hq
    cases e2 with
    | normal => exact ⟨_, _, run_endRound none hq.1, hq.2⟩
    | ret => exact ⟨_, _, run_endRound (some .ret) hq.1, hq.2⟩
    | exit id => exact hq.elim
    | goto t => exact hq.elim
    | panic c => exact hq.elim
    | outgrown => exact hq.elim
  | ret => exact hp.elim
  | exit id => exact hp.elim
  | goto t => exact hp.elim
  | panic c => exact hp.elim
  | outgrown => exact hp.elim
end Go.Proofs.YtlhbpflcffjhmaaGreat

namespace Go.Proofs.YtlhbpflcffjhmaaGreat
open Go.RowKit

structure St1 (b : Nat) (X : Obj) (w w' : World) : Prop where
  os : w'.os = w.os
  tape : w'.tape = w.tape
  output : w'.output = w.output
  size : w.heap.size ≤ w'.heap.size
  block : ∀ k, k < w.heap.size → k ≠ b → w'.heap[k]? = w.heap[k]?
  hb : b < w.heap.size → w'.heap[b]? = w.heap[b]? ∨ w'.heap[b]? = some X
theorem St1.of_ext {b : Nat} {X : Obj} {w w' : World} (h : Ext w w') : St1 b X w w' :=
  ⟨h.os, h.tape, h.output, h.size, fun k hk _ => h.block k hk, fun hk => .inl (h.block b hk)⟩
theorem St1.trans {b : Nat} {X : Obj} {x y z : World} (h : St1 b X x y) (k : St1 b X y z) : St1 b X x z := by
  refine ⟨k.os.trans h.os, k.tape.trans h.tape, k.output.trans h.output, Nat.le_trans h.size k.size, fun i hi h1 => (k.block i (Nat.lt_of_lt_of_le hi h.size) h1).trans (h.block i hi h1), fun hb => ?_⟩
  rcases k.hb (Nat.lt_of_lt_of_le hb h.size) with e | e
  · rw [e]; exact h.hb hb
  · exact .inr e
def Step1 (b : Nat) (X : Obj) : Rg.Step := ⟨St1 b X, fun w => St1.of_ext (Ext.refl w), fun h k => h.trans k, fun w => St1.of_ext (Ext.refl w).drew⟩
theorem St1.cell {b : Nat} {X : Obj} {w w' : World} (h : St1 b X w w') {p : Addr} {v : Value} (hc : w.cell? p = some v) (h1 : p.block ≠ b) : w'.cell? p = some v := by
  rw [World.cell?_of_block (a := p) (h.block p.block (World.block_lt_of_cell? w p hc) h1)]; exact hc
theorem St1.ext {b : Nat} {X : Obj} {a w w' : World} (hx : Ext a w) (h : St1 b X w w') (hb : a.heap.size ≤ b) : Ext a w' :=
  ⟨h.os.trans hx.os, h.tape.trans hx.tape, h.output.trans hx.output, Nat.le_trans hx.size h.size, fun k hk => (h.block k (Nat.lt_of_lt_of_le hk hx.size) (by omega)).trans (hx.block k hk)⟩
theorem St1.put {b : Nat} {X : Obj} {w : World} {cs : Array Value} {t : TypeId} {r : Nat × Nat} {c0 : Array Value} (hg : w.heap[b]? = some (.cells c0 t r)) (hX : X = .cells cs t r) : St1 b X w (w.setRow b cs) := by
  have h := setRow_heap w b c0 cs t r hg
  exact ⟨rfl, rfl, rfl, by simp, fun k hk h1 => setRow_other w b k cs h1, fun _ => .inr (by rw [h, hX])⟩
theorem St1.was {b : Nat} {X : Obj} {w w' : World} (h : St1 b X w w') {t : TypeId} {c0 cs : Array Value} (hg : w.heap[b]? = some (.cells c0 t (0, 0))) (hX : X = .cells cs t (0, 0)) (hs : c0.size = cs.size) : ∃ c1 : Array Value, w'.heap[b]? = some (.cells c1 t (0, 0)) ∧ c1.size = cs.size := by
  rcases h.hb (Array.getElem?_eq_some_iff.1 hg).1 with e | e
  · exact ⟨c0, e.trans hg, hs⟩
  · exact ⟨cs, e.trans (by rw [hX]), rfl⟩
def fact1 (b : Nat) (X : Obj) : Rs.Fact (Step1 b X) := ⟨fun _ w => b < w.heap.size ∧ w.heap[b]? = some X, fun _ _ _ hx h => ⟨Nat.lt_of_lt_of_le h.1 hx.size, by rcases hx.hb h.1 with e | e; exact e.trans h.2; exact e⟩⟩
theorem ob_put {P : Program} {ops : Array Oper} {F : Value → World → Prop} {a : Act} {w w0 : World} {o : Oper} {b : Nat} {X : Obj} (ty : TypeId) (x y : Operand) (cs c0 : Array Value) (t : TypeId)
    (ho : o.op = .store ty x y) (hw : Region.wanted o (yielded ops a.tmps) = true) (hd : o.dst = none) (hx : a.eval x = .pointer (some ⟨b, 0, none⟩)) (hy : a.eval y = .agg cs) (hX : X = .cells cs t (0, 0))
    (hr : St1 b X w0 w) (hg : w0.heap[b]? = some (.cells c0 t (0, 0))) (hs : c0.size = cs.size) (hi : (P.info? ty).map (·.size) = some cs.size) (h1 : ∀ v ∈ cs.toList, v.oneCell' = true)
    (hF : ∀ w', b < w'.heap.size → w'.heap[b]? = some X → F undef w') : wpList P ops (Rs.endQ (Step1 b X) F o a w) [o] a w := by
  obtain ⟨c1, hg1, hs1⟩ := hr.was hg hX hs
  refine wpList_store_whole ty x y ho hw b hx cs hy c1 t hg1 hs1 hi h1 (wpList_nil ⟨rfl, St1.put hg1 hX, put_defers _ _ _, ?_⟩)
  rw [hd]
  refine hF _ ?_ ?_
  · have := (Array.getElem?_eq_some_iff.1 hg1).1
    simpa using this
  · rw [setRow_heap w b c1 cs t (0, 0) hg1, hX]
end Go.Proofs.YtlhbpflcffjhmaaGreat

namespace Go.Proofs.YtlhbpflcffjhmaaGreat
open Go.RowKit

theorem take_ba (b : ByteArray) (k : Nat) (h : k < b.size) : b.data.toList.take (k + 1) = b.data.toList.take k ++ [b[k]] := by
  rw [List.take_succ_eq_append_getElem (by simpa using h)]; rfl
theorem whole_step (l : List UInt8) (c : UInt8) (h : l.length ≤ 7) : wholeF l < 72057594037927936 ∧ wholeF (l ++ [c]) = wholeF l * 256 + c.toNat ∧ bits .or .u64 ((wholeF l : Int) * 256) (c.toNat : Int) = ((wholeF (l ++ [c]) : Nat) : Int) := by
  have h0 := wholeF_lt l.length l rfl
  have hp : 256 ^ l.length ≤ 256 ^ 7 := Nat.pow_le_pow_right (by decide) h
  have h1 : wholeF l < 72057594037927936 := by have : (256 : Nat) ^ 7 = 72057594037927936 := by decide
                                               omega
  have h2 := wholeF_snoc l c
  have hc : c.toNat < 256 := c.toNat_lt
  refine ⟨h1, h2, ?_⟩
  have e : ((wholeF l : Int) * 256) = ((wholeF l * 256 : Nat) : Int) := by omega
  rw [e, u64_or_nat _ _ (by omega) (by omega), h2]
  have h3 := Nat.two_pow_add_eq_or_of_lt (i := 8) (b := c.toNat) hc (wholeF l)
  have h4 : (2 : Nat) ^ 8 = 256 := by decide
  rw [h4, Nat.mul_comm] at h3
  rw [← h3]

theorem u64_byte (c : UInt8) : IntKind.u64.wrap (c.toNat : Int) = (c.toNat : Int) := by
  have : c.toNat < 256 := c.toNat_lt
  simp [IntKind.wrap, IntKind.bits, IntKind.signed]; omega

theorem sign_back {N : Nat} (h : N < 18446744073709551616) : wrap64 (bits .xor .u64 (N : Int) 9223372036854775808) = (N : Int) - 9223372036854775808 := by
  have e1 : (9223372036854775808 : Int) = ((2 ^ 63 : Nat) : Int) := by decide
  rw [e1, u64_xor_nat _ _ (by omega) (by decide)]
  by_cases hn : N < 2 ^ 63
  · rw [xor_top N hn]
    unfold wrap64; omega
  · obtain ⟨m, rfl⟩ : ∃ m, N = m + 2 ^ 63 := ⟨N - 2 ^ 63, by omega⟩
    rw [xor_top2 m (by omega)]
    unfold wrap64; omega

def vCells (v : V) : Array Value := #[.int .i64 v.k, .int .i64 v.n, .string (strOf v.s), .bool v.b]
end Go.Proofs.YtlhbpflcffjhmaaGreat

namespace Go.Proofs.YtlhbpflcffjhmaaGreat
open Go.RowKit

theorem idx55 (x y z : Value) (w : World) : (Instr.index 70 (.agg #[x, y, z]) (.int .i64 0)).run Tryz.prog w = .ok x w ∧ (Instr.index 70 (.agg #[x, y, z]) (.int .i64 1)).run Tryz.prog w = .ok y w ∧ (Instr.index 70 (.agg #[x, y, z]) (.int .i64 2)).run Tryz.prog w = .ok z w := ⟨by kernel_rfl, by kernel_rfl, by kernel_rfl⟩
end Go.Proofs.YtlhbpflcffjhmaaGreat

namespace Go.Proofs.YtlhbpflcffjhmaaGreat
open Go.RowKit Go.Sort

def ctrS (p q : List C) (s : Bool × List (List UInt8 × V)) (n : List UInt8) : Bool × List (List UInt8 × V) :=
  if !s.1 && !((askedF q n).minus (askedF p n)).empty then (true, s.2 ++ [(n, (someR ((askedF q n).minus (askedF p n))).1)]) else (s.1, s.2 ++ [(n, (someR (askedF q n)).1)])
def ctrL (p q : List C) (l : List (List UInt8)) : Bool × List (List UInt8 × V) := l.foldl (ctrS p q) (false, [])
theorem ctrL_snoc (p q : List C) (l : List (List UInt8)) (n : List UInt8) : ctrL p q (l ++ [n]) = ctrS p q (ctrL p q l) n := by unfold ctrL; rw [List.foldl_append]; rfl
def counterF (p q : List C) : List (List UInt8 × V) × Bool := if !mayP p || !mayP q || coversF p q then ([], false) else ((ctrL p q (namesF q)).2, true)
theorem ctrL_len (p q : List C) (l : List (List UInt8)) : (ctrL p q l).2.length = l.length := by
  induction l using snocRec with
  | nil => rfl
  | snoc l n ih =>
    rw [ctrL_snoc]
    unfold ctrS
    split <;> simp [ih]

theorem insU_len (cf : List UInt8 → List UInt8 → Int) (x : List UInt8) : ∀ l : List (List UInt8), (insU cf x l).length ≤ l.length + 1
  | [] => by simp [insU]
  | y :: r => by
    have := insU_len cf x r
    unfold insU
    (repeat' split) <;> simp <;> omega
theorem names_len (p : List C) : (namesF p).length ≤ p.length := by
  unfold namesF
  rw [← List.length_map (f := C.name)]
  generalize p.map C.name = l
  induction l using snocRec with
  | nil => simp [sortU]
  | snoc l x ih =>
    rw [sortU_snoc, List.length_append]
    exact Nat.le_trans (insU_len _ _ _) (by simp; exact ih)
theorem own_cell {w : World} {base size n b : Nat} {e t : TypeId} {v : Value} {xs : List Value} {c : Array Value} {fr : Nat × Nat} (h : w.ownsRow base e size v n xs) (hb : w.heap[b]? = some (.cells c t fr)) (he : e ≠ t) (o : Nat) (u : Value) : (w.setCell ⟨b, o, none⟩ u).ownsRow base e size v n xs := by
  have hne := own_ne h hb he
  refine ⟨h.1, ?_⟩
  rcases h.2 with h0 | ⟨g, cap, cur, rfl, h1, h2, h3⟩
  · exact .inl h0
  · refine .inr ⟨g, cap, cur, rfl, h1, ?_, h3⟩
    rw [setCell_block_other w ⟨b, o, none⟩ u g (fun e => hne (by rw [e]; rfl))]
    exact h2
theorem own_setRow {w : World} {base size n b : Nat} {e t : TypeId} {v : Value} {xs : List Value} {c : Array Value} {fr : Nat × Nat} (h : w.ownsRow base e size v n xs) (hb : w.heap[b]? = some (.cells c t fr)) (he : e ≠ t) (cs : Array Value) : (w.setRow b cs).ownsRow base e size v n xs := by
  have hne := own_ne h hb he
  refine ⟨h.1, ?_⟩
  rcases h.2 with h0 | ⟨g, cap, cur, rfl, h1, h2, h3⟩
  · exact .inl h0
  · refine .inr ⟨g, cap, cur, rfl, h1, ?_, h3⟩
    rw [setRow_other w b g cs (fun e => hne (by rw [e]; rfl))]
    exact h2
theorem info52t : (Tryz.prog.info? 167).map (fun i => (i.zero, i.size, i.bytes)) = some (some (.agg #[.string ⟨#[]⟩, .int .i64 0, .int .i64 0, .string ⟨#[]⟩, .bool false]), 5, 56) := by kernel_rfl
theorem info52s : (Tryz.prog.info? 52).map (·.size) = some 2 := by kernel_rfl
theorem aC_one (x : List UInt8 × V) : ∀ u ∈ aC x, u.oneCell' = true := by
  intro u hu
  simp only [aC, List.mem_cons, List.not_mem_nil, or_false] at hu
  rcases hu with rfl | rfl | rfl | rfl | rfl <;> rfl
theorem attr_row (w : World) (x : List UInt8 × V) : Row (w.alloc (.cells #[.string (strOf x.1), .int .i64 x.2.k, .int .i64 x.2.n, .string (strOf x.2.s), .bool x.2.b] 167)) 5 (.slice (some ⟨w.heap.size, 0, none⟩) 1 1) 1 (aC x) :=
  Row.of_own (World.ownsRow_lit (base := w.heap.size) (e := 167) (size := 5) w #[.string (strOf x.1), .int .i64 x.2.k, .int .i64 x.2.n, .string (strOf x.2.s), .bool x.2.b] 1 (Nat.le_refl _) (by decide) rfl)

end Go.Proofs.YtlhbpflcffjhmaaGreat

namespace Go.Proofs.YtlhbpflcffjhmaaGreat
open Go.RowKit

/-- A box of the region's own. -/
def Fact.box (n : Nat) (cs : Array Value) (t : TypeId) : Fact := ⟨fun v w => ∃ b, v = .pointer (some ⟨b, 0, none⟩) ∧ n ≤ b ∧ w.heap[b]? = some (.cells cs t (0, 0)), fun _ _ _ hx ⟨b, h1, h2, h3⟩ => ⟨b, h1, h2, block_later h3 hx⟩⟩
theorem zero57 : ∀ w, Sem.run Tryz.prog (zeroValue 72) w = .ok (.agg #[.slice none 0 0, .slice none 0 0, .slice none 0 0, .bool false]) w := fun w => by kernel_rfl
theorem rgr_setRow {W : World} {v : Value} {r : Rg} (h : RgR W v r) {b : Nat} {cs c : Array Value} {t : TypeId} {fr : Nat × Nat} (hb : W.heap[b]? = some (.cells c t fr)) (hc : ∀ s, Value.string s ∉ c.toList) : RgR (W.setRow b cs) v r := by
  obtain ⟨a1, c1, a2, c2, a3, c3, e, h1, h2, h3⟩ := h.ex
  exact ⟨a1, c1, a2, c2, a3, c3, e, spr_setRow h1 hb hc, spr_setRow h2 hb hc, spr_setRow h3 hb hc⟩
def z57 : Array Value := #[.slice none 0 0, .slice none 0 0, .slice none 0 0, .bool false]
theorem z57_none : ∀ s, Value.string s ∉ z57.toList := by intro s h; simp [z57] at h
/-- Two boxes of regions, filled. -/
theorem two_filled {w w1 : World} {b c : Nat} {m l : Rg} {vm vl : Value} {cm cl : Array Value} (hx : Ext w w1) (hb : w.heap.size ≤ b) (hc : w.heap.size ≤ c) (hne : b ≠ c) (h1 : w1.heap[b]? = some (.cells z57 72 (0, 0))) (h2 : w1.heap[c]? = some (.cells z57 72 (0, 0)))
    (hm : RgR w1 vm m) (hl : RgR w1 vl l) :
    Ext w ((w1.setRow b cm).setRow c cl) ∧ ((w1.setRow b cm).setRow c cl).heap[b]? = some (.cells cm 72 (0, 0)) ∧ ((w1.setRow b cm).setRow c cl).heap[c]? = some (.cells cl 72 (0, 0)) ∧ (w1.setRow b cm).heap[c]? = some (.cells z57 72 (0, 0)) ∧
      RgR ((w1.setRow b cm).setRow c cl) vm m ∧ RgR ((w1.setRow b cm).setRow c cl) vl l := by
  have e1 := setRow_heap w1 b z57 cm 72 (0, 0) h1
  have e2 : (w1.setRow b cm).heap[c]? = some (.cells z57 72 (0, 0)) := (setRow_other w1 b c cm (Ne.symm hne)).trans h2
  have e3 := setRow_heap (w1.setRow b cm) c z57 cl 72 (0, 0) e2
  refine ⟨(hx.setRow hb _).setRow hc _, (setRow_other _ c b cl hne).trans e1, e3, e2, ?_, ?_⟩
  · exact rgr_setRow (rgr_setRow hm h1 z57_none) e2 z57_none
  · exact rgr_setRow (rgr_setRow hl h1 z57_none) e2 z57_none
theorem one_filled {w w1 : World} {b : Nat} {m : Rg} {vm : Value} {cm : Array Value} (hx : Ext w w1) (hb : w.heap.size ≤ b) (h1 : w1.heap[b]? = some (.cells z57 72 (0, 0))) (hm : RgR w1 vm m) :
    Ext w (w1.setRow b cm) ∧ (w1.setRow b cm).heap[b]? = some (.cells cm 72 (0, 0)) ∧ RgR (w1.setRow b cm) vm m :=
  ⟨hx.setRow hb _, setRow_heap w1 b z57 cm 72 (0, 0) h1, rgr_setRow hm h1 z57_none⟩
end Go.Proofs.YtlhbpflcffjhmaaGreat

namespace Go.Proofs.YtlhbpflcffjhmaaGreat
open Go.RowKit Go.Sort

def Fact.own (base : Nat) (l : List (List UInt8)) : Fact := ⟨fun v w => w.ownsRow base 9 1 v l.length (l.map stC), fun _ _ _ hx h => own_ext h hx⟩
theorem frozen_row {w : World} {b : Nat} {c : Array Value} {t : TypeId} (h : w.heap[b]? = some (.cells c t (0, 0))) (o : Nat) : w.frozen? ⟨b, o, none⟩ = false := by simp [World.frozen?, h]
theorem info66s : (Tryz.prog.info? 66).map (·.size) = some 1 := by kernel_rfl
theorem stC_one : ∀ (l : List (List UInt8)), ∀ u ∈ l.map stC, u.oneCell' = true := fun l u hu => by obtain ⟨x, _, rfl⟩ := List.mem_map.1 hu; rfl

theorem own_lt {w : World} {base size n : Nat} {e : TypeId} {v : Value} {xs : List Value} (h : w.ownsRow base e size v n xs) : ∀ k, v.ownBlock = some k → k < w.heap.size := by
  intro k hk
  rcases h.2 with ⟨rfl, _⟩ | ⟨g, cap, cur, rfl, hb, hg, _⟩
  · cases hk
  · have : g = k := by simpa [Value.ownBlock] using hk
    subst this
    exact (Array.getElem?_eq_some_iff.1 hg).1
/-- What the iterator stands on. -/
structure ItB (lo hi b6 : Nat) (vp vq v : Value) (l : List (List UInt8)) (W : World) : Prop where
  own : W.ownsRow lo 9 1 v l.length (l.map stC)
  olt : ∀ k, v.ownBlock = some k → lo ≤ k ∧ k < hi
  b6lo : lo ≤ b6
  b6hi : b6 < hi
  lohi : 2 ≤ lo ∧ lo < hi
  hb6 : W.heap[b6]? = some (.cells #[.func (.func 133) #[] #[.pointer (some ⟨lo - 2, 0, none⟩), .pointer (some ⟨lo - 1, 0, none⟩)]] 163 (0, 0))
  hbp : W.heap[lo - 2]? = some (.cells #[vp] 25 (0, 0))
  hbq : W.heap[lo - 1]? = some (.cells #[vq] 25 (0, 0))

set_option maxRecDepth 100000 in
set_option maxHeartbeats 16000000 in
theorem asked96_any (w : World) (vp vq : Value) (p q : List C) (hp : PredR w vp p) (hq : PredR w vq q) (hlp : p.length ≤ 6) (hlq : q.length ≤ 6) :
    Calls Tryz.prog 100 #[vp, vq] w fun e W => ∃ b5 b6 vn l, e = .returned (.func (.func 134) #[] #[.pointer (some ⟨b5, 0, none⟩), .pointer (some ⟨b6, 0, none⟩)]) ∧ compE l = bothF p q ∧ l.length ≤ 1000000 ∧
      Ext w W ∧ ItB (w.heap.size + 2) W.heap.size b6 vp vq vn l W ∧ w.heap.size + 2 ≤ b5 ∧ W.heap[b5]? = some (.cells #[vn] 66 (0, 0)) := by
  obtain ⟨ap, cp, rfl, _, _⟩ := hp.shape
  obtain ⟨aq, cq, rfl, _, _⟩ := hq.shape
  have hb : ∀ l' : List (List UInt8), l'.Perm (namesF p ++ namesF q) → (l'.Pairwise fun a b => Lib.compareBytes a b ≤ 0) → compE l' = bothF p q := fun l' h1 h2 => by
    unfold bothF
    refine compL_sorted wo_bytes h1 h2 (fun _ _ _ _ => bytes_zero) fun a _ b _ => ?_
    rw [decide_eq_true_iff]
    exact ⟨fun h => by rw [h]; exact wo_bytes.refl b, bytes_zero⟩
  have hn1 : (namesF p).length ≤ 6 := Nat.le_trans (names_len p) hlp
  have hn2 : (namesF q).length ≤ 6 := Nat.le_trans (names_len q) hlq
  have HN1 := Lib.hid (fun W (hx : Ext w W) => names_any W _ p (hp.ext hx) (by omega))
  have HN2 := Lib.hid (fun W (hx : Ext w W) => names_any W _ q (hq.ext hx) (by omega))
  have HB := Lib.hid hb
  clear hb hp hq
  generalize bothF p q = bo at *
  generalize namesF p = l1 at *
  generalize namesF q = l2 at *
  generalize p.length = pl at *
  generalize q.length = ql at *
  obtain ⟨hx0, hbp, hbq⟩ := boxes2 w (.cells #[.slice ap pl cp] 25) (.cells #[.slice aq ql cq] 25)
  have hsz : ((w.alloc (.cells #[.slice ap pl cp] 25)).alloc (.cells #[.slice aq ql cq] 25)).heap.size = w.heap.size + 2 := by simp
  go_enter Tryz.func100, Tryz.ntmps100
  go_upto_region 1 with fail
  generalize (w.alloc (.cells #[.slice ap pl cp] 25)).alloc (.cells #[.slice aq ql cq] 25) = w0 at *
  have HBP := Lib.hid hbp
  have HBQ := Lib.hid hbq
  have HSZ := Lib.hid hsz
  clear hbp hbq hsz
  refine wp_region_late 4 5 _ _ [Fact.eq (.slice ap pl cp),
      Fact.own w0.heap.size l1,
      Fact.eq (.slice aq ql cq),
      Fact.own w0.heap.size l2,
      Fact.any,
      Fact.box w0.heap.size #[.slice none 0 0] 66]
    [[], [(0, 7)], [], [(2, 9)]]
    [(0, 7), (1, 8), (2, 9), (3, 10)] (by kernel_rfl) rfl rfl rfl (by kernel_rfl) ?_ ?_ ?_ ?_
  · refine ⟨?_, ?_, ?_, ?_, trivial⟩
    · intro w1 hx1; change wpList _ _ _ _ _ _; have m0 := cell_of_row _ _ 0 _ _ _ (block_later HBP.out hx1); go_wp2_with fail; exact ⟨rfl, Ext.refl _, rfl, rfl⟩
    · intro w1 hx1; rintro _ rfl; change wpList _ _ _ _ _ _; go_wp2_with fail; refine (HN1.out w1 (hx0.trans hx1)).mono ?_; rintro e w2 ⟨va, rfl, hA2, hx2⟩; have hA3 := own_mono hA2 hx1.size; go_wp2_with fail; exact ⟨rfl, hx2, rfl, hA3⟩
    · intro w1 hx1; change wpList _ _ _ _ _ _; have m0 := cell_of_row _ _ 0 _ _ _ (block_later HBQ.out hx1); go_wp2_with fail; exact ⟨rfl, Ext.refl _, rfl, rfl⟩
    · intro w1 hx1; rintro _ rfl; change wpList _ _ _ _ _ _; go_wp2_with fail; refine (HN2.out w1 (hx0.trans hx1)).mono ?_; rintro e w2 ⟨va, rfl, hA2, hx2⟩; have hA3 := own_mono hA2 hx1.size; go_wp2_with fail; exact ⟨rfl, hx2, rfl, hA3⟩
  · intro w1 hx1; change wpList _ _ _ _ _ _; go_wp2_with fail; exact ⟨rfl, (Ext.refl _).alloc _, rfl, _, rfl, hx1.size, (boxes1 w1 _).2⟩
  · intro w1 hx1; rintro _ rfl; intro v8 h8; rintro _ rfl; intro v10 h10; intro v5 h5; refine depsThen_nil ?_; dsimp only; simp only [Act.put, List.setIfInBounds_toArray, List.set_cons_zero, List.set_cons_succ, List.drop_succ_cons, List.drop_zero]
    replace h8 : (Fact.own w0.heap.size l1).p v8 w1 := h8
    replace h10 : (Fact.own w0.heap.size l2).p v10 w1 := h10
    replace h5 : (Fact.box w0.heap.size #[.slice none 0 0] 66).p v5 w1 := h5
    have h8o : w1.ownsRow w0.heap.size 9 1 v8 l1.length (l1.map stC) := h8
    have h10o : Row w1 1 v10 l2.length (l2.map stC) := Row.of_own h10
    have H8 := Lib.hid h8o
    have H10 := Lib.hid h10o
    clear h8 h10 h8o h10o HN1 HN2
    obtain ⟨b5, rfl, hb5, hbox⟩ := h5
    have HBX := Lib.hid hbox
    clear hbox
    go_upto_region 2 with (at_builtin; refine wpList_append_row 66 9 (.tmp 8) (.tmp 10) rfl w0.heap.size _ 1 16 Tryz.underlying66 info9t rfl (by decide) rfl _ l1.length (l1.map stC) rfl H8.out l2.length (l2.map stC) H10.out (stC_one l2) (by omega) (by unfold maxLen; omega) hx1.size ?_; intro v' w' hown2 hg; obtain ⟨ao, co, rfl, _, _⟩ := Row.shape (own_row hown2); have HBX2 := Lib.hid ((hg.block b5 (Array.getElem?_eq_some_iff.1 HBX.out).1 (fun e => own_ne H8.out HBX.out (by decide) e.symm)).trans HBX.out); have mc := cell_of_row _ _ 0 _ _ _ HBX2.out; have mf : w'.frozen? ⟨b5, 0, none⟩ = false := frozen_row HBX2.out 0; have HO2 := Lib.hid hown2; have HG := Lib.hid hg; clear hown2 hg)
    have hxa : Ext w0 w' := hx1.grown_none HG.out (own_base H8.out)
    have hxb : Ext w0 (w'.setCell ⟨b5, 0, none⟩ (.slice ao (l1.length + l2.length) co)) := hxa.setCell (p := ⟨b5, 0, none⟩) hb5 _
    have hB5 : (w'.setCell ⟨b5, 0, none⟩ (.slice ao (l1.length + l2.length) co)).heap[b5]? = some (.cells #[.slice ao (l1.length + l2.length) co] 66 (0, 0)) := setCell_block w' b5 0 _ _ _ _ HBX2.out
    have hO3 := own_cell HO2.out HBX2.out (by decide) 0 (.slice ao (l1.length + l2.length) co)
    clear mc mf
    generalize w'.setCell ⟨b5, 0, none⟩ (.slice ao (l1.length + l2.length) co) = w3 at *
    have hlen : (l1 ++ l2).length = l1.length + l2.length := List.length_append
    have hO4 := hO3
    rw [← List.map_append, ← hlen] at hO4
    have hsort := Lib.hid (sortSt_any w3 w0.heap.size _ (l1 ++ l2) hO4 (by omega))
    rw [hlen] at hsort
    have HB5 := Lib.hid hB5
    have HO4 := Lib.hid hO4
    rw [hlen] at HO4
    have m5 := cell_of_row _ _ 0 _ _ _ hB5
    have hne : (Value.slice ao (l1.length + l2.length) co).ownBlock ≠ some b5 := own_ne hO3 hB5 (by decide)
    have hbase := own_base hO3
    have HNE := Lib.hid hne
    have HBA := Lib.hid hbase
    clear hB5 hO3 hO4 hxa hne hbase
    go_wp2_with fail
    refine hsort.out.mono ?_
    rintro e w4 ⟨rfl, l', q1, q2, q3, q4⟩
    clear m5
    have hx4 : Ext w0 w4 := hxb.grown_none q4 HBA.out
    have hB5' : w4.heap[b5]? = some (.cells #[.slice ao (l1.length + l2.length) co] 66 (0, 0)) := (q4.block b5 (Array.getElem?_eq_some_iff.1 HB5.out).1 (fun e => HNE.out e.symm)).trans HB5.out
    obtain ⟨hx5, hb6⟩ := boxes1 w4 (.cells #[.func (.func 133) #[] #[.pointer (some ⟨w.heap.size, 0, none⟩), .pointer (some ⟨w.heap.size + 1, 0, none⟩)]] 163)
    have hx6 := hx4.trans hx5
    have hl' : l'.length = l1.length + l2.length := by rw [q1.length_eq, hlen]
    have hcomp := HB.out l' q1 q2
    have Q3 := Lib.hid (own_ext q3 hx5)
    have hlt : ∀ k, (Value.slice ao (l1.length + l2.length) co).ownBlock = some k → w.heap.size + 2 ≤ k ∧ k < w4.heap.size := fun k hk => by
      have h1 := HBA.out k hk
      rw [HSZ.out] at h1
      exact ⟨h1, own_lt q3 k hk⟩
    have HLT := Lib.hid hlt
    have hw4 : w.heap.size + 2 ≤ w4.heap.size := by have := hx4.size; rw [HSZ.out] at this; exact this
    have HB5' := Lib.hid hB5'
    have HB6 := Lib.hid hb6
    have HL' := Lib.hid hl'
    have HCO := Lib.hid hcomp
    have HW4 := Lib.hid hw4
    clear q1 q2 q3 q4 hlt hsort hB5' hb6 hl' hcomp hw4
    go_wp2_with fail
    go_ret
    refine ⟨b5, w4.heap.size, .slice ao (l1.length + l2.length) co, l', rfl, HCO.out, by rw [HL'.out]; omega, hx0.trans hx6, ?_, by have := hb5; rw [HSZ.out] at this; exact this, block_later HB5'.out hx5⟩
    have hsz5 : (w4.alloc (.cells #[.func (.func 133) #[] #[.pointer (some ⟨w.heap.size, 0, none⟩), .pointer (some ⟨w.heap.size + 1, 0, none⟩)]] 163)).heap.size = w4.heap.size + 1 := by simp
    refine ⟨?_, fun k hk => ?_, HW4.out, by rw [hsz5]; omega, ⟨by omega, by have := HW4.out; rw [hsz5]; omega⟩, HB6.out, block_later HBP.out hx6, block_later HBQ.out hx6⟩
    · rw [HL'.out]
      have := Q3.out
      rw [HSZ.out] at this
      exact this
    · have := HLT.out k hk
      rw [hsz5]; omega
  · intro w1 hx1; rintro _ rfl; intro v8 h8; rintro _ rfl; intro v10 h10; refine depsThen_nil ?_; dsimp only; simp only [Act.put, List.setIfInBounds_toArray, List.set_cons_zero, List.set_cons_succ, List.drop_succ_cons, List.drop_zero]
    replace h8 : (Fact.own w0.heap.size l1).p v8 w1 := h8
    replace h10 : (Fact.own w0.heap.size l2).p v10 w1 := h10
    have h8o : w1.ownsRow w0.heap.size 9 1 v8 l1.length (l1.map stC) := h8
    have h10o : Row w1 1 v10 l2.length (l2.map stC) := Row.of_own h10
    have H8 := Lib.hid h8o
    have H10 := Lib.hid h10o
    clear h8 h10 h8o h10o HN1 HN2
    go_upto_region 2 with (at_builtin; refine wpList_append_row 66 9 (.tmp 8) (.tmp 10) rfl w0.heap.size _ 1 16 Tryz.underlying66 info9t rfl (by decide) rfl _ l1.length (l1.map stC) rfl H8.out l2.length (l2.map stC) H10.out (stC_one l2) (by omega) (by unfold maxLen; omega) hx1.size ?_; intro v' w' hown2 hg; obtain ⟨ao, co, rfl, _, _⟩ := Row.shape (own_row hown2); have HO2 := Lib.hid hown2; have HG := Lib.hid hg; clear hown2 hg)
    have hxa : Ext w0 w' := hx1.grown_none HG.out (own_base H8.out)
    obtain ⟨hxc, hB5⟩ := boxes1 w' (.cells #[.slice ao (l1.length + l2.length) co] 66)
    have hxb := hxa.trans hxc
    have hb5 := hxa.size
    have hO3 := own_ext HO2.out hxc
    generalize w'.alloc (.cells #[.slice ao (l1.length + l2.length) co] 66) = w3 at *
    generalize w'.heap.size = b5 at *
    have hlen : (l1 ++ l2).length = l1.length + l2.length := List.length_append
    have hO4 := hO3
    rw [← List.map_append, ← hlen] at hO4
    have hsort := Lib.hid (sortSt_any w3 w0.heap.size _ (l1 ++ l2) hO4 (by omega))
    rw [hlen] at hsort
    have HB5 := Lib.hid hB5
    have HO4 := Lib.hid hO4
    rw [hlen] at HO4
    have m5 := cell_of_row _ _ 0 _ _ _ hB5
    have hne : (Value.slice ao (l1.length + l2.length) co).ownBlock ≠ some b5 := own_ne hO3 hB5 (by decide)
    have hbase := own_base hO3
    have HNE := Lib.hid hne
    have HBA := Lib.hid hbase
    clear hB5 hO3 hO4 hxa hne hbase
    go_wp2_with fail
    refine hsort.out.mono ?_
    rintro e w4 ⟨rfl, l', q1, q2, q3, q4⟩
    clear m5
    have hx4 : Ext w0 w4 := hxb.grown_none q4 HBA.out
    have hB5' : w4.heap[b5]? = some (.cells #[.slice ao (l1.length + l2.length) co] 66 (0, 0)) := (q4.block b5 (Array.getElem?_eq_some_iff.1 HB5.out).1 (fun e => HNE.out e.symm)).trans HB5.out
    obtain ⟨hx5, hb6⟩ := boxes1 w4 (.cells #[.func (.func 133) #[] #[.pointer (some ⟨w.heap.size, 0, none⟩), .pointer (some ⟨w.heap.size + 1, 0, none⟩)]] 163)
    have hx6 := hx4.trans hx5
    have hl' : l'.length = l1.length + l2.length := by rw [q1.length_eq, hlen]
    have hcomp := HB.out l' q1 q2
    have Q3 := Lib.hid (own_ext q3 hx5)
    have hlt : ∀ k, (Value.slice ao (l1.length + l2.length) co).ownBlock = some k → w.heap.size + 2 ≤ k ∧ k < w4.heap.size := fun k hk => by
      have h1 := HBA.out k hk
      rw [HSZ.out] at h1
      exact ⟨h1, own_lt q3 k hk⟩
    have HLT := Lib.hid hlt
    have hw4 : w.heap.size + 2 ≤ w4.heap.size := by have := hx4.size; rw [HSZ.out] at this; exact this
    have HB5' := Lib.hid hB5'
    have HB6 := Lib.hid hb6
    have HL' := Lib.hid hl'
    have HCO := Lib.hid hcomp
    have HW4 := Lib.hid hw4
    clear q1 q2 q3 q4 hlt hsort hB5' hb6 hl' hcomp hw4
    go_wp2_with fail
    go_ret
    refine ⟨b5, w4.heap.size, .slice ao (l1.length + l2.length) co, l', rfl, HCO.out, by rw [HL'.out]; omega, hx0.trans hx6, ?_, by have := hb5; rw [HSZ.out] at this; exact this, block_later HB5'.out hx5⟩
    have hsz5 : (w4.alloc (.cells #[.func (.func 133) #[] #[.pointer (some ⟨w.heap.size, 0, none⟩), .pointer (some ⟨w.heap.size + 1, 0, none⟩)]] 163)).heap.size = w4.heap.size + 1 := by simp
    refine ⟨?_, fun k hk => ?_, HW4.out, by rw [hsz5]; omega, ⟨by omega, by have := HW4.out; rw [hsz5]; omega⟩, HB6.out, block_later HBP.out hx6, block_later HBQ.out hx6⟩
    · rw [HL'.out]
      have := Q3.out
      rw [HSZ.out] at this
      exact this
    · have := HLT.out k hk
      rw [hsz5]; omega
end Go.Proofs.YtlhbpflcffjhmaaGreat

namespace Go.Proofs.YtlhbpflcffjhmaaGreat
open Go.RowKit Go.Sort Go.Shelf
attribute [local go_sem] Oper.semAt_some

theorem ItB.keeps {S : Nat → Prop} {lo hi b6 : Nat} {vp vq v : Value} {l : List (List UInt8)} {W W' : World} (h : ItB lo hi b6 vp vq v l W) (hk : Keeps S W W') (hS : ∀ k, S k → k + 2 < lo ∨ hi ≤ k) : ItB lo hi b6 vp vq v l W' := by
  have h2 := h.lohi
  have h3 := h.b6lo
  have h4 := h.b6hi
  refine ⟨own_keeps h.own hk fun k hs e => ?_, h.olt, h3, h4, h2, hk.heap h.hb6 fun e => ?_, hk.heap h.hbp fun e => ?_, hk.heap h.hbq fun e => ?_⟩
  · have := h.olt k e; have := hS k hs; omega
  · have := hS _ e; omega
  · have := hS _ e; omega
  · have := hS _ e; omega

set_option maxRecDepth 100000 in
set_option maxHeartbeats 4000000 in
theorem iter_any (n l : Nat) (w0 : World) (p q : List C) (vp vq : Value) (hp : PredR w0 vp p) (hq : PredR w0 vq q) (kp : ∀ c ∈ p, okC c) (kq : ∀ c ∈ q, okC c) (lo hi b5 b6 : Nat) (hlo : w0.heap.size + 2 ≤ lo)
    (vn : Value) (l0 names : List (List UInt8)) (hnames : compE l0 = names) (hl0 : l0.length ≤ 1000000)
    (U : List (List UInt8) → World → Prop) (D : World → Prop)
    (hU : ∀ pre W W', U pre W → Keeps (fun k => lo ≤ k ∧ k < hi) W W' → U pre W')
    (hY : ∀ pre nm rest vc v W, names = pre ++ nm :: rest → Ext w0 W → ItB lo hi b6 vp vq vc names W → U pre W → RgR W v ((askedF p nm).and (askedF q nm)) →
      YieldAt Fence.wide (n - 1) Tryz.prog l #[.string (strOf nm), v] W fun e W' => (e = .returned (.bool true) ∧ Ext w0 W' ∧ ItB lo hi b6 vp vq vc names W' ∧ U (pre ++ [nm]) W') ∨ (e = .returned (.bool false) ∧ D W'))
    (W : World) (hx : Ext w0 W) (hI : ItB lo hi b6 vp vq vn l0 W) (hb5 : W.heap[b5]? = some (.cells #[vn] 66 (0, 0))) (h0 : U [] W) :
    CallsIn Fence.wide n Tryz.prog 134 #[.func (.yield l) #[] #[], .pointer (some ⟨b5, 0, none⟩), .pointer (some ⟨b6, 0, none⟩)] W fun e W' =>
      (∃ x, e = .returned x) ∧ ((Ext w0 W' ∧ U names W') ∨ D W') := by
  obtain ⟨a0, c0, rfl, _, _⟩ := Row.shape (own_row hI.own)
  have hcomp := compactSt_any W lo _ l0 hI.own hl0
  rw [hnames] at hcomp
  have HC := Lib.hid hcomp
  have m5 := cell_of_row _ _ 0 _ _ _ hb5
  have HI := Lib.hid hI
  have HN := Lib.hid hnames
  clear hcomp hI hb5 hnames
  refine callsIn_of_wp Tryz.func134 rfl trivial ?_ rfl
  simp only [Tryz.ntmps134, List.size_toArray, List.length_cons, List.length_nil, Nat.reduceAdd, Nat.reduceSub, Array.replicate_succ, Array.replicate_zero, List.push_toArray, List.append_toArray, List.nil_append, List.cons_append]
  gi_wp2_with fail
  refine ⟨trivial, fun h => (by cases h), ?_⟩
  refine CallsIn.mono (callsIn_wide.2 HC.out) ?_
  rintro e W1 ⟨vc, rfl, hown, hg, hob⟩
  clear m5
  have hK1 : Keeps (fun k => lo ≤ k ∧ k < hi) W W1 := Keeps.of_grown hg (fun k e => HI.out.olt k e)
  have hK2 : Keeps (fun k => (Value.slice a0 l0.length c0).ownBlock = some k) W W1 := Keeps.of_grown hg (fun k e => e)
  have hx1 : Ext w0 W1 := hK1.ext hx (fun k hk => by omega)
  have hU1 : U [] W1 := hU _ _ _ h0 hK1
  have hI1 : ItB lo hi b6 vp vq vc names W1 := by
    have h2 := HI.out.lohi
    refine ⟨hown, fun k e => HI.out.olt k (by rw [← hob]; exact e), HI.out.b6lo, HI.out.b6hi, h2, hK2.heap HI.out.hb6 fun e => ?_, hK1.heap HI.out.hbp fun e => by omega, hK1.heap HI.out.hbq fun e => by omega⟩
    exact own_ne HI.out.own HI.out.hb6 (by decide) e
  obtain ⟨a, cap, rfl, _, _⟩ := Row.shape (own_row hown)
  clear hown hg hob hK1 hK2 HI HC h0 hx
  have hcap : names.length ≤ 9000000000000000000 := by
    have : names.length ≤ l0.length := by rw [← HN.out]; exact compE_len _ l0 (Nat.le_refl _)
    omega
  generalize hNN : names.length = N at *
  have HNN := Lib.hid hNN
  clear hNN
  gi_wp2_with fail
  gi_loopw [9] (fun i wr => ∃ k : Nat, k ≤ N ∧ i = .int .i64 k ∧ Hid (Ext w0 wr ∧ ItB lo hi b6 vp vq (.slice a N cap) names wr ∧ U (names.take k) wr)) (fun i _ => N - (intOf i).toNat)
  case atStart => exact ⟨0, Nat.zero_le _, rfl, ⟨hx1, hI1, hU1⟩⟩
  case round =>
    clear hx1 hI1 hU1
    obtain ⟨k, hk, rfl, hst⟩ := hrel
    by_cases hlt : k < N
    · have hD : decide ((k : Int) < (N : Int)) = true := decide_eq_true (by omega)
      have hkl : k < names.length := by rw [HNN.out]; exact hlt
      have hrow : StrR wr (.slice a N cap) names := own_row hst.out.2.1.own
      obtain ⟨B, o, rfl, f0⟩ := StrR.at hrow hkl
      have m6 := cell_of_row _ _ 0 _ _ _ hst.out.2.1.hb6
      have hsp : names = names.take k ++ names[k] :: names.drop (k + 1) := by
        rw [← List.drop_eq_getElem_cons hkl, List.take_append_drop]
      have hnx : names.take (k + 1) = names.take k ++ [names[k]] := List.take_succ_eq_append_getElem hkl
      have hboth := both_any wr (lo - 2) (lo - 1) vp vq p q names[k] hst.out.2.1.hbp hst.out.2.1.hbq (hp.ext hst.out.1) (hq.ext hst.out.1) kp kq
      have HB := Lib.hid hboth
      have HSP := Lib.hid hsp
      have HNX := Lib.hid hnx
      clear hboth hsp hnx hrow
      generalize names[k] = nm at *
      gi_wp2_with fail
      refine ⟨trivial, fun h => (by cases h), ?_⟩
      refine CallsIn.mono (callsIn_wide.2 HB.out) ?_
      rintro e W2 ⟨vr, rfl, hvr, hx2⟩
      clear f0 m6
      have hI2 := hst.out.2.1.keeps (Keeps.of_ext (S := fun _ => False) hx2) (fun _ h => h.elim)
      have hU2 := hU _ _ _ hst.out.2.2 (Keeps.of_ext hx2)
      have hx3 := hst.out.1.trans hx2
      obtain ⟨fn, tmps, assign, body, hy, hR⟩ := hY _ nm _ _ vr W2 HSP.out hx3 hI2 hU2 hvr
      clear hI2 hU2 hx3 hx2 hvr
      gi_wp2_with fail
      refine ⟨fun h => (by cases h), ?_⟩
      refine hR.mono ?_
      rintro e W4 (⟨rfl, hx4, hI4, hU4⟩ | ⟨rfl, hd⟩)
      · have HS := Lib.hid (And.intro hx4 (And.intro hI4 hU4))
        clear hx4 hI4 hU4
        gi_wp2_with fail
        go_roundw
        case rel =>
          refine ⟨k + 1, hlt, by go_num, HS.out.1, HS.out.2.1, ?_⟩
          rw [HNX.out]; exact HS.out.2.2
        case measure => simp [intOf]; omega
      · have HD := Lib.hid hd
        clear hd
        gi_wp2_with fail
        exact bodyPost_ret (results_none (fn := Tryz.f134) rfl _ _ _) rfl ⟨⟨_, rfl⟩, .inr HD.out⟩
    · obtain rfl : k = N := by omega
      have hD : decide ((k : Int) < (k : Int)) = false := decide_eq_false (by omega)
      gi_wp2_with fail
      go_end0
      refine ⟨⟨_, rfl⟩, .inl ⟨hst.out.1, ?_⟩⟩
      have := hst.out.2.2
      rwa [List.take_of_length_le (by rw [HNN.out]; exact Nat.le_refl _)] at this
end Go.Proofs.YtlhbpflcffjhmaaGreat

namespace Go.Proofs.YtlhbpflcffjhmaaGreat
open Go.RowKit Go.Sort Go.Shelf
attribute [local go_sem] Oper.semAt_some

theorem row_keeps {S : Nat → Prop} {W W' : World} {size n : Nat} {v : Value} {xs : List Value} (h : Row W size v n xs) (hk : Keeps S W W') (hS : ∀ k, S k → ∃ r, W.heap[k]? = some (.loop r)) : Row W' size v n xs := by
  obtain ⟨h1, a, cap, e, h3, h4, h5, h6, h7⟩ := h
  refine ⟨h1, a, cap, e, h3, h4, h5, h6, fun j u hj => ?_⟩
  obtain ⟨p, e2, hcl⟩ := h7 j u hj
  refine ⟨p, e2, ?_⟩
  refine (World.cell?_of_block (hk.block _ (World.block_lt_of_cell? W _ hcl) fun hs => ?_)).trans hcl
  obtain ⟨r, hr⟩ := hS _ hs
  simp [World.cell?, hr] at hcl
theorem rgr_keeps {S : Nat → Prop} {W W' : World} {v : Value} {r : Rg} (h : RgR W v r) (hk : Keeps S W W') (hS : ∀ k, S k → ∃ r, W.heap[k]? = some (.loop r)) : RgR W' v r := by
  obtain ⟨a1, c1, a2, c2, a3, c3, e, h1, h2, h3⟩ := h.ex
  exact ⟨a1, c1, a2, c2, a3, c3, e, row_keeps h1 hk hS, row_keeps h2 hk hS, row_keeps h3 hk hS⟩
theorem apart_end {p q : List C} {l : List (List UInt8)} (hl : bothF p q = l) (hm : (mayP p && mayP q) = true) (h : ∀ n ∈ l, ((askedF p n).and (askedF q n)).empty = false) : apartF p q = none := by
  unfold apartF
  rw [hm, hl, if_pos rfl, List.find?_eq_none]
  intro n hn
  rw [h n hn]; exact Bool.false_ne_true
theorem apart_at {p q : List C} {pre rest : List (List UInt8)} {nm : List UInt8} (hl : bothF p q = pre ++ nm :: rest) (hm : (mayP p && mayP q) = true) (h : ∀ n ∈ pre, ((askedF p n).and (askedF q n)).empty = false) (he : ((askedF p nm).and (askedF q nm)).empty = true) : apartF p q = some nm := by
  unfold apartF
  rw [hm, hl, if_pos rfl, List.find?_append, List.find?_eq_none.2 fun n hn => by rw [h n hn]; exact Bool.false_ne_true, Option.none_or, List.find?_cons, he]
theorem loop_put {W : World} {l : Nat} {o : Obj} {o' : Obj} (h : W.heap[l]? = some o) : (W.putObj l o').heap[l]? = some o' := World.putObj_heap_same (Array.getElem?_eq_some_iff.1 h).1

set_option maxRecDepth 100000 in
set_option maxHeartbeats 8000000 in
theorem apart_no (w : World) (vp vq : Value) (p q : List C) (hp : PredR w vp p) (hq : PredR w vq q) (hm : (mayP p && mayP q) = false) :
    Calls Tryz.prog 54 #[vp, vq] w fun e w' => e = .returned (.tuple #[.string ⟨#[]⟩, .bool false]) ∧ Ext w w' := by
  obtain ⟨ap, cp, rfl, _, _⟩ := hp.shape
  obtain ⟨aq, cq, rfl, _, _⟩ := hq.shape
  obtain ⟨hx0, hb4, hb5⟩ := boxes2 w (.cells #[.string ⟨#[]⟩] 9) (.cells #[.bool false] 4)
  have hmay := may95_any _ _ _ p q (hp.ext hx0) (hq.ext hx0)
  rw [hm] at hmay
  have HM := Lib.hid hmay
  have H4 := Lib.hid hb4
  have H5 := Lib.hid hb5
  clear hmay hm hp hq hb4 hb5
  generalize p.length = pl at *
  generalize q.length = ql at *
  refine callsIn_wide (n := 9).1 ?_
  refine callsIn_of_wp_marks Tryz.func54 rfl trivial ?_ rfl
  simp only [Tryz.ntmps54, List.size_toArray, List.length_cons, List.length_nil, Nat.reduceAdd, Nat.reduceSub, Array.replicate_succ, Array.replicate_zero, List.push_toArray, List.append_toArray, List.nil_append, List.cons_append]
  gi_wp2_with fail
  refine ⟨trivial, ?_⟩
  refine CallsIn.mono (callsIn_wide.2 HM.out) ?_
  rintro e W1 ⟨rfl, hx1⟩
  have H4 := Lib.hid (block_later H4.out hx1)
  have H5 := Lib.hid (block_later H5.out hx1)
  have m4 := cell_of_row _ _ 0 _ _ _ H4.out
  have m5 := cell_of_row _ _ 0 _ _ _ H5.out
  have f4 := frozen_row H4.out 0
  have f5 := frozen_row H5.out 0
  have k4 := setCell_block W1 w.heap.size 0 (.string ⟨#[]⟩) _ _ _ H4.out
  have k5 : (W1.setCell ⟨w.heap.size, 0, none⟩ (.string ⟨#[]⟩)).heap[w.heap.size + 1]? = some (.cells #[.bool false] 4 (0, 0)) := (setCell_block_other W1 ⟨w.heap.size, 0, none⟩ _ _ (by show w.heap.size + 1 ≠ w.heap.size; omega)).trans H5.out
  have k6 := setCell_block (W1.setCell ⟨w.heap.size, 0, none⟩ (.string ⟨#[]⟩)) (w.heap.size + 1) 0 (.bool false) _ _ _ k5
  have k7 : ((W1.setCell ⟨w.heap.size, 0, none⟩ (.string ⟨#[]⟩)).setCell ⟨w.heap.size + 1, 0, none⟩ (.bool false)).heap[w.heap.size]? = some (.cells #[.string ⟨#[]⟩] 9 (0, 0)) := (setCell_block_other _ ⟨w.heap.size + 1, 0, none⟩ _ _ (by show w.heap.size ≠ w.heap.size + 1; omega)).trans k4
  have c4 := cell_of_row _ _ 0 _ _ _ k7
  have c5 := cell_of_row _ _ 0 _ _ _ k6
  have hxe : Ext w ((W1.setCell ⟨w.heap.size, 0, none⟩ (.string ⟨#[]⟩)).setCell ⟨w.heap.size + 1, 0, none⟩ (.bool false)) := ((hx0.trans hx1).setCell (p := ⟨w.heap.size, 0, none⟩) (Nat.le_refl _) _).setCell (p := ⟨w.heap.size + 1, 0, none⟩) (Nat.le_succ _) _
  have HC := Lib.hid (And.intro c4 (And.intro c5 hxe))
  clear k4 k5 k6 k7 c4 c5 hxe
  gi_wp2_with fail
  have d4 := HC.out.1
  have d5 := HC.out.2.1
  exact ⟨.tuple #[.string ⟨#[]⟩, .bool false], by simp [results, Tryz.results54, go_sem, d4, d5], rfl, HC.out.2.2⟩

set_option maxRecDepth 100000 in
set_option maxHeartbeats 16000000 in
theorem apart_yes (w : World) (vp vq : Value) (p q : List C) (hp : PredR w vp p) (hq : PredR w vq q) (kp : ∀ c ∈ p, okC c) (kq : ∀ c ∈ q, okC c) (hm : (mayP p && mayP q) = true) :
    Calls Tryz.prog 54 #[vp, vq] w fun e w' => e = .returned (.tuple #[.string (strOf ((apartF p q).getD [])), .bool (apartF p q).isSome]) ∧ Ext w w' := by
  obtain ⟨ap, cp, rfl, _, _⟩ := hp.shape
  obtain ⟨aq, cq, rfl, _, _⟩ := hq.shape
  obtain ⟨hx0, hb4, hb5⟩ := boxes2 w (.cells #[.string ⟨#[]⟩] 9) (.cells #[.bool false] 4)
  have hsz : ((w.alloc (.cells #[.string ⟨#[]⟩] 9)).alloc (.cells #[.bool false] 4)).heap.size = w.heap.size + 2 := by simp
  have hmay := may95_any _ _ _ p q (hp.ext hx0) (hq.ext hx0)
  have hmm := hm
  rw [hm] at hmay
  simp only [Bool.and_eq_true] at hmm
  have hlp := may_len hmm.1
  have hlq := may_len hmm.2
  have HMAY := Lib.hid hmay
  have HMM := Lib.hid hm
  have HP := Lib.hid hp
  have HQ := Lib.hid hq
  have H4 := Lib.hid hb4
  have H5 := Lib.hid hb5
  have HLP := Lib.hid hlp
  have HLQ := Lib.hid hlq
  have HSZ := Lib.hid hsz
  clear hmay hm hmm hp hq hb4 hb5 hlp hlq hsz
  generalize hpl : p.length = pl at *
  generalize hql : q.length = ql at *
  have HPL := Lib.hid hpl
  have HQL := Lib.hid hql
  clear hpl hql
  generalize hres : (Value.tuple #[.string (strOf ((apartF p q).getD [])), .bool (apartF p q).isSome]) = res
  have HRES := Lib.hid hres
  clear hres
  refine callsIn_wide (n := 9).1 ?_
  refine callsIn_of_wp_marks Tryz.func54 rfl trivial ?_ rfl
  simp only [Tryz.ntmps54, List.size_toArray, List.length_cons, List.length_nil, Nat.reduceAdd, Nat.reduceSub, Array.replicate_succ, Array.replicate_zero, List.push_toArray, List.append_toArray, List.nil_append, List.cons_append]
  gi_wp2_with fail
  refine ⟨trivial, ?_⟩
  refine CallsIn.mono (callsIn_wide.2 HMAY.out) ?_
  rintro e W1 ⟨rfl, hx1⟩
  have hasked := asked96_any W1 _ _ p q (HP.out.ext (hx0.trans hx1)) (HQ.out.ext (hx0.trans hx1)) (by rw [HPL.out]; exact HLP.out) (by rw [HQL.out]; exact HLQ.out)
  have HA := Lib.hid hasked
  clear hasked HMAY
  gi_wp2_with fail
  refine ⟨trivial, ?_⟩
  refine CallsIn.mono (callsIn_wide.2 HA.out) ?_
  rintro e W2 ⟨b5, b6, vn, l0, rfl, hcomp, hl0, hx2, hI, hb5, hbx5⟩
  have h1s : w.heap.size + 2 ≤ W1.heap.size := by have := hx1.size; rw [HSZ.out] at this; exact this
  have hx02 := (hx0.trans hx1).trans hx2
  have k4 := block_later H4.out (hx1.trans hx2)
  have k5 := block_later H5.out (hx1.trans hx2)
  clear HA H4 H5
  gi_wp2_with fail
  refine range_law (gf := 134) rfl (enters_of Tryz.func134 (by kernel_rfl) rfl) ?_
  intro fn rc hrc
  have HRC := Lib.hid hrc
  clear hrc
  obtain ⟨hx3, hdf, hlp⟩ := boxes2 W2 (.deferred (some [])) (.loop (rc .ready))
  have j4 := block_later k4 hx3
  have j5 := block_later k5 hx3
  have hI3 := hI.keeps (Keeps.of_ext (S := fun _ => False) hx3) (fun _ h => h.elim)
  have hbx := block_later hbx5 hx3
  have hx03 := hx02.trans hx3
  have hhi := hI.lohi.2
  have hlo : W1.heap.size + 2 = W1.heap.size + 2 := rfl
  generalize (W2.alloc (.deferred (some []))).alloc (.loop (rc .ready)) = W3 at *
  generalize hL : W2.heap.size = hi at *
  clear hx3 hI k4 k5 hbx5 hx02 hlo
  refine CallsIn.mono (iter_any _ (hi + 1) w p q _ _ HP.out HQ.out kp kq (W1.heap.size + 2) hi b5 b6 (by omega) vn l0 (bothF p q) hcomp hl0
    (fun pre W => (∀ n ∈ pre, ((askedF p n).and (askedF q n)).empty = false) ∧ W.heap[w.heap.size]? = some (.cells #[.string ⟨#[]⟩] 9 (0, 0)) ∧ W.heap[w.heap.size + 1]? = some (.cells #[.bool false] 4 (0, 0)) ∧ W.heap[hi]? = some (.deferred (some [])) ∧ W.heap[hi + 1]? = some (.loop (rc .ready)))
    (fun W => Ext w W ∧ ∃ nm, apartF p q = some nm ∧ W.heap[w.heap.size]? = some (.cells #[.string (strOf nm)] 9 (0, 0)) ∧ W.heap[w.heap.size + 1]? = some (.cells #[.bool true] 4 (0, 0)) ∧ W.heap[hi]? = some (.deferred (some [])) ∧ W.heap[hi + 1]? = some (.loop (recRet rc .done)))
    ?abide ?yield W3 hx03 hI3 hbx ⟨by simp, j4, j5, hdf, hlp⟩) ?done
  case abide =>
    rintro pre W W' ⟨h1, h2, h3, h4, h5⟩ hk
    exact ⟨h1, hk.heap h2 (by omega), hk.heap h3 (by omega), hk.heap h4 (by omega), hk.heap h5 (by omega)⟩
  case done =>
    rintro e W ⟨⟨x, rfl⟩, ⟨hxw, h1, h2, h3, h4, h5⟩ | ⟨hxw, nm, h1, h2, h3, h4, h5⟩⟩
    · refine ⟨⟨_, rfl⟩, .inl ⟨h5, ?_⟩⟩
      have hr : res = .tuple #[.string ⟨#[]⟩, .bool false] := by rw [← HRES.out, apart_end rfl HMM.out h1]; rfl
      have hK : Keeps (fun k => k = hi + 1) W (W.putObj (hi + 1) (.loop (rc .exhausted))) := Keeps.put _ W _ _ rfl
      have g2 := hK.heap h2 (by omega)
      have g3 := hK.heap h3 (by omega)
      have g4 := hK.heap h4 (by omega)
      have hxk := hK.ext hxw (fun k hk => by have : k = hi + 1 := hk; omega)
      generalize W.putObj (hi + 1) (.loop (rc .exhausted)) = Wd at *
      have m4 := cell_of_row _ _ 0 _ _ _ g2
      have m5 := cell_of_row _ _ 0 _ _ _ g3
      have f4 := frozen_row g2 0
      have f5 := frozen_row g3 0
      have hK2 : Keeps (fun k => k = w.heap.size ∨ k = w.heap.size + 1) Wd ((Wd.setCell ⟨w.heap.size, 0, none⟩ (.string ⟨#[]⟩)).setCell ⟨w.heap.size + 1, 0, none⟩ (.bool false)) := (Keeps.cell _ Wd _ _ (.inl rfl)).trans (Keeps.cell _ _ _ _ (.inr rfl))
      have k4 := setCell_block Wd w.heap.size 0 (.string ⟨#[]⟩) _ _ _ g2
      have k5 : (Wd.setCell ⟨w.heap.size, 0, none⟩ (.string ⟨#[]⟩)).heap[w.heap.size + 1]? = some (.cells #[.bool false] 4 (0, 0)) := (setCell_block_other Wd ⟨w.heap.size, 0, none⟩ _ _ (by show w.heap.size + 1 ≠ w.heap.size; omega)).trans g3
      have k6 := setCell_block (Wd.setCell ⟨w.heap.size, 0, none⟩ (.string ⟨#[]⟩)) (w.heap.size + 1) 0 (.bool false) _ _ _ k5
      have k7 : ((Wd.setCell ⟨w.heap.size, 0, none⟩ (.string ⟨#[]⟩)).setCell ⟨w.heap.size + 1, 0, none⟩ (.bool false)).heap[w.heap.size]? = some (.cells #[.string ⟨#[]⟩] 9 (0, 0)) := (setCell_block_other _ ⟨w.heap.size + 1, 0, none⟩ _ _ (by show w.heap.size ≠ w.heap.size + 1; omega)).trans k4
      have k8 := hK2.heap g4 (by omega)
      have hxe := hK2.ext hxk (fun k hk => by omega)
      have HC := Lib.hid (And.intro k7 (And.intro k6 (And.intro k8 hxe)))
      clear g2 g3 g4 k4 k5 k6 k7 k8 hxe hxk hK hK2
      gi_wp2_with fail
      generalize (Wd.setCell ⟨w.heap.size, 0, none⟩ (.string ⟨#[]⟩)).setCell ⟨w.heap.size + 1, 0, none⟩ (.bool false) = We at *
      have hK3 : Keeps (fun k => k = hi) We (We.putObj hi (.deferred none)) := Keeps.put _ We _ _ rfl
      have d4 := cell_of_row _ _ 0 _ _ _ (hK3.heap HC.out.1 (by omega))
      have d5 := cell_of_row _ _ 0 _ _ _ (hK3.heap HC.out.2.1 (by omega))
      refine ⟨by simp, .inl ⟨_, _, rfl, run_takeDeferred HC.out.2.2.1, ?_⟩⟩
      exact ⟨.tuple #[.string ⟨#[]⟩, .bool false], by simp [results, Tryz.results54, go_sem, d4, d5], rfl, hK3.ext HC.out.2.2.2 (fun k hk => by have : k = hi := hk; omega)⟩
    · refine ⟨⟨_, rfl⟩, .inr ⟨h5, ?_⟩⟩
      have hr : res = .tuple #[.string (strOf nm), .bool true] := by rw [← HRES.out, h1]; rfl
      have hK : Keeps (fun k => k = hi + 1 ∨ k = hi) W ((W.putObj (hi + 1) (.loop (recRet rc .exhausted))).putObj hi (.deferred none)) := (Keeps.put _ W _ _ (.inl rfl)).trans (Keeps.put _ _ _ _ (.inr rfl))
      have hK1 : Keeps (fun k => k = hi + 1) W (W.putObj (hi + 1) (.loop (recRet rc .exhausted))) := Keeps.put _ W _ _ rfl
      have d4 := cell_of_row _ _ 0 _ _ _ (hK.heap h2 (by omega))
      have d5 := cell_of_row _ _ 0 _ _ _ (hK.heap h3 (by omega))
      refine ⟨by simp, .inl ⟨_, _, rfl, run_takeDeferred (hK1.heap h4 (by omega)), ?_⟩⟩
      rw [hr]
      exact ⟨.tuple #[.string (strOf nm), .bool true], by simp [results, Tryz.results54, go_sem, d4, d5], rfl, hK.ext hxw (fun k hk => by have : k = hi + 1 ∨ k = hi := hk; omega)⟩
  case yield =>
    rintro pre nm rest vc v W hsp hxw hit ⟨h1, h2, h3, h4, h5⟩ hv
    obtain ⟨a1, c1, a2, c2, a3, c3, rfl, _, _, _⟩ := hv.ex
    have hap := apart_at (pre := pre) (rest := rest) (nm := nm) hsp HMM.out h1
    have HSP := Lib.hid hsp
    clear hsp
    generalize hRR : (askedF p nm).and (askedF q nm) = R at *
    have HRR := Lib.hid hRR
    clear hRR
    refine round_law HRC.out h5 rfl ?_
    obtain ⟨hxa, hbr⟩ := boxes1 W (.cells #[.slice a1 R.i.length c1, .slice a2 R.s.length c2, .slice a3 R.b.length c3, .bool R.odd] 72)
    have hva := hv.ext hxa
    have l5 := block_later h5 hxa
    have hKa : Keeps (fun k => k = hi + 1) (W.alloc (.cells #[.slice a1 R.i.length c1, .slice a2 R.s.length c2, .slice a3 R.b.length c3, .bool R.odd] 72)) ((W.alloc (.cells #[.slice a1 R.i.length c1, .slice a2 R.s.length c2, .slice a3 R.b.length c3, .bool R.odd] 72)).putObj (hi + 1) (.loop (rc .busy))) := Keeps.put _ _ _ _ rfl
    have hvb := rgr_keeps hva hKa (fun k hk => by have : k = hi + 1 := hk; rw [this]; exact ⟨_, l5⟩)
    have hlt : hi + 1 < W.heap.size := (Array.getElem?_eq_some_iff.1 h5).1
    have b2 := hKa.heap (block_later h2 hxa) (by omega)
    have b3 := hKa.heap (block_later h3 hxa) (by omega)
    have b4 := hKa.heap (block_later h4 hxa) (by omega)
    have b5' := loop_put (o' := .loop (rc .busy)) l5
    have bR := hKa.heap hbr (by omega)
    have hitb := (hit.keeps (Keeps.of_ext (S := fun _ => False) hxa) (fun _ h => h.elim)).keeps hKa (fun k hk => by have : k = hi + 1 := hk; omega)
    have hxb := hKa.ext (hxw.trans hxa) (fun k hk => by have : k = hi + 1 := hk; omega)
    have HA2 := Lib.hid (And.intro h1 (And.intro b2 (And.intro b3 (And.intro b4 (And.intro b5' (And.intro hitb hxb))))))
    have HAP := Lib.hid hap
    have HL5 := Lib.hid l5
    have HBR := Lib.hid bR
    have HVB := Lib.hid hvb
    clear h1 h2 h3 h4 h5 hxa hbr hva hKa b2 b3 b4 b5' bR hitb hxb l5 hvb hit hxw hap hv
    gi_wp2_with fail
    refine ⟨HL5.out, ?_⟩
    clear HL5
    generalize (W.alloc (.cells #[.slice a1 R.i.length c1, .slice a2 R.s.length c2, .slice a3 R.b.length c3, .bool R.odd] 72)).putObj (hi + 1) (.loop (rc .busy)) = W5 at *
    generalize W.heap.size = bR at *
    have r0 := cell_of_row _ _ 0 _ _ _ HBR.out
    have r1 := cell_of_row _ _ 1 _ _ _ HBR.out
    have r2 := cell_of_row _ _ 2 _ _ _ HBR.out
    have r3 := cell_of_row _ _ 3 _ _ _ HBR.out
    have hem := empty_any W5 _ R HVB.out
    generalize hE : R.empty = E at *
    have HEM := Lib.hid hem
    have HEE := Lib.hid hE
    clear hem hE
    gi_wp2_with fail
    refine ⟨trivial, ?_⟩
    refine CallsIn.mono (CallsIn.inRound _ (callsIn_wide.2 HEM.out)) ?_
    rintro e W6 ⟨rfl, hx6⟩
    clear r0 r1 r2 r3 HEM
    have b2 := block_later HA2.out.2.1 hx6
    have b3 := block_later HA2.out.2.2.1 hx6
    have b4 := block_later HA2.out.2.2.2.1 hx6
    have b5' := block_later HA2.out.2.2.2.2.1 hx6
    have hit6 := HA2.out.2.2.2.2.2.1.keeps (Keeps.of_ext (S := fun _ => False) hx6) (fun _ h => h.elim)
    have hx7 := HA2.out.2.2.2.2.2.2.trans hx6
    cases E with
    | false =>
      have hK : Keeps (fun k => k = hi + 1) W6 (W6.putObj (hi + 1) (.loop (rc .ready))) := Keeps.put _ _ _ _ rfl
      have e2 := hK.heap b2 (by omega)
      have e3 := hK.heap b3 (by omega)
      have e4 := hK.heap b4 (by omega)
      have e5 := loop_put (o' := .loop (rc .ready)) b5'
      have hit7 := hit6.keeps hK (fun k hk => by have : k = hi + 1 := hk; omega)
      have hx8 := hK.ext hx7 (fun k hk => by have : k = hi + 1 := hk; omega)
      have HC := Lib.hid (And.intro e2 (And.intro e3 (And.intro e4 (And.intro e5 (And.intro hit7 hx8)))))
      have HL := Lib.hid b5'
      clear b2 b3 b4 b5' hit6 hx7 hK e2 e3 e4 e5 hit7 hx8
      gi_wp2_with fail
      refine ⟨HL.out, .inl ⟨rfl, HC.out.2.2.2.2.2, HC.out.2.2.2.2.1, ?_, HC.out.1, HC.out.2.1, HC.out.2.2.1, HC.out.2.2.2.1⟩⟩
      intro n hn
      have hn' : n ∈ pre ∨ n = nm := by simpa using hn
      rcases hn' with hn' | rfl
      · exact HA2.out.1 n hn'
      · rw [HRR.out]; exact HEE.out
    | true =>
      have m4 := cell_of_row _ _ 0 _ _ _ b2
      have m5 := cell_of_row _ _ 0 _ _ _ b3
      have f4 := frozen_row b2 0
      have f5 := frozen_row b3 0
      have hK2 : Keeps (fun k => k = w.heap.size ∨ k = w.heap.size + 1) W6 ((W6.setCell ⟨w.heap.size, 0, none⟩ (.string (strOf nm))).setCell ⟨w.heap.size + 1, 0, none⟩ (.bool true)) := (Keeps.cell _ W6 _ _ (.inl rfl)).trans (Keeps.cell _ _ _ _ (.inr rfl))
      have k4 := setCell_block W6 w.heap.size 0 (.string (strOf nm)) _ _ _ b2
      have k5 : (W6.setCell ⟨w.heap.size, 0, none⟩ (.string (strOf nm))).heap[w.heap.size + 1]? = some (.cells #[.bool false] 4 (0, 0)) := (setCell_block_other W6 ⟨w.heap.size, 0, none⟩ _ _ (by show w.heap.size + 1 ≠ w.heap.size; omega)).trans b3
      have k6 := setCell_block (W6.setCell ⟨w.heap.size, 0, none⟩ (.string (strOf nm))) (w.heap.size + 1) 0 (.bool true) _ _ _ k5
      have k7 : ((W6.setCell ⟨w.heap.size, 0, none⟩ (.string (strOf nm))).setCell ⟨w.heap.size + 1, 0, none⟩ (.bool true)).heap[w.heap.size]? = some (.cells #[.string (strOf nm)] 9 (0, 0)) := (setCell_block_other _ ⟨w.heap.size + 1, 0, none⟩ _ _ (by show w.heap.size ≠ w.heap.size + 1; omega)).trans k4
      have k8 := hK2.heap b4 (by omega)
      have k9 := hK2.heap b5' (by omega)
      have hx8 := hK2.ext hx7 (fun k hk => by omega)
      have hK : Keeps (fun k => k = hi + 1) ((W6.setCell ⟨w.heap.size, 0, none⟩ (.string (strOf nm))).setCell ⟨w.heap.size + 1, 0, none⟩ (.bool true)) (((W6.setCell ⟨w.heap.size, 0, none⟩ (.string (strOf nm))).setCell ⟨w.heap.size + 1, 0, none⟩ (.bool true)).putObj (hi + 1) (.loop (recRet rc .done))) := Keeps.put _ _ _ _ rfl
      have e2 := hK.heap k7 (by omega)
      have e3 := hK.heap k6 (by omega)
      have e4 := hK.heap k8 (by omega)
      have e5 := loop_put (o' := .loop (recRet rc .done)) k9
      have hx9 := hK.ext hx8 (fun k hk => by have : k = hi + 1 := hk; omega)
      have HC := Lib.hid (And.intro e2 (And.intro e3 (And.intro e4 (And.intro e5 hx9))))
      have HL := Lib.hid k9
      clear b2 b3 b4 b5' hit6 hx7 hK2 k4 k5 k6 k7 k8 k9 hx8 hK e2 e3 e4 e5 hx9
      gi_wp2_with fail
      exact ⟨HL.out, .inr ⟨rfl, HC.out.2.2.2.2, nm, HAP.out (by first | rfl | trivial | exact HEE.out), HC.out.1, HC.out.2.1, HC.out.2.2.1, HC.out.2.2.2.1⟩⟩

theorem apart_any (w : World) (vp vq : Value) (p q : List C) (hp : PredR w vp p) (hq : PredR w vq q) (kp : ∀ c ∈ p, okC c) (kq : ∀ c ∈ q, okC c) :
    Calls Tryz.prog 54 #[vp, vq] w fun e w' => e = .returned (.tuple #[.string (strOf ((apartF p q).getD [])), .bool (apartF p q).isSome]) ∧ Ext w w' := by
  cases hm : (mayP p && mayP q) with
  | true => exact apart_yes w vp vq p q hp hq kp kq hm
  | false =>
    have : apartF p q = none := by unfold apartF; rw [hm]; rfl
    rw [this]
    exact apart_no w vp vq p q hp hq hm
end Go.Proofs.YtlhbpflcffjhmaaGreat

namespace Go.Proofs.YtlhbpflcffjhmaaGreat
open Go.RowKit

set_option maxRecDepth 100000 in
set_option maxHeartbeats 4000000 in
theorem overlaps_any (w : World) (vp vq : Value) (p q : List C) (hp : PredR w vp p) (hq : PredR w vq q) (kp : ∀ c ∈ p, okC c) (kq : ∀ c ∈ q, okC c) :
    Calls Tryz.prog 23 #[vp, vq] w fun e w' => e = .returned (.bool (overlapsF p q)) ∧ Ext w w' := by
  obtain ⟨ap, cp, rfl, _, _⟩ := hp.shape
  obtain ⟨aq, cq, rfl, _, _⟩ := hq.shape
  have h1 := apart_any w _ _ p q hp hq kp kq
  have HA := Lib.hid h1
  have HMAY := Lib.hid (fun W (hx : Ext w W) => may95_any W _ _ p q (hp.ext hx) (hq.ext hx))
  have hov : overlapsF p q = ((mayP p && mayP q) && !(apartF p q).isSome) := by unfold overlapsF; cases apartF p q <;> simp
  rw [hov]
  clear h1 hov hp hq kp kq
  generalize (mayP p && mayP q) = m at *
  generalize (apartF p q).isSome = s at *
  generalize strOf ((apartF p q).getD []) = nm at *
  generalize p.length = pl at *
  generalize q.length = ql at *
  cases m <;> cases s <;>
  · go_enter Tryz.func23, Tryz.ntmps23
    go_wp2_with fail
    refine HA.out.mono ?_
    rintro e w1 ⟨rfl, hx1⟩
    have H2 := Lib.hid (HMAY.out w1 hx1)
    go_wp2_with fail
    refine H2.out.mono ?_
    rintro e w2 ⟨rfl, hx2⟩
    go_wp2_with fail
    go_ret
    exact ⟨rfl, hx1.trans hx2⟩
theorem overlaps_lit {w : World} {vp vq : Value} {p q : List C} (hp : PredR w vp p) (hq : PredR w vq q) (kp : ∀ c ∈ p, okC c) (kq : ∀ c ∈ q, okC c) {b : Bool} (h : overlapsF p q = b) :
    Calls Tryz.prog 23 #[vp, vq] w fun e w' => e = .returned (.bool b) ∧ Ext w w' := by
  have := overlaps_any w vp vq p q hp hq kp kq
  rwa [h] at this
theorem apart_lit {w : World} {vp vq : Value} {p q : List C} (hp : PredR w vp p) (hq : PredR w vq q) (kp : ∀ c ∈ p, okC c) (kq : ∀ c ∈ q, okC c) {o : Option (List UInt8)} (h : apartF p q = o) :
    Calls Tryz.prog 54 #[vp, vq] w fun e w' => e = .returned (.tuple #[.string (strOf (o.getD [])), .bool o.isSome]) ∧ Ext w w' := by
  have := apart_any w vp vq p q hp hq kp kq
  rwa [h] at this
end Go.Proofs.YtlhbpflcffjhmaaGreat

namespace Go.Proofs.YtlhbpflcffjhmaaGreat
open Go.RowKit Go.Sort Go.MapKept

theorem ent_near : ∀ args w, (callFunc 96 args).run Tryz.prog w = .ok (.enter 96 args) w := enters_of Tryz.func96 (by kernel_rfl) rfl
theorem ent_near1 : ∀ args w, (callFunc 97 args).run Tryz.prog w = .ok (.enter 97 args) w := enters_of Tryz.func97 (by kernel_rfl) rfl
theorem ent_near11 : ∀ args w, (callFunc 98 args).run Tryz.prog w = .ok (.enter 98 args) w := enters_of Tryz.func98 (by kernel_rfl) rfl
set_option maxRecDepth 100000 in
theorem near11_any (W : World) (B : Nat) (ph qh : Value) (p q : List C) (hB : W.cell? ⟨B, 0, none⟩ = some ph) (hp : PredR W ph p) (hq : PredR W qh q) (kp : ∀ c ∈ p, okC c) (kq : ∀ c ∈ q, okC c) :
    Calls Tryz.prog 98 #[qh, .pointer (some ⟨B, 0, none⟩)] W fun e w' => e = .returned (.bool (overlapsF p q)) ∧ Ext W w' := by
  have hc := overlaps_any W ph qh p q hp hq kp kq
  obtain ⟨pa, pc, rfl, _, _⟩ := hp.shape
  obtain ⟨qa, qc, rfl, _, _⟩ := hq.shape
  have HC := Lib.hid hc
  clear hc hp hq kp kq
  generalize overlapsF p q = m at *
  go_enter Tryz.func98, Tryz.ntmps98
  go_wp2_with (go_at_call 23; (with_reducible refine HC.out.mono ?_); rintro e w1 ⟨rfl, hx⟩; have HX := Lib.hid hx; clear hx)
  exact bodyPost_ret (v := .bool m) (by simp [results, Tryz.results98, go_sem]) rfl ⟨rfl, HX.out⟩
set_option maxRecDepth 100000 in
set_option maxHeartbeats 8000000 in
theorem near1_any (W : World) (b bt bm b1 b2 : Nat) (gs : List LkG) (vo : Value) (o : List PP) (h : SubR b W bt bm gs vo o) (g : LkG) (hg : lkG gs g.n = some g) (h1 : W.cell? ⟨b1, 0, none⟩ = some (.pointer (some ⟨bt, 0, none⟩))) (h2 : W.cell? ⟨b2, 0, none⟩ = some (.int .i64 g.n)) (ph : Value) (p : List C) (hp : PredR W ph p) (kp : ∀ c ∈ p, okC c) :
    Calls Tryz.prog 97 #[ph, .pointer (some ⟨b1, 0, none⟩), .pointer (some ⟨b2, 0, none⟩)] W fun e w' => e = .returned (.bool (!((psP g.a).any fun a => overlapsF p a))) ∧ Ext W w' := by
  obtain ⟨hxa, hba⟩ := boxes1 W (.cells #[ph] 25)
  obtain ⟨hgm, _⟩ := lkG_some hg
  have hlr := h.links g hgm
  have hco : ∀ w1, Ext (W.alloc (.cells #[ph] 25)) w1 → Calls Tryz.prog 49 #[g.va, .func (.func 98) #[] #[.pointer (some ⟨W.heap.size, 0, none⟩)]] w1 fun e w' => e = .returned (.bool ((psP g.a).any fun a => overlapsF p a)) ∧ Ext w1 w' := fun w1 hW => by
    have hw : Ext W w1 := hxa.trans hW
    have := hasQ_any w1 g.va g.a (hlr.a.ext hw).preds 98 #[.pointer (some ⟨W.heap.size, 0, none⟩)] (fun x => overlapsF p x.p) ent_near11 fun W' x hW' hx =>
      near11_any W' W.heap.size ph x.h p x.p (cell_of_row _ _ 0 _ _ _ (block_later hba (hW.trans hW'))) (hp.ext (hw.trans hW')) ((hlr.a.ps x hx).pred.ext (hw.trans hW')) kp (hlr.a.ok x hx)
    have e1 : (psP g.a).any (fun a => overlapsF p a) = g.a.any fun x => overlapsF p x.p := by unfold psP; rw [List.any_map]; rfl
    rw [e1]
    exact this
  have hlk := fun w1 (hW : Ext W w1) => h.look g.n hW
  rw [ptrL_some hg] at hlk
  have n1 := hxa.cell h1
  have n2 := hxa.cell h2
  have n3 := cell_of_row _ _ 0 _ _ _ (block_later h.box hxa)
  have n4 := cell_of_row _ _ 1 _ _ _ (block_later hlr.box hxa)
  obtain ⟨aa, ac, hav, _, _⟩ := own_shape hlr.a.own
  rw [hav] at n4 hco
  obtain ⟨pa, pc, rfl, _, _⟩ := hp.shape
  generalize (psP g.a).any (fun a => overlapsF p a) = m at *
  have HCO := Lib.hid hco
  have HLK := Lib.hid (fun w1 (hW : Ext (W.alloc (.cells #[.slice pa p.length pc] 25)) w1) => hlk w1 (hxa.trans hW))
  have HXA := Lib.hid hxa
  generalize g.n = gn at *
  generalize g.p = gp at *
  generalize g.a.length = an at *
  clear hco hlk hxa hba h hg h1 h2 hp kp hgm hlr hav
  go_enter Tryz.func97, Tryz.ntmps97
  go_upto_region 1 with fail
  generalize W.alloc (.cells #[.slice pa p.length pc] 25) = wa at *
  generalize W.heap.size = bx at *
  refine wp_region_facts [Fact.eq (.pointer (some ⟨bt, 0, none⟩)),
      Fact.eq (.pointer (some ⟨bt, 0, none⟩)),
      Fact.eq (.pointer (some ⟨bt, 0, none⟩)),
      Fact.eq (.map (some bm)),
      Fact.eq (.int .i64 gn),
      Fact.eq (.pointer (some ⟨gp, 0, none⟩)),
      Fact.eq (.pointer (some ⟨gp, 0, none⟩)),
      Fact.eq (.pointer (some ⟨gp, 1, none⟩)),
      Fact.eq (.slice aa an ac),
      Fact.eq (.func (.func 98) #[] #[.pointer (some ⟨bx, 0, none⟩)]),
      Fact.eq (.bool m),
      Fact.eq (.bool (!m)),
      Fact.eq (.bool (!m))]
    [[], [(0, 5)], [(1, 6)], [(2, 7)], [], [(3, 8), (4, 9)], [(5, 10)], [(6, 11)], [(7, 12)], [], [(8, 13), (9, 14)], [(10, 15)], [(11, 16)]]
    [(0, 5), (1, 6), (2, 7), (3, 8), (4, 9), (5, 10), (6, 11), (7, 12), (8, 13), (9, 14), (10, 15), (11, 16), (12, 4)] (by kernel_rfl) (by kernel_rfl) ?_ ?_
  · refine ⟨?_, ?_, ?_, ?_, ?_, ?_, ?_, ?_, ?_, ?_, ?_, ?_, ?_, trivial⟩
    · intro w1 hx1; change wpList _ _ _ _ _ _; have m0 := hx1.cell n1; go_wp2_with fail; exact ⟨rfl, Ext.refl _, rfl, rfl⟩
    · intro w1 hx1; rintro _ rfl; change wpList _ _ _ _ _ _; go_wp2_with fail; exact ⟨rfl, Ext.refl _, rfl, rfl⟩
    · intro w1 hx1; rintro _ rfl; change wpList _ _ _ _ _ _; go_wp2_with fail; exact ⟨rfl, Ext.refl _, rfl, rfl⟩
    · intro w1 hx1; rintro _ rfl; change wpList _ _ _ _ _ _; have m0 := hx1.cell n3; go_wp2_with fail; exact ⟨rfl, Ext.refl _, rfl, rfl⟩
    · intro w1 hx1; change wpList _ _ _ _ _ _; have m0 := hx1.cell n2; go_wp2_with fail; exact ⟨rfl, Ext.refl _, rfl, rfl⟩
    · intro w1 hx1; rintro _ rfl; rintro _ rfl; change wpList _ _ _ _ _ _; have k1 := HLK.out w1 hx1; go_wp2_with fail; exact ⟨rfl, Ext.refl _, rfl, rfl⟩
    · intro w1 hx1; rintro _ rfl; change wpList _ _ _ _ _ _; go_wp2_with fail; exact ⟨rfl, Ext.refl _, rfl, rfl⟩
    · intro w1 hx1; rintro _ rfl; change wpList _ _ _ _ _ _; go_wp2_with fail; exact ⟨rfl, Ext.refl _, rfl, rfl⟩
    · intro w1 hx1; rintro _ rfl; change wpList _ _ _ _ _ _; have m0 := hx1.cell n4; go_wp2_with fail; exact ⟨rfl, Ext.refl _, rfl, rfl⟩
    · intro w1 hx1; change wpList _ _ _ _ _ _; go_wp2_with fail; exact ⟨rfl, Ext.refl _, rfl, rfl⟩
    · intro w1 hx1; rintro _ rfl; rintro _ rfl; change wpList _ _ _ _ _ _; go_wp2_with fail; refine (HCO.out w1 hx1).mono ?_; rintro e w2 ⟨rfl, hx2⟩; go_wp2_with fail; exact ⟨rfl, hx2, rfl, rfl⟩
    · intro w1 hx1; rintro _ rfl; change wpList _ _ _ _ _ _; go_wp2_with fail; exact ⟨rfl, Ext.refl _, rfl, rfl⟩
    · intro w1 hx1; rintro _ rfl; change wpList _ _ _ _ _ _; exact ob_assign rfl rfl rfl rfl rfl
  · intro w1 hx1; rintro _ rfl; rintro _ rfl; rintro _ rfl; rintro _ rfl; rintro _ rfl; rintro _ rfl; rintro _ rfl; rintro _ rfl; rintro _ rfl; rintro _ rfl; rintro _ rfl; rintro _ rfl; rintro _ rfl; refine depsThen_nil ?_; dsimp only; simp only [Act.put, List.setIfInBounds_toArray, List.set_cons_zero, List.set_cons_succ]
    go_wp2_with fail
    exact bodyPost_ret (v := .bool (!m)) (by simp [results, Tryz.results97, go_sem]) rfl ⟨rfl, HXA.out.trans hx1⟩
end Go.Proofs.YtlhbpflcffjhmaaGreat
