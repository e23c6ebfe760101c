/- The rule for a region that draws its order, over any way in which memory may turn, with what its stores leave (K3's rule, turned). -/
import Derived.Test.YtdfnfmanpdafpaaDoorK3
namespace Go.Proofs.YtdfnfmanpdafpaaDoor.Rs
open Go.RowKit

open Rg (Step)
section
variable {P : Program} (S : Step)

/-- What an operation must come to: no panic, memory only grows, its value has its fact. -/
def endQ (F : Value → World → Prop) (o : Oper) (a : Act) (w : World) : Exit → Act → World → Prop :=
  fun e a' w' => e = .normal ∧ S.rel w w' ∧ a'.defers = a.defers ∧ F (match o.dst with | some d => a'.tmps.getD d undef | none => undef) w'

def Ob (P : Program) (ops : Array Oper) (F : Nat → Value → World → Prop) (a0 : Act) (w0 : World) (i : Nat) (o : Oper) (D : List (Nat × Tmp)) : Prop :=
  ∀ w, S.rel w0 w → depsThen F w D a0 (fun a => wpList P ops (endQ S (F i) o a w) [o] a w)

def Obs (P : Program) (ops : Array Oper) (F : Nat → Value → World → Prop) (a0 : Act) (w0 : World) : Nat → List Oper → List (List (Nat × Tmp)) → Prop
  | _, [], _ => True
  | i, o :: os, D => Ob S P ops F a0 w0 i o (D.headD []) ∧ Obs P ops F a0 w0 (i + 1) os D.tail


theorem Obs_get {ops : Array Oper} {F : Nat → Value → World → Prop} {a0 : Act} {w0 : World} : ∀ {l : List Oper} {k : Nat} {D : List (List (Nat × Tmp))}, Obs S P ops F a0 w0 k l D →
    ∀ i o, l[i]? = some o → Ob S P ops F a0 w0 (k + i) o (D.getD i [])
  | [], _, _, _, _, _, h => by simp at h
  | o :: os, k, D, hb, i, o', h => by
    simp only [Obs] at hb
    cases i with
    | zero => simp at h; subst h; cases D <;> simpa using hb.1
    | succ i =>
      have := Obs_get hb.2 i o' (by simpa using h)
      cases D <;> simpa [Nat.add_assoc, Nat.add_comm 1 i] using this

structure Inv (ops : Array Oper) (F : Nat → Value → World → Prop) (a0 : Act) (w0 : World) (listed : Array Bool) (a : Act) (w : World) : Prop where
  size : listed.size = ops.size
  ts : a.tmps.size = a0.tmps.size
  df : a.defers = a0.defers
  old : ∀ s, (∀ j, dstOf ops j = some s → listed.getD j false = false) → a.tmps.getD s undef = a0.tmps.getD s undef
  fact : ∀ j, j < ops.size → listed.getD j false = true → F j (match dstOf ops j with | some d => a.tmps.getD d undef | none => undef) w
  down : ∀ j, listed.getD j false = true → ∀ i, waits ops j i = true → listed.getD i false = true
  ext : S.rel w0 w

theorem region_any {ops : Array Oper} {F : Nat → Value → World → Prop} {a0 : Act} {w0 : World} {D : List (List (Nat × Tmp))} {E : List (Nat × Tmp)} {Q : Exit → Act → World → Prop}
    (hok : opsOk ops a0.tmps.size 0 ops.toList D = true) (hE : endOk ops E = true)
    (hst : ∀ i v w w', S.rel w w' → F i v w → F i v w')
    (hob : Obs S P ops F a0 w0 0 ops.toList D)
    (hend : ∀ w, S.rel w0 w → (∀ j, j < ops.size → dstOf ops j = none → F j undef w) → depsThen F w E a0 (fun a => Q .normal a w)) :
    ∀ (fuel : Nat) (listed : Array Bool) (a : Act) (w : World), listed.count false = fuel → Inv S ops F a0 w0 listed a w → wpAny P .any ops Q fuel listed a w := by
  have hall : ∀ {i o}, ops[i]? = some o → opOk ops a0.tmps.size i o (D.getD i []) = true := fun {i o} h => by
    have := opsOk_get hok i o (by simpa using h); simpa using this
  have hobs : ∀ {i o}, ops[i]? = some o → Ob S P ops F a0 w0 i o (D.getD i []) := fun {i o} h => by
    have := Obs_get S hob i o (by simpa using h); simpa using this
  -- all that are listed: the end
  have fin : ∀ (listed : Array Bool) (a : Act) (w : World), (∀ j, j < ops.size → listed.getD j false = true) → Inv S ops F a0 w0 listed a w → Q .normal a w := by
    intro listed a w hl hI
    simp only [endOk, Bool.and_eq_true] at hE
    have hdl : ∀ {j d}, dstOf ops j = some d → j < ops.size := fun {j d} hj => by
      unfold dstOf at hj
      rcases Nat.lt_or_ge j ops.size with h' | h'
      · exact h'
      · rw [Array.getElem?_eq_none h'] at hj; cases hj
    obtain ⟨c, hk, hc1, hc2, hc3⟩ := depsThen_at a _ E a0 hI.ts.symm (fun p hp => by
      have hd : dstOf ops p.1 = some p.2 := by simpa using List.all_eq_true.1 hE.1 p hp
      have := hI.fact p.1 (hdl hd) (hl p.1 (hdl hd))
      simp only [hd] at this
      exact this) (hend w hI.ext fun j hj hd => by have := hI.fact j hj (hl j hj); simp only [hd] at this; exact this)
    have : c = a := by
      obtain ⟨ct, cd⟩ := c
      obtain ⟨at', ad⟩ := a
      have e2 : cd = ad := hc2.trans hI.df.symm
      have e1 : ct = at' := by
        apply Array.ext_getElem?
        intro s
        refine tmps_ext (a := ⟨ct, cd⟩) (b := ⟨at', ad⟩) hc1 ?_
        rw [hc3]
        split
        · rfl
        · rename_i hn
          refine (hI.old s fun j hj => ?_).symm
          exfalso
          have h2 := List.all_eq_true.1 hE.2 j (List.mem_range.2 (hdl hj))
          simp only [hj, List.any_eq_true, beq_iff_eq] at h2
          obtain ⟨p, hp, hpj⟩ := h2
          have hd : dstOf ops p.1 = some p.2 := by simpa using List.all_eq_true.1 hE.1 p hp
          rw [hpj, hj] at hd
          exact hn ⟨p, hp, (Option.some.inj hd).symm⟩
      rw [e1, e2]
    rw [← this]; exact hk
  -- nothing ready: all are listed
  have noReady : ∀ (listed : Array Bool), listed.size = ops.size → Region.ready .any ops listed = [] → ∀ j, j < ops.size → listed.getD j false = true := by
    intro listed hs hr j
    induction j using Nat.strongRecOn with
    | _ j ih =>
      intro hj
      cases hlj : listed.getD j false with
      | true => rfl
      | false =>
        exfalso
        have ho : ops[j]? = some ops[j] := by simp [hj]
        have hmem : j ∈ Region.ready .any ops listed := by
          refine mem_ready.2 ⟨?_, ops[j], ho, fun e he hb => ?_⟩
          · have : j < listed.size := hs ▸ hj
            simp [this] at hlj ⊢; exact hlj
          · have h1 := hall ho
            simp only [opOk, Bool.and_eq_true] at h1
            have h2 := (Array.all_eq_true_iff_forall_mem.1 h1.1.2) e he
            simp [hb] at h2
            exact ih e.on h2 (by omega)
        rw [hr] at hmem
        cases hmem
  intro fuel
  induction fuel with
  | zero =>
    intro listed a w hc hI
    have hl : ∀ j, j < ops.size → listed.getD j false = true := by
      intro j hj
      have hj' : j < listed.size := hI.size ▸ hj
      have := Array.count_eq_zero.1 hc
      have h2 : listed[j] ≠ false := fun e => this (e ▸ Array.getElem_mem hj')
      simp [hj']; simpa using h2
    refine ⟨?_, fin listed a w hl hI⟩
    cases hr : Region.ready .any ops listed with
    | nil => rfl
    | cons i rs =>
      have hm : i ∈ Region.ready .any ops listed := by rw [hr]; exact List.mem_cons_self
      obtain ⟨h0, o, ho, _⟩ := mem_ready.1 hm
      have hi : i < ops.size := (Array.getElem?_eq_some_iff.1 ho).1
      have h1 := hl i hi
      have hi' : i < listed.size := hI.size ▸ hi
      simp [hi'] at h0 h1
      rw [h0] at h1; cases h1
  | succ fuel ih =>
    intro listed a w hc hI
    refine ⟨fun hr => fin listed a w (noReady listed hI.size hr) hI, fun i hi => ?_⟩
    obtain ⟨h0, o, ho, hafter⟩ := mem_ready.1 hi
    have hil : i < ops.size := (Array.getElem?_eq_some_iff.1 ho).1
    have hil' : i < listed.size := hI.size ▸ hil
    have h0' : listed.getD i false = false := by simp [hil'] at h0 ⊢; exact h0
    have hopk := hall ho
    simp only [opOk, Bool.and_eq_true] at hopk
    obtain ⟨⟨⟨⟨hk1, hk2⟩, hk3⟩, hk4⟩, hk5⟩ := hopk
    have hdep2 : ∀ p ∈ D.getD i [], waits ops i p.1 = true ∧ dstOf ops p.1 = some p.2 := fun p hp => by
      have := List.all_eq_true.1 hk3 p hp
      simpa using this
    have hdeps : ∀ p ∈ D.getD i [], listed.getD p.1 false = true := fun p hp => waits_of_ready hi p.1 (hdep2 p hp).1
    have hsel : ∀ cs b, o.op ≠ .select cs b := by intro cs b e; rw [e] at hk2; cases hk2
    have hjlt : ∀ j, listed.getD j false = true → j < ops.size := fun j hj => by
      rcases Nat.lt_or_ge j listed.size with h' | h'
      · exact hI.size ▸ h'
      · simp [Array.getElem?_eq_none h'] at hj
    obtain ⟨c, hk, hc1, hc2, hc3⟩ := depsThen_at a _ (D.getD i []) a0 hI.ts.symm (fun p hp => by
      have := hI.fact p.1 (hjlt p.1 (hdeps p hp)) (hdeps p hp)
      simp only [(hdep2 p hp).2] at this
      exact this) (hobs ho w hI.ext)
    -- what the operation looks at stands in 'c' as in 'a'
    have same : ∀ s ∈ o.looksAt ops, c.tmps[s]? = a.tmps[s]? := by
      intro s hs
      refine tmps_ext hc1 ?_
      rw [hc3]
      split
      · rfl
      · rename_i hn
        refine (hI.old s fun j hj => ?_).symm
        have hjl : j < ops.size := by
          unfold dstOf at hj
          rcases Nat.lt_or_ge j ops.size with h' | h'
          · exact h'
          · rw [Array.getElem?_eq_none h'] at hj; cases hj
        have h1 := List.all_eq_true.1 (List.all_eq_true.1 hk5 s hs) j (List.mem_range.2 hjl)
        simp only [Bool.or_eq_true, bne_iff_ne, ne_eq, beq_iff_eq] at h1
        rcases h1 with ((h1 | h1) | h1) | h1
        · exact absurd hj h1
        · exfalso
          rw [List.any_eq_true] at h1
          obtain ⟨p, hp, hpj⟩ := h1
          have hd := (hdep2 p hp).2
          rw [eq_of_beq hpj, hj] at hd
          exact hn ⟨p, hp, (Option.some.inj hd).symm⟩
        · rw [h1]; exact h0'
        · cases hlj : listed.getD j false with
          | false => rfl
          | true => have := hI.down j hlj i h1; rw [h0'] at this; cases this
    have heval : execOp c.eval o = execOp a.eval o := execOp_congr o hsel fun x hx => by
      cases x with
      | tmp t =>
        have := same t (List.mem_append_left _ (List.mem_filterMap.2 ⟨.tmp t, by simpa using hx, rfl⟩))
        simp [Act.eval, this]
      | _ => rfl
    have hwant : Region.wanted o (yielded ops c.tmps) = Region.wanted o (yielded ops a.tmps) := by
      unfold Region.wanted
      cases hg : o.guard with
      | none => rfl
      | some gw =>
        obtain ⟨g, want⟩ := gw
        have hy : yielded ops c.tmps g = yielded ops a.tmps g := by
          unfold yielded
          cases ht : (ops[g]?).bind (·.dst) with
          | none => rfl
          | some t =>
            have := same t (by simp [Oper.looksAt, hg, ht])
            simp [this]
        simp only [hy]
    -- the invariant behind the operation
    have next : ∀ v w', S.rel w w' → F i (match o.dst with | some d => (c.put o.dst v).tmps.getD d undef | none => undef) w' →
        wpAny P .any ops Q fuel (listed.setIfInBounds i true) (a.put o.dst v) w' := by
      intro v w' hx hF
      have hdst : dstOf ops i = o.dst := by simp [dstOf, ho]
      refine ih _ _ _ ?_ ⟨by simpa using hI.size, by rw [put_size]; exact hI.ts, by rw [put_defers]; exact hI.df, ?_, ?_, ?_, S.trans hI.ext hx⟩
      · have hset : listed.setIfInBounds i true = listed.set i true hil' := by simp [Array.setIfInBounds, hil']
        rw [hset, Array.count_set]
        have : listed[i] = false := by simpa [hil'] using h0'
        simp [this]; omega
      · intro s hs
        have hne : o.dst ≠ some s := fun e => by
          have := hs i (hdst.trans e)
          simp [hil'] at this
        rw [put_getD_ne _ hne]
        refine hI.old s fun j hj => ?_
        by_cases hji : i = j
        · rw [← hji]; exact h0'
        · have := hs j hj
          rwa [getD_set_ne false hji] at this
      · intro j hj hlj
        by_cases hji : i = j
        · subst hji
          rw [hdst]
          cases hd : o.dst with
          | none => simp only [hd] at hF; exact hF
          | some d =>
            simp only [hd] at hF hk1
            simp only [Bool.and_eq_true, decide_eq_true_eq] at hk1
            rw [put_getD_eq _ (by rw [hc1, hI.ts]; exact hk1.1)] at hF
            show F i ((a.put (some d) v).tmps.getD d undef) w'
            rw [put_getD_eq _ (by rw [hI.ts]; exact hk1.1)]
            exact hF
        · rw [getD_set_ne false hji] at hlj
          have hfj := hst _ _ _ _ hx (hI.fact j hj hlj)
          cases hdj : dstOf ops j with
          | none => simp only [hdj] at hfj; exact hfj
          | some d =>
            simp only [hdj] at hfj
            have hne : o.dst ≠ some d := fun e => by
              rw [e] at hk1
              simp only [Bool.and_eq_true] at hk1
              have := List.all_eq_true.1 hk1.2 j (List.mem_range.2 hj)
              simp [hdj, Ne.symm hji] at this
            show F j ((a.put o.dst v).tmps.getD d undef) w'
            rw [put_getD_ne _ hne]
            exact hfj
      · intro j hlj k hw
        by_cases hji : i = j
        · subst hji; exact getD_set_true (waits_of_ready hi k hw)
        · rw [getD_set_ne false hji] at hlj
          exact getD_set_true (hI.down j hlj k hw)
    -- the operation itself
    unfold wpOp
    rw [ho]
    simp only []
    rw [← hwant]
    simp only [wpList] at hk
    split
    · rename_i hw
      rw [if_pos hw] at hk
      rcases hk with hk | ⟨_, x, y, hxy⟩
      · refine .inl ?_
        unfold Oper.wp at hk ⊢
        rw [heval] at hk
        generalize (execOp a.eval o).run P w = r at *
        cases r with
        | ok n w' =>
          cases n <;> simp only [Oper.upon] at hk ⊢
          case value u => exact next u w' hk.2.1 hk.2.2.2
          case skip => exact next undef w' hk.2.1 hk.2.2.2
          case defer d =>
            have := hk.2.2.1
            rw [put_defers] at this
            exact absurd this (by simp)
          case enter f args =>
            refine Calls.mono hk fun e w'' he => ?_
            cases e with
            | returned u => exact next u w'' he.2.1 he.2.2.2
            | panicked c => exact absurd he.1 (by simp)
            | outgrown => obtain ⟨_, _, h⟩ := he; exact absurd h.1 (by simp)
          case row row args => exact Rows.mono hk fun u w'' he => next u w'' he.2.1 he.2.2.2
        | halt x w' =>
          cases x <;> simp only [Oper.upon] at hk ⊢
          case panic u => exact absurd hk.1 (by simp)
      · exact absurd hxy.1 (by simp)
    · rename_i hw
      rw [if_neg hw] at hk
      exact next undef w hk.2.1 hk.2.2.2

/-- A fact on a value that stays true while memory only grows. -/
structure Fact where
  p : Value → World → Prop
  st : ∀ v w w', S.rel w w' → p v w → p v w'

def Fact.any : Fact S := ⟨fun _ _ => True, fun _ _ _ _ h => h⟩
def Fact.eq (u : Value) : Fact S := ⟨fun v _ => v = u, fun _ _ _ _ h => h⟩
/-- The facts of the operations in order. -/
def factAt (Fs : List (Fact S)) (i : Nat) : Value → World → Prop := (Fs.getD i (Fact.any S)).p

/-- A REGION THAT DRAWS ITS ORDER: each operation is shown once, over the facts of those that it waits for (D: for each operation their numbers and slots; E: of all). -/
theorem wp_region_facts {id : Nat} {l : List Oper} (Fs : List (Fact S)) (D : List (List (Nat × Tmp))) (E : List (Nat × Tmp)) {a0 : Act} {w0 : World} {Q : Exit → Act → World → Prop}
    (hm : P.follows .mixedOrders = true)
    (hok : (opsOk l.toArray a0.tmps.size 0 l D && endOk l.toArray E) = true)
    (hob : Obs S P l.toArray (factAt S Fs) a0 w0 0 l D)
    (hend : ∀ w, S.rel w0 w → (∀ j, j < l.toArray.size → dstOf l.toArray j = none → factAt S Fs j undef w) → depsThen (factAt S Fs) w E a0 (fun a => Q .normal a w)) :
    (Code.region id l.toArray true).wp P Q a0 w0 := by
  simp only [Bool.and_eq_true] at hok
  refine wp_region_any hm (region_any S (F := factAt S Fs) (D := D) (E := E) (w0 := w0) (by simpa using hok.1) hok.2 (fun i v w w' hx h => (Fs.getD i (Fact.any S)).st v w w' hx h) (by simpa using hob) hend _ _ _ _ ?_ ?_)
  · simp
  · have hno : ∀ j, (Array.replicate l.toArray.size false).getD j false = false := fun j => by
      simp only [Array.getD_eq_getD_getElem?, Array.getElem?_replicate]; split <;> rfl
    exact ⟨by simp, rfl, rfl, fun _ _ => rfl, fun j _ h => (by rw [hno] at h; cases h), fun j h => (by rw [hno] at h; cases h), S.drew w0⟩

theorem ob_val {F : Value → World → Prop} {ops : Array Oper} {a : Act} {w w' : World} {o : Oper} {v : Value} {d : Nat}
    (hw : Region.wanted o (yielded ops a.tmps) = true) (hr : (execOp a.eval o).run P w = .ok (.value v) w') (hx : S.rel w w') (hd : o.dst = some d) (hs : decide (d < a.tmps.size) = true) (hf : F v w') :
    wpList P ops (endQ S F o a w) [o] a w := by
  refine wpList_val hw hr (wpList_nil ⟨rfl, hx, put_defers _ _ _, ?_⟩)
  rw [hd]
  show F ((a.put (some d) v).tmps.getD d undef) w'
  rw [put_getD_eq _ (of_decide_eq_true hs)]; exact hf
theorem ob_move {F : Value → World → Prop} {ops : Array Oper} {a : Act} {w : World} {o : Oper} {x : Operand} {d : Nat}
    (hw : Region.wanted o (yielded ops a.tmps) = true) (ho : o.op = .move x) (hd : o.dst = some d) (hs : decide (d < a.tmps.size) = true) (hf : F (a.eval x) w) :
    wpList P ops (endQ S F o a w) [o] a w := ob_val S hw (by simp [execOp, ho]) (S.refl w) hd hs hf
theorem ob_assign {F : Value → World → Prop} {ops : Array Oper} {a : Act} {w : World} {o : Oper} {x : Operand} {d : Nat}
    (hw : Region.wanted o (yielded ops a.tmps) = true) (ho : o.op = .assign x) (hd : o.dst = some d) (hs : decide (d < a.tmps.size) = true) (hf : F (a.eval x) w) :
    wpList P ops (endQ S F o a w) [o] a w := ob_val S hw (by simp [execOp, ho]) (S.refl w) hd hs hf

end
end Go.Proofs.YtdfnfmanpdafpaaDoor.Rs
