import Derived.Test.YtaklnpjpndkccaaGreatPk3
import Derived.Test.YtaklnpjpndkccaaGreatYk17
import Derived.Test.YtaklnpjpndkccaaGreatPk13
namespace Go.Proofs.YtaklnpjpndkccaaGreat.Rr
open Go.RowKit
section
variable {P : Program}
def endQ (R : World → World → Prop) (F : Value → World → Prop) (o : Oper) (a : Act) (w : World) : Exit → Act → World → Prop :=
 fun e a' w' => e = .normal ∧ R w w' ∧ a'.defers = a.defers ∧ F (match o.dst with | some d => a'.tmps.getD d undef | none => undef) w'
structure Plan where
 F : Nat → Value → World → Prop
 G : Nat → World → Prop
 J : World → Prop
 R : Nat → World → World → Prop
def Ob (P : Program) (ops : Array Oper) (T : Plan) (a0 : Act) (i : Nat) (o : Oper) (D : List (Nat × Tmp)) : Prop :=
 ∀ w, T.J w → T.G i w → depsThen T.F w D a0 (fun a => wpList P ops (endQ (T.R i) (T.F i) o a w) [o] a w)
def Obs (P : Program) (ops : Array Oper) (T : Plan) (a0 : Act) : Nat → List Oper → List (List (Nat × Tmp)) → Prop
 | _, [], _ => True
 | i, o :: os, D => Ob P ops T a0 i o (D.headD []) ∧ Obs P ops T a0 (i + 1) os D.tail
theorem Obs_get {ops : Array Oper} {T : Plan} {a0 : Act} : ∀ {l : List Oper} {k : Nat} {D : List (List (Nat × Tmp))}, Obs P ops T a0 k l D →
 ∀ i o, l[i]? = some o → Ob P ops T a0 (k + i) o (D.getD i [])
 | [], _, _, _, _, _, h => by simp at h
 | o :: os, k, D, hb, i, o', h => by
   simp only [Obs] at hb
   cases i with
   | zero => simp at h; subst h; cases D <;> simpa using hb.1
   | succ i =>
     have := Obs_get hb.2 i o' (by simpa using h)
     cases D <;> simpa [Nat.add_assoc, Nat.add_comm 1 i] using this
structure Inv (ops : Array Oper) (T : Plan) (a0 : Act) (listed : Array Bool) (a : Act) (w : World) : Prop where
 size : listed.size = ops.size
 ts : a.tmps.size = a0.tmps.size
 df : a.defers = a0.defers
 old : ∀ s, (∀ j, dstOf ops j = some s → listed.getD j false = false) → a.tmps.getD s undef = a0.tmps.getD s undef
 fact : ∀ j, j < ops.size → listed.getD j false = true → T.F j (match dstOf ops j with | some d => a.tmps.getD d undef | none => undef) w
 down : ∀ j, listed.getD j false = true → ∀ i, waits ops j i = true → listed.getD i false = true
 pre : ∀ j, j < ops.size → listed.getD j false = false → T.G j w
 ext : T.J w
theorem region_any {ops : Array Oper} {T : Plan} {a0 : Act} {D : List (List (Nat × Tmp))} {E : List (Nat × Tmp)} {Q : Exit → Act → World → Prop}
 (hok : opsOk ops a0.tmps.size 0 ops.toList D = true) (hE : endOk ops E = true)
 (hst : ∀ i j, i < ops.size → j < ops.size → i ≠ j → ∀ v w w', T.R j w w' → T.F i v w → T.F i v w')
 (hsg : ∀ i j, i < ops.size → j < ops.size → i ≠ j → ∀ w w', T.R j w w' → T.G i w → T.G i w')
 (hsj : ∀ j w w', T.R j w w' → T.J w → T.J w')
 (hob : Obs P ops T a0 0 ops.toList D)
 (hend : ∀ w, T.J w → depsThen T.F w E a0 (fun a => Q .normal a w)) :
 ∀ (fuel : Nat) (listed : Array Bool) (a : Act) (w : World), listed.count false = fuel → Inv ops T a0 listed a w → wpAny P .any ops Q fuel listed a w := by
 have hall : ∀ {i o}, ops[i]? = some o → opOk ops a0.tmps.size i o (D.getD i []) = true := fun {i o} h => by
  have := opsOk_get hok i o (by simpa using h); simpa using this
 have hobs : ∀ {i o}, ops[i]? = some o → Ob P ops T a0 i o (D.getD i []) := fun {i o} h => by
  have := Obs_get hob i o (by simpa using h); simpa using this
 have fin : ∀ (listed : Array Bool) (a : Act) (w : World), (∀ j, j < ops.size → listed.getD j false = true) → Inv ops T a0 listed a w → Q .normal a w := by
  intro listed a w hl hI
  simp only [endOk, Bool.and_eq_true] at hE
  have hdl : ∀ {j d}, dstOf ops j = some d → j < ops.size := fun {j d} hj => by
   unfold dstOf at hj
   rcases Nat.lt_or_ge j ops.size with h' | h'
   · exact h'
   · rw [Array.getElem?_eq_none h'] at hj; cases hj
  obtain ⟨c, hk, hc1, hc2, hc3⟩ := depsThen_at a _ E a0 hI.ts.symm (fun p hp => by
   have hd : dstOf ops p.1 = some p.2 := by simpa using List.all_eq_true.1 hE.1 p hp
   have := hI.fact p.1 (hdl hd) (hl p.1 (hdl hd))
   simp only [hd] at this
   exact this) (hend w hI.ext)
  have : c = a := by
   obtain ⟨ct, cd⟩ := c
   obtain ⟨at', ad⟩ := a
   have e2 : cd = ad := hc2.trans hI.df.symm
   have e1 : ct = at' := by
    apply Array.ext_getElem?
    intro s
    refine tmps_ext (a := ⟨ct, cd⟩) (b := ⟨at', ad⟩) hc1 ?_
    rw [hc3]
    split
    · rfl
    · rename_i hn
      refine (hI.old s fun j hj => ?_).symm
      exfalso
      have h2 := List.all_eq_true.1 hE.2 j (List.mem_range.2 (hdl hj))
      simp only [hj, List.any_eq_true, beq_iff_eq] at h2
      obtain ⟨p, hp, hpj⟩ := h2
      have hd : dstOf ops p.1 = some p.2 := by simpa using List.all_eq_true.1 hE.1 p hp
      rw [hpj, hj] at hd
      exact hn ⟨p, hp, (Option.some.inj hd).symm⟩
   rw [e1, e2]
  rw [← this]; exact hk
 have noReady : ∀ (listed : Array Bool), listed.size = ops.size → Region.ready .any ops listed = [] → ∀ j, j < ops.size → listed.getD j false = true := by
  intro listed hs hr j
  induction j using Nat.strongRecOn with
  | _ j ih =>
    intro hj
    cases hlj : listed.getD j false with
    | true => rfl
    | false =>
      exfalso
      have ho : ops[j]? = some ops[j] := by simp [hj]
      have hmem : j ∈ Region.ready .any ops listed := by
       refine mem_ready.2 ⟨?_, ops[j], ho, fun e he hb => ?_⟩
       · have : j < listed.size := hs ▸ hj
         simp [this] at hlj ⊢; exact hlj
       · have h1 := hall ho
         simp only [opOk, Bool.and_eq_true] at h1
         have h2 := (Array.all_eq_true_iff_forall_mem.1 h1.1.2) e he
         simp [hb] at h2
         exact ih e.on h2 (by omega)
      rw [hr] at hmem
      cases hmem
 intro fuel
 induction fuel with
 | zero =>
   intro listed a w hc hI
   have hl : ∀ j, j < ops.size → listed.getD j false = true := by
    intro j hj
    have hj' : j < listed.size := hI.size ▸ hj
    have := Array.count_eq_zero.1 hc
    have h2 : listed[j] ≠ false := fun e => this (e ▸ Array.getElem_mem hj')
    simp [hj']; simpa using h2
   refine ⟨?_, fin listed a w hl hI⟩
   cases hr : Region.ready .any ops listed with
   | nil => rfl
   | cons i rs =>
     have hm : i ∈ Region.ready .any ops listed := by rw [hr]; exact List.mem_cons_self
     obtain ⟨h0, o, ho, _⟩ := mem_ready.1 hm
     have hi : i < ops.size := (Array.getElem?_eq_some_iff.1 ho).1
     have h1 := hl i hi
     have hi' : i < listed.size := hI.size ▸ hi
     simp [hi'] at h0 h1
     rw [h0] at h1; cases h1
 | succ fuel ih =>
   intro listed a w hc hI
   refine ⟨fun hr => fin listed a w (noReady listed hI.size hr) hI, fun i hi => ?_⟩
   obtain ⟨h0, o, ho, hafter⟩ := mem_ready.1 hi
   have hil : i < ops.size := (Array.getElem?_eq_some_iff.1 ho).1
   have hil' : i < listed.size := hI.size ▸ hil
   have h0' : listed.getD i false = false := by simp [hil'] at h0 ⊢; exact h0
   have hopk := hall ho
   simp only [opOk, Bool.and_eq_true] at hopk
   obtain ⟨⟨⟨⟨hk1, hk2⟩, hk3⟩, hk4⟩, hk5⟩ := hopk
   have hdep2 : ∀ p ∈ D.getD i [], waits ops i p.1 = true ∧ dstOf ops p.1 = some p.2 := fun p hp => by
    have := List.all_eq_true.1 hk3 p hp
    simpa using this
   have hdeps : ∀ p ∈ D.getD i [], listed.getD p.1 false = true := fun p hp => waits_of_ready hi p.1 (hdep2 p hp).1
   have hsel : ∀ cs b, o.op ≠ .select cs b := by intro cs b e; rw [e] at hk2; cases hk2
   have hjlt : ∀ j, listed.getD j false = true → j < ops.size := fun j hj => by
    rcases Nat.lt_or_ge j listed.size with h' | h'
    · exact hI.size ▸ h'
    · simp [Array.getElem?_eq_none h'] at hj
   obtain ⟨c, hk, hc1, hc2, hc3⟩ := depsThen_at a _ (D.getD i []) a0 hI.ts.symm (fun p hp => by
    have := hI.fact p.1 (hjlt p.1 (hdeps p hp)) (hdeps p hp)
    simp only [(hdep2 p hp).2] at this
    exact this) (hobs ho w hI.ext (hI.pre i hil h0'))
   have same : ∀ s ∈ o.looksAt ops, c.tmps[s]? = a.tmps[s]? := by
    intro s hs
    refine tmps_ext hc1 ?_
    rw [hc3]
    split
    · rfl
    · rename_i hn
      refine (hI.old s fun j hj => ?_).symm
      have hjl : j < ops.size := by
       unfold dstOf at hj
       rcases Nat.lt_or_ge j ops.size with h' | h'
       · exact h'
       · rw [Array.getElem?_eq_none h'] at hj; cases hj
      have h1 := List.all_eq_true.1 (List.all_eq_true.1 hk5 s hs) j (List.mem_range.2 hjl)
      simp only [Bool.or_eq_true, bne_iff_ne, ne_eq, beq_iff_eq] at h1
      rcases h1 with ((h1 | h1) | h1) | h1
      · exact absurd hj h1
      · exfalso
        rw [List.any_eq_true] at h1
        obtain ⟨p, hp, hpj⟩ := h1
        have hd := (hdep2 p hp).2
        rw [eq_of_beq hpj, hj] at hd
        exact hn ⟨p, hp, (Option.some.inj hd).symm⟩
      · rw [h1]; exact h0'
      · cases hlj : listed.getD j false with
        | false => rfl
        | true => have := hI.down j hlj i h1; rw [h0'] at this; cases this
   have heval : execOp c.eval o = execOp a.eval o := execOp_congr o hsel fun x hx => by
    cases x with
    | tmp t =>
      have := same t (List.mem_append_left _ (List.mem_filterMap.2 ⟨.tmp t, by simpa using hx, rfl⟩))
      simp [Act.eval, this]
    | _ => rfl
   have hwant : Region.wanted o (yielded ops c.tmps) = Region.wanted o (yielded ops a.tmps) := by
    unfold Region.wanted
    cases hg : o.guard with
    | none => rfl
    | some gw =>
      obtain ⟨g, want⟩ := gw
      have hy : yielded ops c.tmps g = yielded ops a.tmps g := by
       unfold yielded
       cases ht : (ops[g]?).bind (·.dst) with
       | none => rfl
       | some t =>
         have := same t (by simp [Oper.looksAt, hg, ht])
         simp [this]
      simp only [hy]
   have next : ∀ v w', T.R i w w' → T.F i (match o.dst with | some d => (c.put o.dst v).tmps.getD d undef | none => undef) w' →
    wpAny P .any ops Q fuel (listed.setIfInBounds i true) (a.put o.dst v) w' := by
    intro v w' hx hF
    have hdst : dstOf ops i = o.dst := by simp [dstOf, ho]
    refine ih _ _ _ ?_ ⟨by simpa using hI.size, by rw [put_size]; exact hI.ts, by rw [put_defers]; exact hI.df, ?_, ?_, ?_, ?_, hsj i _ _ hx hI.ext⟩
    · have hset : listed.setIfInBounds i true = listed.set i true hil' := by simp [Array.setIfInBounds, hil']
      rw [hset, Array.count_set]
      have : listed[i] = false := by simpa [hil'] using h0'
      simp [this]; omega
    · intro s hs
      have hne : o.dst ≠ some s := fun e => by
       have := hs i (hdst.trans e)
       simp [hil'] at this
      rw [put_getD_ne _ hne]
      refine hI.old s fun j hj => ?_
      by_cases hji : i = j
      · rw [← hji]; exact h0'
      · have := hs j hj
        rwa [getD_set_ne false hji] at this
    · intro j hj hlj
      by_cases hji : i = j
      · subst hji
        rw [hdst]
        cases hd : o.dst with
        | none => simp only [hd] at hF; exact hF
        | some d =>
          simp only [hd] at hF hk1
          simp only [Bool.and_eq_true, decide_eq_true_eq] at hk1
          rw [put_getD_eq _ (by rw [hc1, hI.ts]; exact hk1.1)] at hF
          show T.F i ((a.put (some d) v).tmps.getD d undef) w'
          rw [put_getD_eq _ (by rw [hI.ts]; exact hk1.1)]
          exact hF
      · rw [getD_set_ne false hji] at hlj
        have hfj := hst j i hj hil (fun e => hji e.symm) _ _ _ hx (hI.fact j hj hlj)
        cases hdj : dstOf ops j with
        | none => simp only [hdj] at hfj; exact hfj
        | some d =>
          simp only [hdj] at hfj
          have hne : o.dst ≠ some d := fun e => by
           rw [e] at hk1
           simp only [Bool.and_eq_true] at hk1
           have := List.all_eq_true.1 hk1.2 j (List.mem_range.2 hj)
           simp [hdj, Ne.symm hji] at this
          show T.F j ((a.put o.dst v).tmps.getD d undef) w'
          rw [put_getD_ne _ hne]
          exact hfj
    · intro j hlj k hw
      by_cases hji : i = j
      · subst hji; exact getD_set_true (waits_of_ready hi k hw)
      · rw [getD_set_ne false hji] at hlj
        exact getD_set_true (hI.down j hlj k hw)
    · intro j hj hlj
      by_cases hji : i = j
      · subst hji; simp [hil'] at hlj
      · rw [getD_set_ne false hji] at hlj
        exact hsg j i hj hil (fun e => hji e.symm) _ _ hx (hI.pre j hj hlj)
   unfold wpOp
   rw [ho]
   simp only []
   rw [← hwant]
   simp only [wpList] at hk
   split
   · rename_i hw
     rw [if_pos hw] at hk
     rcases hk with hk | ⟨_, x, y, hxy⟩
     · refine .inl ?_
       unfold Oper.wp at hk ⊢
       rw [heval] at hk
       generalize (execOp a.eval o).run P w = r at *
       cases r with
       | ok n w' =>
         cases n <;> simp only [Oper.upon] at hk ⊢
         case value u => exact next u w' hk.2.1 hk.2.2.2
         case skip => exact next undef w' hk.2.1 hk.2.2.2
         case defer d =>
          have := hk.2.2.1
          rw [put_defers] at this
          exact absurd this (by simp)
         case enter f args =>
          refine Calls.mono hk fun e w'' he => ?_
          cases e with
          | returned u => exact next u w'' he.2.1 he.2.2.2
          | panicked c => exact absurd he.1 (by simp)
          | outgrown => obtain ⟨_, _, h⟩ := he; exact absurd h.1 (by simp)
         case row row args => exact Rows.mono hk fun u w'' he => next u w'' he.2.1 he.2.2.2
       | halt x w' =>
         cases x <;> simp only [Oper.upon] at hk ⊢
         case panic u => exact absurd hk.1 (by simp)
     · exact absurd hxy.1 (by simp)
   · rename_i hw
     rw [if_neg hw] at hk
     exact next undef w hk.2.1 hk.2.2.2
structure FactB where
 p : Value → World → Prop
 bad : Option Nat → Prop
 st : ∀ row, ¬ bad row → ∀ v w w', w.grownBy w' row → p v w → p v w'
def FactB.any : FactB := ⟨fun _ _ => True, fun _ => False, fun _ _ _ _ _ _ h => h⟩
def FactB.eq (u : Value) : FactB := ⟨fun v _ => v = u, fun _ => False, fun _ _ _ _ _ _ h => h⟩
def FactB.at (f : FactB) (v : Value) : FactB := ⟨fun _ w => f.p v w, f.bad, fun row hb _ w w' hg h => f.st row hb v w w' hg h⟩
def FactB.later (H size n : Nat) (xs : List Value) : FactB :=
 ⟨fun v w => Row w size v n xs ∧ ∃ a m c, v = .slice (some a) m c ∧ H ≤ a.block ∧ a.block < w.heap.size, fun row => ∃ k, row = some k ∧ H ≤ k, fun row hb v w w' hg h => by
  obtain ⟨⟨h1, ad, cap, hv, h2, h3, h4, h5, h6⟩, a, m, c, e, hH, hlt⟩ := h
  subst hv
  simp only [Value.slice.injEq] at e
  obtain ⟨rfl, rfl, rfl⟩ := e
  have hblk : w'.heap[a.block]? = w.heap[a.block]? := hg.block _ hlt (fun e => hb ⟨_, e.symm, hH⟩)
  refine ⟨⟨h1, some a, _, rfl, h2, h3, h4, h5, fun j u hj => ?_⟩, a, _, _, rfl, hH, Nat.lt_of_lt_of_le hlt hg.size⟩
  obtain ⟨p, hp, hc⟩ := h6 j u hj
  cases hp
  exact ⟨a, rfl, by rw [← hc]; exact World.cell?_of_block hblk⟩⟩
def FactB.own (base : Nat) (e : TypeId) (size n : Nat) (xs : List Value) (other : Option Nat) : FactB :=
 ⟨fun v w => w.ownsRow base e size v n xs ∧ ∀ k, v.ownBlock = some k → other ≠ some k, fun row => row ≠ none ∧ row ≠ other, fun row hb v w w' hg h => by
  refine ⟨own_keep h.1 hg fun k hk e => ?_, h.2⟩
  have e2 : row = other := by
   by_cases h' : row = other
   · exact h'
   · exact absurd ⟨(by rw [e]; simp), h'⟩ hb
  exact h.2 k hk (e2 ▸ e)⟩
structure Buts (rows : List (Option Nat)) (w w' : World) : Prop where
 os : w'.os = w.os
 tape : w'.tape = w.tape
 output : w'.output = w.output
 size : w.heap.size ≤ w'.heap.size
 block : ∀ k, k < w.heap.size → some k ∉ rows → w'.heap[k]? = w.heap[k]?
theorem Buts.ext {rows : List (Option Nat)} {w0 w w' : World} (h : Buts rows w w') (hx : Ext w0 w) (hr : ∀ k, some k ∈ rows → w0.heap.size ≤ k) : Ext w0 w' :=
 ⟨h.os.trans hx.os, h.tape.trans hx.tape, h.output.trans hx.output, Nat.le_trans hx.size h.size, fun k hk => (h.block k (Nat.lt_of_lt_of_le hk hx.size) (fun hm => absurd (hr k hm) (by omega))).trans (hx.block k hk)⟩
theorem Buts.cell {rows : List (Option Nat)} {w w' : World} (h : Buts rows w w') {p : Addr} {u : Value} (hc : w.cell? p = some u) (hn : some p.block ∉ rows) : w'.cell? p = some u := by
 rw [← hc]; exact World.cell?_of_block (h.block _ (World.block_lt_of_cell? w p hc) hn)
theorem lift {R : World → World → Prop} {F : Value → World → Prop} {ops : Array Oper} {o : Oper} {a : Act} {w : World} (hR : ∀ w w', Ext w w' → R w w')
 (h : wpList P ops (Go.Proofs.YtaklnpjpndkccaaGreat.endQ F o a w) [o] a w) : wpList P ops (endQ R F o a w) [o] a w := by
 simp only [wpList] at h ⊢
 split
 · rename_i hw
   rw [if_pos hw] at h
   rcases h with h | ⟨_, x, y, hxy⟩
   · refine .inl ?_
     unfold Oper.wp at h ⊢
     generalize (execOp a.eval o).run P w = r at *
     cases r with
     | ok n w' =>
       cases n <;> simp only [Oper.upon] at h ⊢
       case value u => exact ⟨h.1, hR _ _ h.2.1, h.2.2⟩
       case skip => exact ⟨h.1, hR _ _ h.2.1, h.2.2⟩
       case defer d => exact ⟨h.1, hR _ _ h.2.1, h.2.2⟩
       case enter f args =>
        refine Calls.mono h fun e w'' he => ?_
        cases e with
        | returned u => exact ⟨he.1, hR _ _ he.2.1, he.2.2⟩
        | panicked c => exact absurd he.1 (by simp)
        | outgrown => obtain ⟨_, _, h⟩ := he; exact absurd h.1 (by simp)
       case row row args => exact Rows.mono h fun u w'' he => ⟨he.1, hR _ _ he.2.1, he.2.2⟩
     | halt x w' =>
       cases x <;> simp only [Oper.upon] at h ⊢
       case panic u => exact absurd h.1 (by simp)
   · exact absurd hxy.1 (by simp)
 · rename_i hw
   rw [if_neg hw] at h
   exact ⟨h.1, hR _ _ h.2.1, h.2.2⟩
end
end Go.Proofs.YtaklnpjpndkccaaGreat.Rr
namespace Go.Proofs.YtaklnpjpndkccaaGreat.Rk
open Go.RowKit Go.Proofs.YtaklnpjpndkccaaGreat.Rr
section
variable {P : Program}
structure FactK (RK : Nat → World → World → Prop) where
 p : Value → World → Prop
 bad : Nat → Bool
 st : ∀ k, bad k = false → ∀ v w w', RK k w w' → p v w → p v w'
variable {RK : Nat → World → World → Prop}
def FactK.any : FactK RK := ⟨fun _ _ => True, fun _ => false, fun _ _ _ _ _ _ h => h⟩
def FactK.eq (u : Value) : FactK RK := ⟨fun v _ => v = u, fun _ => false, fun _ _ _ _ _ _ h => h⟩
def planK (J : World → Prop) (ks : List Nat) (Fs Gs : List (FactK RK)) : Plan where
 F := fun i => (Fs.getD i FactK.any).p
 G := fun i w => (Gs.getD i FactK.any).p undef w
 J := J
 R := fun j w w' => RK (ks.getD j 0) w w'
def calmK (ks : List Nat) (fs : List (FactK RK)) : Bool := (List.range fs.length).all fun i => (List.range (max ks.length fs.length)).all fun j => i == j || !(fs.getD i FactK.any).bad (ks.getD j 0)
theorem calmK_get {ks : List Nat} {fs : List (FactK RK)} (h : calmK ks fs = true) {i j : Nat} (hj : j < max ks.length fs.length) (hij : i ≠ j) : (fs.getD i FactK.any).bad (ks.getD j 0) = false := by
 by_cases hi : i < fs.length
 · have h1 := List.all_eq_true.1 (List.all_eq_true.1 h i (List.mem_range.2 hi)) j (List.mem_range.2 hj)
   simp only [Bool.or_eq_true, beq_iff_eq, Bool.not_eq_true'] at h1
   exact h1.resolve_left hij
 · rw [List.getD_eq_getElem?_getD, List.getElem?_eq_none (by omega)]
   rfl
theorem wp_region_turns {id : Nat} {l : List Oper} (J : World → Prop) (ks : List Nat) (Fs Gs : List (FactK RK)) (D : List (List (Nat × Tmp))) (E : List (Nat × Tmp)) {a0 : Act} {w0 : World} {Q : Exit → Act → World → Prop}
 (hm : P.follows .mixedOrders = true)
 (hok : (opsOk l.toArray a0.tmps.size 0 l D && endOk l.toArray E) = true)
 (hln : decide (l.length ≤ Fs.length) && decide (l.length ≤ Gs.length) = true)
 (hcf : calmK ks Fs = true) (hcg : calmK ks Gs = true) (hj0 : J w0.drew) (hjs : ∀ k w w', RK k w w' → J w → J w') (hg : ∀ f ∈ Gs, f.p undef w0.drew)
 (hob : Rr.Obs P l.toArray (planK J ks Fs Gs) a0 0 l D)
 (hend : ∀ w, J w → depsThen (planK J ks Fs Gs).F w E a0 (fun a => Q .normal a w)) :
 (Code.region id l.toArray true).wp P Q a0 w0 := by
 simp only [Bool.and_eq_true, decide_eq_true_eq] at hok hln
 refine wp_region_any hm (Rr.region_any (T := planK J ks Fs Gs) (D := D) (E := E) (by simpa using hok.1) hok.2 (fun i j hi hj hij v w w' hx h => ?_) (fun i j hi hj hij w w' hx h => ?_) (fun j w w' hx h => hjs _ w w' hx h) (by simpa using hob) hend _ _ _ _ ?_ ?_)
 · have hj : j < l.length := by simpa using hj
   exact (Fs.getD i FactK.any).st _ (calmK_get hcf (by omega) hij) v w w' hx h
 · have hj : j < l.length := by simpa using hj
   exact (Gs.getD i FactK.any).st _ (calmK_get hcg (by omega) hij) undef w w' hx h
 · simp
 · have hno : ∀ j, (Array.replicate l.toArray.size false).getD j false = false := fun j => by
    simp only [Array.getD_eq_getD_getElem?, Array.getElem?_replicate]; split <;> rfl
   refine ⟨by simp, rfl, rfl, fun _ _ => rfl, fun j _ h => (by rw [hno] at h; cases h), fun j h => (by rw [hno] at h; cases h), fun j _ _ => ?_, hj0⟩
   show (Gs.getD j FactK.any).p undef w0.drew
   rw [List.getD_eq_getElem?_getD]
   cases hj : Gs[j]? with
   | none => trivial
   | some f => exact hg f (List.mem_of_getElem? hj)
end
end Go.Proofs.YtaklnpjpndkccaaGreat.Rk
namespace Go.Proofs.YtaklnpjpndkccaaGreat.Rr
open Go.RowKit
section
variable {P : Program}
theorem region_any2 {ops : Array Oper} {T : Plan} {a0 : Act} {D : List (List (Nat × Tmp))} {E : List (Nat × Tmp)} {Q : Exit → Act → World → Prop}
 (hok : opsOk ops a0.tmps.size 0 ops.toList D = true) (hE : endOk ops E = true)
 (hst : ∀ i j, i < ops.size → j < ops.size → i ≠ j → ∀ v w w', T.R j w w' → T.F i v w → T.F i v w')
 (hsg : ∀ i j, i < ops.size → j < ops.size → i ≠ j → ∀ w w', T.R j w w' → T.G i w → T.G i w')
 (hsj : ∀ j w w', T.R j w w' → T.J w → T.J w')
 (hob : Obs P ops T a0 0 ops.toList D)
 (hend : ∀ w, T.J w → (∀ j, j < ops.size → dstOf ops j = none → T.F j undef w) → depsThen T.F w E a0 (fun a => Q .normal a w)) :
 ∀ (fuel : Nat) (listed : Array Bool) (a : Act) (w : World), listed.count false = fuel → Inv ops T a0 listed a w → wpAny P .any ops Q fuel listed a w := by
 have hall : ∀ {i o}, ops[i]? = some o → opOk ops a0.tmps.size i o (D.getD i []) = true := fun {i o} h => by
  have := opsOk_get hok i o (by simpa using h); simpa using this
 have hobs : ∀ {i o}, ops[i]? = some o → Ob P ops T a0 i o (D.getD i []) := fun {i o} h => by
  have := Obs_get hob i o (by simpa using h); simpa using this
 have fin : ∀ (listed : Array Bool) (a : Act) (w : World), (∀ j, j < ops.size → listed.getD j false = true) → Inv ops T a0 listed a w → Q .normal a w := by
  intro listed a w hl hI
  simp only [endOk, Bool.and_eq_true] at hE
  have hdl : ∀ {j d}, dstOf ops j = some d → j < ops.size := fun {j d} hj => by
   unfold dstOf at hj
   rcases Nat.lt_or_ge j ops.size with h' | h'
   · exact h'
   · rw [Array.getElem?_eq_none h'] at hj; cases hj
  obtain ⟨c, hk, hc1, hc2, hc3⟩ := depsThen_at a _ E a0 hI.ts.symm (fun p hp => by
   have hd : dstOf ops p.1 = some p.2 := by simpa using List.all_eq_true.1 hE.1 p hp
   have := hI.fact p.1 (hdl hd) (hl p.1 (hdl hd))
   simp only [hd] at this
   exact this) (hend w hI.ext fun j hj hd => by have := hI.fact j hj (hl j hj); simp only [hd] at this; exact this)
  have : c = a := by
   obtain ⟨ct, cd⟩ := c
   obtain ⟨at', ad⟩ := a
   have e2 : cd = ad := hc2.trans hI.df.symm
   have e1 : ct = at' := by
    apply Array.ext_getElem?
    intro s
    refine tmps_ext (a := ⟨ct, cd⟩) (b := ⟨at', ad⟩) hc1 ?_
    rw [hc3]
    split
    · rfl
    · rename_i hn
      refine (hI.old s fun j hj => ?_).symm
      exfalso
      have h2 := List.all_eq_true.1 hE.2 j (List.mem_range.2 (hdl hj))
      simp only [hj, List.any_eq_true, beq_iff_eq] at h2
      obtain ⟨p, hp, hpj⟩ := h2
      have hd : dstOf ops p.1 = some p.2 := by simpa using List.all_eq_true.1 hE.1 p hp
      rw [hpj, hj] at hd
      exact hn ⟨p, hp, (Option.some.inj hd).symm⟩
   rw [e1, e2]
  rw [← this]; exact hk
 have noReady : ∀ (listed : Array Bool), listed.size = ops.size → Region.ready .any ops listed = [] → ∀ j, j < ops.size → listed.getD j false = true := by
  intro listed hs hr j
  induction j using Nat.strongRecOn with
  | _ j ih =>
    intro hj
    cases hlj : listed.getD j false with
    | true => rfl
    | false =>
      exfalso
      have ho : ops[j]? = some ops[j] := by simp [hj]
      have hmem : j ∈ Region.ready .any ops listed := by
       refine mem_ready.2 ⟨?_, ops[j], ho, fun e he hb => ?_⟩
       · have : j < listed.size := hs ▸ hj
         simp [this] at hlj ⊢; exact hlj
       · have h1 := hall ho
         simp only [opOk, Bool.and_eq_true] at h1
         have h2 := (Array.all_eq_true_iff_forall_mem.1 h1.1.2) e he
         simp [hb] at h2
         exact ih e.on h2 (by omega)
      rw [hr] at hmem
      cases hmem
 intro fuel
 induction fuel with
 | zero =>
   intro listed a w hc hI
   have hl : ∀ j, j < ops.size → listed.getD j false = true := by
    intro j hj
    have hj' : j < listed.size := hI.size ▸ hj
    have := Array.count_eq_zero.1 hc
    have h2 : listed[j] ≠ false := fun e => this (e ▸ Array.getElem_mem hj')
    simp [hj']; simpa using h2
   refine ⟨?_, fin listed a w hl hI⟩
   cases hr : Region.ready .any ops listed with
   | nil => rfl
   | cons i rs =>
     have hm : i ∈ Region.ready .any ops listed := by rw [hr]; exact List.mem_cons_self
     obtain ⟨h0, o, ho, _⟩ := mem_ready.1 hm
     have hi : i < ops.size := (Array.getElem?_eq_some_iff.1 ho).1
     have h1 := hl i hi
     have hi' : i < listed.size := hI.size ▸ hi
     simp [hi'] at h0 h1
     rw [h0] at h1; cases h1
 | succ fuel ih =>
   intro listed a w hc hI
   refine ⟨fun hr => fin listed a w (noReady listed hI.size hr) hI, fun i hi => ?_⟩
   obtain ⟨h0, o, ho, hafter⟩ := mem_ready.1 hi
   have hil : i < ops.size := (Array.getElem?_eq_some_iff.1 ho).1
   have hil' : i < listed.size := hI.size ▸ hil
   have h0' : listed.getD i false = false := by simp [hil'] at h0 ⊢; exact h0
   have hopk := hall ho
   simp only [opOk, Bool.and_eq_true] at hopk
   obtain ⟨⟨⟨⟨hk1, hk2⟩, hk3⟩, hk4⟩, hk5⟩ := hopk
   have hdep2 : ∀ p ∈ D.getD i [], waits ops i p.1 = true ∧ dstOf ops p.1 = some p.2 := fun p hp => by
    have := List.all_eq_true.1 hk3 p hp
    simpa using this
   have hdeps : ∀ p ∈ D.getD i [], listed.getD p.1 false = true := fun p hp => waits_of_ready hi p.1 (hdep2 p hp).1
   have hsel : ∀ cs b, o.op ≠ .select cs b := by intro cs b e; rw [e] at hk2; cases hk2
   have hjlt : ∀ j, listed.getD j false = true → j < ops.size := fun j hj => by
    rcases Nat.lt_or_ge j listed.size with h' | h'
    · exact hI.size ▸ h'
    · simp [Array.getElem?_eq_none h'] at hj
   obtain ⟨c, hk, hc1, hc2, hc3⟩ := depsThen_at a _ (D.getD i []) a0 hI.ts.symm (fun p hp => by
    have := hI.fact p.1 (hjlt p.1 (hdeps p hp)) (hdeps p hp)
    simp only [(hdep2 p hp).2] at this
    exact this) (hobs ho w hI.ext (hI.pre i hil h0'))
   have same : ∀ s ∈ o.looksAt ops, c.tmps[s]? = a.tmps[s]? := by
    intro s hs
    refine tmps_ext hc1 ?_
    rw [hc3]
    split
    · rfl
    · rename_i hn
      refine (hI.old s fun j hj => ?_).symm
      have hjl : j < ops.size := by
       unfold dstOf at hj
       rcases Nat.lt_or_ge j ops.size with h' | h'
       · exact h'
       · rw [Array.getElem?_eq_none h'] at hj; cases hj
      have h1 := List.all_eq_true.1 (List.all_eq_true.1 hk5 s hs) j (List.mem_range.2 hjl)
      simp only [Bool.or_eq_true, bne_iff_ne, ne_eq, beq_iff_eq] at h1
      rcases h1 with ((h1 | h1) | h1) | h1
      · exact absurd hj h1
      · exfalso
        rw [List.any_eq_true] at h1
        obtain ⟨p, hp, hpj⟩ := h1
        have hd := (hdep2 p hp).2
        rw [eq_of_beq hpj, hj] at hd
        exact hn ⟨p, hp, (Option.some.inj hd).symm⟩
      · rw [h1]; exact h0'
      · cases hlj : listed.getD j false with
        | false => rfl
        | true => have := hI.down j hlj i h1; rw [h0'] at this; cases this
   have heval : execOp c.eval o = execOp a.eval o := execOp_congr o hsel fun x hx => by
    cases x with
    | tmp t =>
      have := same t (List.mem_append_left _ (List.mem_filterMap.2 ⟨.tmp t, by simpa using hx, rfl⟩))
      simp [Act.eval, this]
    | _ => rfl
   have hwant : Region.wanted o (yielded ops c.tmps) = Region.wanted o (yielded ops a.tmps) := by
    unfold Region.wanted
    cases hg : o.guard with
    | none => rfl
    | some gw =>
      obtain ⟨g, want⟩ := gw
      have hy : yielded ops c.tmps g = yielded ops a.tmps g := by
       unfold yielded
       cases ht : (ops[g]?).bind (·.dst) with
       | none => rfl
       | some t =>
         have := same t (by simp [Oper.looksAt, hg, ht])
         simp [this]
      simp only [hy]
   have next : ∀ v w', T.R i w w' → T.F i (match o.dst with | some d => (c.put o.dst v).tmps.getD d undef | none => undef) w' →
    wpAny P .any ops Q fuel (listed.setIfInBounds i true) (a.put o.dst v) w' := by
    intro v w' hx hF
    have hdst : dstOf ops i = o.dst := by simp [dstOf, ho]
    refine ih _ _ _ ?_ ⟨by simpa using hI.size, by rw [put_size]; exact hI.ts, by rw [put_defers]; exact hI.df, ?_, ?_, ?_, ?_, hsj i _ _ hx hI.ext⟩
    · have hset : listed.setIfInBounds i true = listed.set i true hil' := by simp [Array.setIfInBounds, hil']
      rw [hset, Array.count_set]
      have : listed[i] = false := by simpa [hil'] using h0'
      simp [this]; omega
    · intro s hs
      have hne : o.dst ≠ some s := fun e => by
       have := hs i (hdst.trans e)
       simp [hil'] at this
      rw [put_getD_ne _ hne]
      refine hI.old s fun j hj => ?_
      by_cases hji : i = j
      · rw [← hji]; exact h0'
      · have := hs j hj
        rwa [getD_set_ne false hji] at this
    · intro j hj hlj
      by_cases hji : i = j
      · subst hji
        rw [hdst]
        cases hd : o.dst with
        | none => simp only [hd] at hF; exact hF
        | some d =>
          simp only [hd] at hF hk1
          simp only [Bool.and_eq_true, decide_eq_true_eq] at hk1
          rw [put_getD_eq _ (by rw [hc1, hI.ts]; exact hk1.1)] at hF
          show T.F i ((a.put (some d) v).tmps.getD d undef) w'
          rw [put_getD_eq _ (by rw [hI.ts]; exact hk1.1)]
          exact hF
      · rw [getD_set_ne false hji] at hlj
        have hfj := hst j i hj hil (fun e => hji e.symm) _ _ _ hx (hI.fact j hj hlj)
        cases hdj : dstOf ops j with
        | none => simp only [hdj] at hfj; exact hfj
        | some d =>
          simp only [hdj] at hfj
          have hne : o.dst ≠ some d := fun e => by
           rw [e] at hk1
           simp only [Bool.and_eq_true] at hk1
           have := List.all_eq_true.1 hk1.2 j (List.mem_range.2 hj)
           simp [hdj, Ne.symm hji] at this
          show T.F j ((a.put o.dst v).tmps.getD d undef) w'
          rw [put_getD_ne _ hne]
          exact hfj
    · intro j hlj k hw
      by_cases hji : i = j
      · subst hji; exact getD_set_true (waits_of_ready hi k hw)
      · rw [getD_set_ne false hji] at hlj
        exact getD_set_true (hI.down j hlj k hw)
    · intro j hj hlj
      by_cases hji : i = j
      · subst hji; simp [hil'] at hlj
      · rw [getD_set_ne false hji] at hlj
        exact hsg j i hj hil (fun e => hji e.symm) _ _ hx (hI.pre j hj hlj)
   unfold wpOp
   rw [ho]
   simp only []
   rw [← hwant]
   simp only [wpList] at hk
   split
   · rename_i hw
     rw [if_pos hw] at hk
     rcases hk with hk | ⟨_, x, y, hxy⟩
     · refine .inl ?_
       unfold Oper.wp at hk ⊢
       rw [heval] at hk
       generalize (execOp a.eval o).run P w = r at *
       cases r with
       | ok n w' =>
         cases n <;> simp only [Oper.upon] at hk ⊢
         case value u => exact next u w' hk.2.1 hk.2.2.2
         case skip => exact next undef w' hk.2.1 hk.2.2.2
         case defer d =>
          have := hk.2.2.1
          rw [put_defers] at this
          exact absurd this (by simp)
         case enter f args =>
          refine Calls.mono hk fun e w'' he => ?_
          cases e with
          | returned u => exact next u w'' he.2.1 he.2.2.2
          | panicked c => exact absurd he.1 (by simp)
          | outgrown => obtain ⟨_, _, h⟩ := he; exact absurd h.1 (by simp)
         case row row args => exact Rows.mono hk fun u w'' he => next u w'' he.2.1 he.2.2.2
       | halt x w' =>
         cases x <;> simp only [Oper.upon] at hk ⊢
         case panic u => exact absurd hk.1 (by simp)
     · exact absurd hxy.1 (by simp)
   · rename_i hw
     rw [if_neg hw] at hk
     exact next undef w hk.2.1 hk.2.2.2
end
end Go.Proofs.YtaklnpjpndkccaaGreat.Rr
namespace Go.Proofs.YtaklnpjpndkccaaGreat.Rk
open Go.RowKit Go.Proofs.YtaklnpjpndkccaaGreat.Rr
section
variable {P : Program}
variable {RK : Nat → World → World → Prop}
theorem wp_region_turns2 {id : Nat} {l : List Oper} (J : World → Prop) (ks : List Nat) (Fs Gs : List (FactK RK)) (D : List (List (Nat × Tmp))) (E : List (Nat × Tmp)) {a0 : Act} {w0 : World} {Q : Exit → Act → World → Prop}
 (hm : P.follows .mixedOrders = true)
 (hok : (opsOk l.toArray a0.tmps.size 0 l D && endOk l.toArray E) = true)
 (hln : decide (l.length ≤ Fs.length) && decide (l.length ≤ Gs.length) = true)
 (hcf : calmK ks Fs = true) (hcg : calmK ks Gs = true) (hj0 : J w0.drew) (hjs : ∀ k w w', RK k w w' → J w → J w') (hg : ∀ f ∈ Gs, f.p undef w0.drew)
 (hob : Rr.Obs P l.toArray (planK J ks Fs Gs) a0 0 l D)
 (hend : ∀ w, J w → (∀ j, j < l.length → dstOf l.toArray j = none → (planK J ks Fs Gs).F j undef w) → depsThen (planK J ks Fs Gs).F w E a0 (fun a => Q .normal a w)) :
 (Code.region id l.toArray true).wp P Q a0 w0 := by
 simp only [Bool.and_eq_true, decide_eq_true_eq] at hok hln
 refine wp_region_any hm (Rr.region_any2 (T := planK J ks Fs Gs) (D := D) (E := E) (by simpa using hok.1) hok.2 (fun i j hi hj hij v w w' hx h => ?_) (fun i j hi hj hij w w' hx h => ?_) (fun j w w' hx h => hjs _ w w' hx h) (by simpa using hob) (fun w hJ hno => hend w hJ fun j hj hd => hno j (by simpa using hj) hd) _ _ _ _ ?_ ?_)
 · have hj : j < l.length := by simpa using hj
   exact (Fs.getD i FactK.any).st _ (calmK_get hcf (by omega) hij) v w w' hx h
 · have hj : j < l.length := by simpa using hj
   exact (Gs.getD i FactK.any).st _ (calmK_get hcg (by omega) hij) undef w w' hx h
 · simp
 · have hno : ∀ j, (Array.replicate l.toArray.size false).getD j false = false := fun j => by
    simp only [Array.getD_eq_getD_getElem?, Array.getElem?_replicate]; split <;> rfl
   refine ⟨by simp, rfl, rfl, fun _ _ => rfl, fun j _ h => (by rw [hno] at h; cases h), fun j h => (by rw [hno] at h; cases h), fun j _ _ => ?_, hj0⟩
   show (Gs.getD j FactK.any).p undef w0.drew
   rw [List.getD_eq_getElem?_getD]
   cases hj : Gs[j]? with
   | none => trivial
   | some f => exact hg f (List.mem_of_getElem? hj)
end
end Go.Proofs.YtaklnpjpndkccaaGreat.Rk
namespace Go.Proofs.YtaklnpjpndkccaaGreat
open Go.RowKit Go.Sort
section
variable (N : Nat) (X Y : Array Value)
def SmK : Nat → World → World → Prop
 | 0, w, w' => w' = w
 | 1, w, w' => w' = w.alloc (.cells #[.int .u64 0, .int .u64 0, .string ⟨#[]⟩, .slice none 0 0, .int .u64 0, .int .u64 0] 53)
 | 2, w, w' => w' = w.alloc (.cells #[.int .u64 0, .int .u64 0, .string ⟨#[]⟩, .slice none 0 0, .int .u64 0, .int .u64 0] 104)
 | 3, w, w' => ∃ b c, N ≤ b ∧ w.heap[b]? = some (.cells c 53 (0, 0)) ∧ w' = w.setRow b X
 | 4, w, w' => ∃ b c, N ≤ b ∧ w.heap[b]? = some (.cells c 104 (0, 0)) ∧ w' = w.setRow b Y
 | _, _, _ => False
end
variable {N : Nat} {X Y : Array Value}
theorem alloc_get {w : World} {c : Array Value} {t : TypeId} {k : Nat} {x : Obj} (h : (w.alloc (.cells c t)).heap[k]? = some x) : w.heap[k]? = some x ∨ (k = w.heap.size ∧ x = .cells c t (0, 0)) := by
 by_cases hk : k < w.heap.size
 · left
   rw [← ((Ext.refl w).alloc (.cells c t)).block k hk]; exact h
 · right
   have h1 := (Array.getElem?_eq_some_iff.1 h).1
   rw [World.size_alloc] at h1
   have hk2 : k = w.heap.size := by omega
   subst hk2
   exact ⟨rfl, by have := h.symm.trans (heap_alloc_new w (.cells c t)); exact Option.some.inj this⟩
theorem SmK.typ {j : Nat} {w w' : World} (h : SmK N X Y j w w') {k : Nat} {c : Array Value} {t : TypeId} {fr : Nat × Nat} (hk : w'.heap[k]? = some (.cells c t fr)) :
 (∃ c0, w.heap[k]? = some (.cells c0 t fr)) ∨ (j = 1 ∧ t = 53 ∧ k = w.heap.size) ∨ (j = 2 ∧ t = 104 ∧ k = w.heap.size) := by
 match j, h with
 | 0, h => have h : w' = w := h
           subst h; exact .inl ⟨c, hk⟩
 | 1, h =>
   have h : w' = _ := h
   subst h
   rcases alloc_get hk with h | ⟨h1, h2⟩
   · exact .inl ⟨c, h⟩
   · cases h2; exact .inr (.inl ⟨rfl, rfl, h1⟩)
 | 2, h =>
   have h : w' = _ := h
   subst h
   rcases alloc_get hk with h | ⟨h1, h2⟩
   · exact .inl ⟨c, h⟩
   · cases h2; exact .inr (.inr ⟨rfl, rfl, h1⟩)
 | 3, h =>
   obtain ⟨b, c0, hb, hbc, rfl⟩ := h
   by_cases hkb : k = b
   · subst hkb
     have := (setRow_heap w k c0 X _ _ hbc).symm.trans hk
     cases this
     exact .inl ⟨c0, hbc⟩
   · exact .inl ⟨c, (setRow_other w b k X hkb).symm.trans hk⟩
 | 4, h =>
   obtain ⟨b, c0, hb, hbc, rfl⟩ := h
   by_cases hkb : k = b
   · subst hkb
     have := (setRow_heap w k c0 Y _ _ hbc).symm.trans hk
     cases this
     exact .inl ⟨c0, hbc⟩
   · exact .inl ⟨c, (setRow_other w b k Y hkb).symm.trans hk⟩
 | _ + 5, h => exact h.elim
theorem SmK.was {j : Nat} {w w' : World} (h : SmK N X Y j w w') (hX : X.size = 6) (hY : Y.size = 6) {k : Nat} {c : Array Value} {t : TypeId} (hc : c.size = 6) (hk : w.heap[k]? = some (.cells c t (0, 0))) : ∃ c1 : Array Value, c1.size = 6 ∧ w'.heap[k]? = some (.cells c1 t (0, 0)) := by
 match j, h with
 | 0, h => have h : w' = w := h
           subst h; exact ⟨c, hc, hk⟩
 | 1, h =>
   have h : w' = _ := h
   subst h
   exact ⟨c, hc, block_later hk ((Ext.refl w).alloc _)⟩
 | 2, h =>
   have h : w' = _ := h
   subst h
   exact ⟨c, hc, block_later hk ((Ext.refl w).alloc _)⟩
 | 3, h =>
   obtain ⟨b, c0, hb, hbc, rfl⟩ := h
   by_cases hkb : k = b
   · subst hkb
     exact ⟨X, hX, by have := setRow_heap w k c X _ _ hk; exact this⟩
   · exact ⟨c, hc, (setRow_other w b k X hkb).trans hk⟩
 | 4, h =>
   obtain ⟨b, c0, hb, hbc, rfl⟩ := h
   by_cases hkb : k = b
   · subst hkb
     exact ⟨Y, hY, by have := setRow_heap w k c Y _ _ hk; exact this⟩
   · exact ⟨c, hc, (setRow_other w b k Y hkb).trans hk⟩
 | _ + 5, h => exact h.elim
theorem SmK.size {j : Nat} {w w' : World} (h : SmK N X Y j w w') : w.heap.size ≤ w'.heap.size := by
 match j, h with
 | 0, h => have h : w' = w := h
           subst h; exact Nat.le_refl _
 | 1, h => have h : w' = _ := h
           subst h; exact ((Ext.refl w).alloc _).size
 | 2, h => have h : w' = _ := h
           subst h; exact ((Ext.refl w).alloc _).size
 | 3, h => obtain ⟨b, c0, hb, hbc, rfl⟩ := h; simp
 | 4, h => obtain ⟨b, c0, hb, hbc, rfl⟩ := h; simp
 | _ + 5, h => exact h.elim
theorem SmK.ext {a : World} (k : Nat) (w w' : World) (h : SmK a.heap.size X Y k w w') (hx : Ext a w) : Ext a w' := by
 match k, h with
 | 0, h => have h : w' = w := h
           subst h; exact hx
 | 1, h => have h : w' = _ := h
           subst h; exact hx.alloc _
 | 2, h => have h : w' = _ := h
           subst h; exact hx.alloc _
 | 3, h => obtain ⟨b, c0, hb, hbc, rfl⟩ := h; exact hx.setRow hb _
 | 4, h => obtain ⟨b, c0, hb, hbc, rfl⟩ := h; exact hx.setRow hb _
 | _ + 5, h => exact h.elim
section
variable (N) (X Y)
def noP (t : TypeId) (w : World) : Prop := N ≤ w.heap.size ∧ ∀ k c fr, N ≤ k → w.heap[k]? ≠ some (.cells c t fr)
def oneP (t : TypeId) (v : Value) (w : World) : Prop := ∃ b, v = .pointer (some ⟨b, 0, none⟩) ∧ N ≤ b ∧ (∃ c : Array Value, c.size = 6 ∧ w.heap[b]? = some (.cells c t (0, 0))) ∧ ∀ k c fr, N ≤ k → w.heap[k]? = some (.cells c t fr) → k = b
def finP (t : TypeId) (X : Array Value) (w : World) : Prop := ∃ b, N ≤ b ∧ w.heap[b]? = some (.cells X t (0, 0))
end
theorem SmK.no {j : Nat} {w w' : World} (h : SmK N X Y j w w') {t : TypeId} (h1 : j = 1 → t ≠ 53) (h2 : j = 2 → t ≠ 104) (k : noP N t w) : noP N t w' :=
 ⟨Nat.le_trans k.1 h.size, fun q c fr hq e => by
  rcases h.typ e with ⟨c0, e0⟩ | ⟨e1, e2, _⟩ | ⟨e1, e2, _⟩
  · exact k.2 q c0 fr hq e0
  · exact h1 e1 e2
  · exact h2 e1 e2⟩
theorem SmK.one (hX : X.size = 6) (hY : Y.size = 6) {j : Nat} {w w' : World} (h : SmK N X Y j w w') {t : TypeId} (h1 : j = 1 → t ≠ 53) (h2 : j = 2 → t ≠ 104) {v : Value} (k : oneP N t v w) : oneP N t v w' := by
 obtain ⟨b, e, hb, ⟨c, hc, hbc⟩, hu⟩ := k
 refine ⟨b, e, hb, h.was hX hY hc hbc, fun q c1 fr hq e => ?_⟩
 rcases h.typ e with ⟨c0, e0⟩ | ⟨e1, e2, _⟩ | ⟨e1, e2, _⟩
 · exact hu q c0 fr hq e0
 · exact (h1 e1 e2).elim
 · exact (h2 e1 e2).elim
theorem SmK.fin1 {j : Nat} {w w' : World} (h : SmK N X Y j w w') (k : finP N 53 X w) : finP N 53 X w' := by
 obtain ⟨b, hb, hbc⟩ := k
 refine ⟨b, hb, ?_⟩
 match j, h with
 | 0, h => have h : w' = w := h
           subst h; exact hbc
 | 1, h => have h : w' = _ := h
           subst h; exact block_later hbc ((Ext.refl w).alloc _)
 | 2, h => have h : w' = _ := h
           subst h; exact block_later hbc ((Ext.refl w).alloc _)
 | 3, h =>
   obtain ⟨b2, c0, _, h2, rfl⟩ := h
   by_cases e : b = b2
   · subst e; exact setRow_heap w b X X _ _ hbc
   · exact (setRow_other w b2 b X e).trans hbc
 | 4, h =>
   obtain ⟨b2, c0, _, h2, rfl⟩ := h
   refine (setRow_other w b2 b Y fun e => ?_).trans hbc
   subst e
   have := h2.symm.trans hbc
   simp at this
 | _ + 5, h => exact h.elim
theorem SmK.fin2 {j : Nat} {w w' : World} (h : SmK N X Y j w w') (k : finP N 104 Y w) : finP N 104 Y w' := by
 obtain ⟨b, hb, hbc⟩ := k
 refine ⟨b, hb, ?_⟩
 match j, h with
 | 0, h => have h : w' = w := h
           subst h; exact hbc
 | 1, h => have h : w' = _ := h
           subst h; exact block_later hbc ((Ext.refl w).alloc _)
 | 2, h => have h : w' = _ := h
           subst h; exact block_later hbc ((Ext.refl w).alloc _)
 | 3, h =>
   obtain ⟨b2, c0, _, h2, rfl⟩ := h
   refine (setRow_other w b2 b X fun e => ?_).trans hbc
   subst e
   have := h2.symm.trans hbc
   simp at this
 | 4, h =>
   obtain ⟨b2, c0, _, h2, rfl⟩ := h
   by_cases e : b = b2
   · subst e; exact setRow_heap w b Y Y _ _ hbc
   · exact (setRow_other w b2 b Y e).trans hbc
 | _ + 5, h => exact h.elim
section
variable (N) (X Y)
def noT : Rk.FactK (SmK N X Y) := ⟨fun _ w => noP N 53 w, fun k => k == 1, fun j hj _ w w' hx h => hx.no (fun e => by subst e; simp at hj) (fun _ => by decide) h⟩
def noT2 : Rk.FactK (SmK N X Y) := ⟨fun _ w => noP N 104 w, fun k => k == 2, fun j hj _ w w' hx h => hx.no (fun _ => by decide) (fun e => by subst e; simp at hj) h⟩
def oneT (hX : X.size = 6) (hY : Y.size = 6) : Rk.FactK (SmK N X Y) := ⟨fun v w => oneP N 53 v w, fun k => k == 1, fun j hj _ w w' hx h => hx.one hX hY (fun e => by subst e; simp at hj) (fun _ => by decide) h⟩
def oneT2 (hX : X.size = 6) (hY : Y.size = 6) : Rk.FactK (SmK N X Y) := ⟨fun v w => oneP N 104 v w, fun k => k == 2, fun j hj _ w w' hx h => hx.one hX hY (fun _ => by decide) (fun e => by subst e; simp at hj) h⟩
def finT : Rk.FactK (SmK N X Y) := ⟨fun _ w => finP N 53 X w, fun _ => false, fun _ _ _ _ _ hx h => hx.fin1 h⟩
def finT2 : Rk.FactK (SmK N X Y) := ⟨fun _ w => finP N 104 Y w, fun _ => false, fun _ _ _ _ _ hx h => hx.fin2 h⟩
end
theorem noP_start (w : World) (t : TypeId) : noP w.heap.size t w.drew := ⟨Nat.le_refl _, fun k c fr hk e => by
 have : k < w.heap.size := (Array.getElem?_eq_some_iff.1 e).1
 omega⟩
theorem one_new {w : World} {t : TypeId} {c : Array Value} (hc : c.size = 6) (h : noP N t w) : oneP N t (.pointer (some ⟨w.heap.size, 0, none⟩)) (w.alloc (.cells c t)) :=
 ⟨_, rfl, h.1, ⟨c, hc, heap_alloc_new w (.cells c t)⟩, fun k c1 fr hk e => by
  rcases alloc_get e with e | ⟨e, _⟩
  · exact absurd e (h.2 k c1 fr hk)
  · exact e⟩
theorem one_fin {w : World} {t : TypeId} {v : Value} {Z : Array Value} (h : oneP N t v w) (k : finP N t Z w) : ∃ b, v = .pointer (some ⟨b, 0, none⟩) ∧ w.heap[b]? = some (.cells Z t (0, 0)) := by
 obtain ⟨b, e, hb, _, hu⟩ := h
 obtain ⟨b2, hb2, h2⟩ := k
 have := hu b2 Z (0, 0) hb2 h2
 subst this
 exact ⟨b2, e, h2⟩
end Go.Proofs.YtaklnpjpndkccaaGreat
namespace Go.Proofs.YtaklnpjpndkccaaGreat
open Go.RowKit Go.Sort
theorem sizeRd : (Tryz.prog.info? 104).map (·.size) = some 6 := by kernel_rfl
set_option maxRecDepth 100000 in
set_option maxHeartbeats 0 in
theorem dsame_any (w : World) (va vb : Value) (O1 O2 : List DM) (h1 : Row w 6 va O1.length (O1.flatMap dmC)) (h2 : Row w 6 vb O2.length (O2.flatMap dmC)) (ha1 : ∀ x ∈ O1, AttrR w x.h x.av) (ha2 : ∀ x ∈ O2, AttrR w x.h x.av) (hpd : O1.map DM.pd = O2.map DM.pd) :
 Calls Tryz.prog 28 #[va, vb] w fun e w' => e = .returned (.bool true) ∧ Ext w w' := by
 obtain ⟨a1, e1, rfl, _, hm1⟩ := Row.shape h1
 obtain ⟨a2, e2, rfl, _, _⟩ := Row.shape h2
 have hlen : O2.length = O1.length := by have := congrArg List.length hpd; simpa using this.symm
 obtain ⟨n, hn⟩ : ∃ n, n = O1.length := ⟨_, rfl⟩
 have HN : Hid (n = O1.length ∧ n = O2.length) := ⟨hn, hn.trans hlen.symm⟩
 have hn63 : n ≤ 9223372036854775807 := by unfold maxLen at hm1; omega
 have H1 : Hid (Row w 6 (.slice a1 O1.length e1) O1.length (O1.flatMap dmC)) := h1
 have H2 : Hid (Row w 6 (.slice a2 O2.length e2) O2.length (O2.flatMap dmC)) := h2
 have HA1 := Lib.hid ha1
 have HA2 := Lib.hid ha2
 have HPD : Hid (∀ i (h : i < O1.length) (k : i < O2.length), O1[i].pd = O2[i].pd) := fun i h k => by
  have e1 : (O1.map DM.pd)[i]? = some O1[i].pd := by rw [List.getElem?_map, List.getElem?_eq_getElem h]; rfl
  have e2 : (O2.map DM.pd)[i]? = some O2[i].pd := by rw [List.getElem?_map, List.getElem?_eq_getElem k]; rfl
  rw [hpd, e2] at e1
  exact (Option.some.inj e1).symm
 rw [hlen, ← hn]
 clear h1 h2 ha1 ha2 hpd hn hlen
 go_enter Tryz.func28, Tryz.ntmps28
 go_wp2_with fail
 go_loopw [15] (fun iv wr => ∃ i : Nat, iv = .int .i64 i ∧ i ≤ n ∧ Hid (Ext w wr)) (fun iv _ => n - (intOf iv).toNat)
 case atStart => exact ⟨0, rfl, Nat.zero_le _, Ext.refl _⟩
 case round =>
  obtain ⟨i, rfl, hi, hX⟩ := hrel
  by_cases h : i < n
  · have hI : decide ((i : Int) < (n : Int)) = true := decide_eq_true (by omega)
    have hi1 : i < O1.length := by have := HN.out; omega
    have hi2 : i < O2.length := by have := HN.out; omega
    obtain ⟨B, o, rfl, c0, c1, c2, c3, c4, c5⟩ := Row.atD (H1.out.ext hX.out) hi1
    obtain ⟨B2, o2, rfl, d0, d1, d2, d3, d4, d5⟩ := Row.atD (H2.out.ext hX.out) hi2
    have hp := HPD.out i hi1 hi2
    have t1 := AttrR.ext (HA1.out _ (List.getElem_mem hi1)) hX.out
    have t2 := AttrR.ext (HA2.out _ (List.getElem_mem hi2)) hX.out
    obtain ⟨x, hx⟩ : ∃ x, x = O1[i] := ⟨_, rfl⟩
    obtain ⟨y, hy⟩ : ∃ y, y = O2[i] := ⟨_, rfl⟩
    rw [← hx] at c0 c1 c2 c3 c4 c5 hp t1
    rw [← hy] at d0 d1 d2 d3 d4 d5 hp t2
    clear hx hy
    obtain ⟨dn, dt, key, ha, hc, av, f, g⟩ := x
    obtain ⟨en, et, ekey, hb, hd, eav, ef, eg⟩ := y
    replace hp : (⟨dn, dt, key, av, f, g⟩ : PD) = ⟨en, et, ekey, eav, ef, eg⟩ := hp
    cases hp
    have T := Lib.hid (And.intro t1 t2)
    have CN1 := Lib.hid fun W => number_nat W ⟨dn, dt, key, ha, hc, av, f, g⟩
    have CN2 := Lib.hid fun W => rnumber_any W ⟨dn, dt, key, hb, hd, av, f, g⟩
    have CB1 := Lib.hid fun W => begins_nat W ⟨dn, dt, key, ha, hc, av, f, g⟩
    have CB2 := Lib.hid fun W => rbegins_any W ⟨dn, dt, key, hb, hd, av, f, g⟩
    have CE : Hid (∀ W, Ext wr W → Calls Tryz.prog 44 #[.agg #[.string (strOf key), .slice ha av.length hc], .agg #[.string (strOf key), .slice hb av.length hd]] W fun e w' => e = .returned (.bool true) ∧ Ext W w') := fun W hW => evSame_any W _ _ _ av (AttrR.ext T.out.1 hW) (AttrR.ext T.out.2 hW)
    dsimp only at c0 c1 c2 c3 c4 c5 d0 d1 d2 d3 d4 d5 CN1 CN2 CB1 CB2
    have hpp : (DM.mk dn dt key hb hd av f g).pd = (DM.mk dn dt key ha hc av f g).pd := rfl
    rw [hpp] at CN2 CB2
    generalize (DM.mk dn dt key ha hc av f g).pd.num = nm at *
    generalize (DM.mk dn dt key ha hc av f g).pd.beg = bg at *
    clear t1 t2 hpp
    generalize strOf key = k at *
    generalize av.length = ln at *
    have g1 : ((dn : Int) != (dn : Int)) = false := by simp
    have g2 : ((dt : Int) != (dt : Int)) = false := by simp
    have g3 : ((nm : Int) != (nm : Int)) = false := by simp
    have g4 : ((bg : Int) != (bg : Int)) = false := by simp
    go_upto_region 6 with fail
    refine Rk.wp_region_turns2 (Ext wr) [0, 0, 0, 0, 0, 0, 0, 0, 1, 2, 3, 4] [Rk.FactK.eq (.slice (some ⟨B, o, none⟩) n e1),
     Rk.FactK.eq (.int .i64 i),
     Rk.FactK.eq (.pointer (some ⟨B, o + i * 6, none⟩)),
     Rk.FactK.eq (.agg #[.int .u64 dn, .int .u64 dt, .string k, .slice ha ln hc, .int .u64 f, .int .u64 g]),
     Rk.FactK.eq (.slice (some ⟨B2, o2, none⟩) n e2),
     Rk.FactK.eq (.int .i64 i),
     Rk.FactK.eq (.pointer (some ⟨B2, o2 + i * 6, none⟩)),
     Rk.FactK.eq (.agg #[.int .u64 dn, .int .u64 dt, .string k, .slice hb ln hd, .int .u64 f, .int .u64 g]),
     oneT wr.heap.size #[.int .u64 dn, .int .u64 dt, .string k, .slice ha ln hc, .int .u64 f, .int .u64 g] #[.int .u64 dn, .int .u64 dt, .string k, .slice hb ln hd, .int .u64 f, .int .u64 g] rfl rfl,
     oneT2 wr.heap.size #[.int .u64 dn, .int .u64 dt, .string k, .slice ha ln hc, .int .u64 f, .int .u64 g] #[.int .u64 dn, .int .u64 dt, .string k, .slice hb ln hd, .int .u64 f, .int .u64 g] rfl rfl,
     finT wr.heap.size #[.int .u64 dn, .int .u64 dt, .string k, .slice ha ln hc, .int .u64 f, .int .u64 g] #[.int .u64 dn, .int .u64 dt, .string k, .slice hb ln hd, .int .u64 f, .int .u64 g],
     finT2 wr.heap.size #[.int .u64 dn, .int .u64 dt, .string k, .slice ha ln hc, .int .u64 f, .int .u64 g] #[.int .u64 dn, .int .u64 dt, .string k, .slice hb ln hd, .int .u64 f, .int .u64 g]]
     [Rk.FactK.any, Rk.FactK.any, Rk.FactK.any, Rk.FactK.any, Rk.FactK.any, Rk.FactK.any, Rk.FactK.any, Rk.FactK.any, noT wr.heap.size #[.int .u64 dn, .int .u64 dt, .string k, .slice ha ln hc, .int .u64 f, .int .u64 g] #[.int .u64 dn, .int .u64 dt, .string k, .slice hb ln hd, .int .u64 f, .int .u64 g], noT2 wr.heap.size #[.int .u64 dn, .int .u64 dt, .string k, .slice ha ln hc, .int .u64 f, .int .u64 g] #[.int .u64 dn, .int .u64 dt, .string k, .slice hb ln hd, .int .u64 f, .int .u64 g], Rk.FactK.any, Rk.FactK.any]
     [[], [], [(0, 18), (1, 19)], [(2, 20)], [], [], [(4, 22), (5, 23)], [(6, 24)], [], [], [(8, 6), (3, 21)], [(9, 7), (7, 25)]]
     [(0, 18), (1, 19), (2, 20), (3, 21), (4, 22), (5, 23), (6, 24), (7, 25), (8, 6), (9, 7)] (by kernel_rfl) (by kernel_rfl) rfl rfl rfl ((Ext.refl _).drew) (SmK.ext) ?_ ?_ ?_
    · intro f hf; simp only [List.mem_cons, List.not_mem_nil, or_false] at hf; rcases hf with rfl | rfl | rfl | rfl | rfl | rfl | rfl | rfl | rfl | rfl | rfl | rfl
      · exact True.intro
      · exact True.intro
      · exact True.intro
      · exact True.intro
      · exact True.intro
      · exact True.intro
      · exact True.intro
      · exact True.intro
      · exact (noP_start _ _)
      · exact (noP_start _ _)
      · exact True.intro
      · exact True.intro
    · refine ⟨?_, ?_, ?_, ?_, ?_, ?_, ?_, ?_, ?_, ?_, ?_, ?_, trivial⟩
      · intro w1 hx1 hg1; change wpList _ _ _ _ _ _; go_wp2_with fail; exact ⟨rfl, rfl, rfl, rfl⟩
      · intro w1 hx1 hg1; change wpList _ _ _ _ _ _; go_wp2_with fail; exact ⟨rfl, rfl, rfl, rfl⟩
      · rintro w1 hx1 hg1 _ rfl _ rfl; change wpList _ _ _ _ _ _; go_wp2_with fail; exact ⟨rfl, rfl, rfl, rfl⟩
      · rintro w1 hx1 hg1 _ rfl; change wpList _ _ _ _ _ _; have m0 := hx1.cell c0; have m1 := hx1.cell c1; have m2 := hx1.cell c2; have m3 := hx1.cell c3; have m4 := hx1.cell c4; have m5 := hx1.cell c5; go_wp2_with fail; exact ⟨rfl, rfl, rfl, rfl⟩
      · intro w1 hx1 hg1; change wpList _ _ _ _ _ _; go_wp2_with fail; exact ⟨rfl, rfl, rfl, rfl⟩
      · intro w1 hx1 hg1; change wpList _ _ _ _ _ _; go_wp2_with fail; exact ⟨rfl, rfl, rfl, rfl⟩
      · rintro w1 hx1 hg1 _ rfl _ rfl; change wpList _ _ _ _ _ _; go_wp2_with fail; exact ⟨rfl, rfl, rfl, rfl⟩
      · rintro w1 hx1 hg1 _ rfl; change wpList _ _ _ _ _ _; have m0 := hx1.cell d0; have m1 := hx1.cell d1; have m2 := hx1.cell d2; have m3 := hx1.cell d3; have m4 := hx1.cell d4; have m5 := hx1.cell d5; go_wp2_with fail; exact ⟨rfl, rfl, rfl, rfl⟩
      · intro w1 hx1 hg1; change wpList _ _ _ _ _ _; go_wp2_with fail; exact ⟨rfl, rfl, rfl, one_new rfl hg1⟩
      · intro w1 hx1 hg1; change wpList _ _ _ _ _ _; go_wp2_with fail; exact ⟨rfl, rfl, rfl, one_new rfl hg1⟩
      · intro w1 hx1 hg1; intro v6 h6; rintro _ rfl; change wpList _ _ _ _ _ _; obtain ⟨b, rfl, hbq, ⟨c, hcs, hbc⟩, hu⟩ := h6; refine wpList_store_whole 53 (.tmp 6) (.tmp 21) rfl rfl b rfl #[.int .u64 dn, .int .u64 dt, .string k, .slice ha ln hc, .int .u64 f, .int .u64 g] rfl c 53 hbc hcs sizeDel (by simp [Value.oneCell']) ?_; exact wpList_nil ⟨rfl, ⟨b, c, hbq, hbc, rfl⟩, rfl, ⟨b, hbq, setRow_heap w1 b c _ _ _ hbc⟩⟩
      · intro w1 hx1 hg1; intro v7 h7; rintro _ rfl; change wpList _ _ _ _ _ _; obtain ⟨b, rfl, hbq, ⟨c, hcs, hbc⟩, hu⟩ := h7; refine wpList_store_whole 104 (.tmp 7) (.tmp 25) rfl rfl b rfl #[.int .u64 dn, .int .u64 dt, .string k, .slice hb ln hd, .int .u64 f, .int .u64 g] rfl c 104 hbc hcs sizeRd (by simp [Value.oneCell']) ?_; exact wpList_nil ⟨rfl, ⟨b, c, hbq, hbc, rfl⟩, rfl, ⟨b, hbq, setRow_heap w1 b c _ _ _ hbc⟩⟩
    · intro w1 hx1; intro hno; rintro _ rfl _ rfl _ rfl _ rfl _ rfl _ rfl _ rfl _ rfl; intro v6 h6; intro v7 h7; refine depsThen_nil ?_; dsimp only; simp only [Act.put, List.setIfInBounds_toArray, List.set_cons_zero, List.set_cons_succ]
      replace h6 : (oneT wr.heap.size #[.int .u64 dn, .int .u64 dt, .string k, .slice ha ln hc, .int .u64 f, .int .u64 g] #[.int .u64 dn, .int .u64 dt, .string k, .slice hb ln hd, .int .u64 f, .int .u64 g] rfl rfl).p v6 w1 := h6
      replace h7 : (oneT2 wr.heap.size #[.int .u64 dn, .int .u64 dt, .string k, .slice ha ln hc, .int .u64 f, .int .u64 g] #[.int .u64 dn, .int .u64 dt, .string k, .slice hb ln hd, .int .u64 f, .int .u64 g] rfl rfl).p v7 w1 := h7
      have o10 : (finT wr.heap.size #[.int .u64 dn, .int .u64 dt, .string k, .slice ha ln hc, .int .u64 f, .int .u64 g] #[.int .u64 dn, .int .u64 dt, .string k, .slice hb ln hd, .int .u64 f, .int .u64 g]).p undef w1 := hno 10 (by show 10 < 12; decide) rfl
      have o11 : (finT2 wr.heap.size #[.int .u64 dn, .int .u64 dt, .string k, .slice ha ln hc, .int .u64 f, .int .u64 g] #[.int .u64 dn, .int .u64 dt, .string k, .slice hb ln hd, .int .u64 f, .int .u64 g]).p undef w1 := hno 11 (by show 11 < 12; decide) rfl
      clear hno
      obtain ⟨b6, rfl, r6⟩ := one_fin h6 o10
      obtain ⟨b7, rfl, r7⟩ := one_fin h7 o11
      have R6 := Lib.hid r6
      have R7 := Lib.hid r7
      have HXX : Hid (Ext wr w1) := hx1
      clear c0 c1 c2 c3 c4 c5 d0 d1 d2 d3 d4 d5 r6 r7 hx1 h6 h7 o10 o11
      obtain ⟨w3, hw3⟩ : ∃ w3, w3 = w1 := ⟨_, rfl⟩
      subst hw3
      go_upto_region 7 with fail
      refine wp_region_facts [Fact.eq (.pointer (some ⟨b6, 4, none⟩)),
       Fact.eq (.agg #[.int .u64 f, .int .u64 g]),
       Fact.eq (.pointer (some ⟨b7, 4, none⟩)),
       Fact.eq (.agg #[.int .u64 f, .int .u64 g]),
       Fact.eq (.bool false),
       Fact.eq (.bool false),
       Fact.eq (.pointer (some ⟨b6, 0, none⟩)),
       Fact.eq (.pointer (some ⟨b6, 0, none⟩)),
       Fact.eq (.int .u64 dn),
       Fact.eq (.pointer (some ⟨b7, 0, none⟩)),
       Fact.eq (.pointer (some ⟨b7, 0, none⟩)),
       Fact.eq (.int .u64 dn),
       Fact.eq (.bool false),
       Fact.eq (.bool false),
       Fact.eq (.bool false),
       Fact.eq (.pointer (some ⟨b6, 0, none⟩)),
       Fact.eq (.pointer (some ⟨b6, 1, none⟩)),
       Fact.eq (.int .u64 dt),
       Fact.eq (.pointer (some ⟨b7, 0, none⟩)),
       Fact.eq (.pointer (some ⟨b7, 1, none⟩)),
       Fact.eq (.int .u64 dt),
       Fact.eq (.bool false),
       Fact.eq (.bool false),
       Fact.eq (.bool false),
       Fact.eq (.pointer (some ⟨b6, 0, none⟩)),
       Fact.eq (.pointer (some ⟨b6, 2, none⟩)),
       Fact.eq (.agg #[.string k, .slice ha ln hc]),
       Fact.eq (.pointer (some ⟨b7, 0, none⟩)),
       Fact.eq (.pointer (some ⟨b7, 2, none⟩)),
       Fact.eq (.agg #[.string k, .slice hb ln hd]),
       Fact.eq (.bool true),
       Fact.eq (.bool false),
       Fact.eq (.bool false),
       Fact.eq (.bool false),
       Fact.eq (.agg #[.int .u64 dn, .int .u64 dt, .string k, .slice ha ln hc, .int .u64 f, .int .u64 g]),
       Fact.eq (.int .u64 (nm : Nat)),
       Fact.eq (.agg #[.int .u64 dn, .int .u64 dt, .string k, .slice hb ln hd, .int .u64 f, .int .u64 g]),
       Fact.eq (.int .u64 (nm : Nat)),
       Fact.eq (.bool false),
       Fact.eq (.bool false),
       Fact.eq (.bool false),
       Fact.eq (.agg #[.int .u64 dn, .int .u64 dt, .string k, .slice ha ln hc, .int .u64 f, .int .u64 g]),
       Fact.eq (.int .u64 (bg : Nat)),
       Fact.eq (.agg #[.int .u64 dn, .int .u64 dt, .string k, .slice hb ln hd, .int .u64 f, .int .u64 g]),
       Fact.eq (.int .u64 (bg : Nat)),
       Fact.eq (.bool false),
       Fact.eq (.bool false)]
       [[], [(0, 26)], [], [(2, 28)], [(1, 27), (3, 29)], [(4, 30)], [(5, 31)], [(6, 32), (5, 31)], [(7, 33), (5, 31)], [(5, 31)], [(9, 35), (5, 31)], [(10, 36), (5, 31)], [(8, 34), (11, 37), (5, 31)], [(5, 31), (12, 38)], [(13, 39)], [(14, 40)], [(15, 41), (14, 40)], [(16, 42), (14, 40)], [(14, 40)], [(18, 44), (14, 40)], [(19, 45), (14, 40)], [(17, 43), (20, 46), (14, 40)], [(14, 40), (21, 47)], [(22, 48)], [(23, 49)], [(24, 50), (23, 49)], [(25, 51), (23, 49)], [(23, 49)], [(27, 53), (23, 49)], [(28, 54), (23, 49)], [(26, 52), (29, 55), (23, 49)], [(30, 56), (23, 49)], [(23, 49), (31, 57)], [(32, 58)], [(33, 59)], [(34, 60), (33, 59)], [(33, 59)], [(36, 62), (33, 59)], [(35, 61), (37, 63), (33, 59)], [(33, 59), (38, 64)], [(39, 65)], [(40, 66)], [(41, 67), (40, 66)], [(40, 66)], [(43, 69), (40, 66)], [(42, 68), (44, 70), (40, 66)], [(40, 66), (45, 71)]]
       [(0, 26), (1, 27), (2, 28), (3, 29), (4, 30), (5, 31), (6, 32), (7, 33), (8, 34), (9, 35), (10, 36), (11, 37), (12, 38), (13, 39), (14, 40), (15, 41), (16, 42), (17, 43), (18, 44), (19, 45), (20, 46), (21, 47), (22, 48), (23, 49), (24, 50), (25, 51), (26, 52), (27, 53), (28, 54), (29, 55), (30, 56), (31, 57), (32, 58), (33, 59), (34, 60), (35, 61), (36, 62), (37, 63), (38, 64), (39, 65), (40, 66), (41, 67), (42, 68), (43, 69), (44, 70), (45, 71), (46, 72)] (by kernel_rfl) (by kernel_rfl) ?_ ?_
      · refine ⟨?_, ?_, ?_, ?_, ?_, ?_, ?_, ?_, ?_, ?_, ?_, ?_, ?_, ?_, ?_, ?_, ?_, ?_, ?_, ?_, ?_, ?_, ?_, ?_, ?_, ?_, ?_, ?_, ?_, ?_, ?_, ?_, ?_, ?_, ?_, ?_, ?_, ?_, ?_, ?_, ?_, ?_, ?_, ?_, ?_, ?_, ?_, trivial⟩
        · intro w1 hx1; change wpList _ _ _ _ _ _; go_wp2_with fail; exact ⟨rfl, Ext.refl _, rfl, rfl⟩
        · rintro w1 hx1 _ rfl; change wpList _ _ _ _ _ _; have m4 := cell_of_row _ _ 4 _ _ _ (block_later R6.out hx1); have m5 := cell_of_row _ _ 5 _ _ _ (block_later R6.out hx1); go_wp2_with fail; exact ⟨rfl, Ext.refl _, rfl, rfl⟩
        · intro w1 hx1; change wpList _ _ _ _ _ _; go_wp2_with fail; exact ⟨rfl, Ext.refl _, rfl, rfl⟩
        · rintro w1 hx1 _ rfl; change wpList _ _ _ _ _ _; have m4 := cell_of_row _ _ 4 _ _ _ (block_later R7.out hx1); have m5 := cell_of_row _ _ 5 _ _ _ (block_later R7.out hx1); go_wp2_with fail; exact ⟨rfl, Ext.refl _, rfl, rfl⟩
        · rintro w1 hx1 _ rfl _ rfl; change wpList _ _ _ _ _ _; go_wp2_with fail; exact ⟨rfl, Ext.refl _, rfl, rfl⟩
        · rintro w1 hx1 _ rfl; change wpList _ _ _ _ _ _; exact ob_move rfl rfl rfl rfl rfl
        · rintro w1 hx1 _ rfl; change wpList _ _ _ _ _ _; go_wp2_with fail; exact ⟨rfl, Ext.refl _, rfl, rfl⟩
        · rintro w1 hx1 _ rfl _ rfl; change wpList _ _ _ _ _ _; go_wp2_with fail; exact ⟨rfl, Ext.refl _, rfl, rfl⟩
        · rintro w1 hx1 _ rfl _ rfl; change wpList _ _ _ _ _ _; have m0 := cell_of_row _ _ 0 _ _ _ (block_later R6.out hx1); go_wp2_with fail; exact ⟨rfl, Ext.refl _, rfl, rfl⟩
        · rintro w1 hx1 _ rfl; change wpList _ _ _ _ _ _; go_wp2_with fail; exact ⟨rfl, Ext.refl _, rfl, rfl⟩
        · rintro w1 hx1 _ rfl _ rfl; change wpList _ _ _ _ _ _; go_wp2_with fail; exact ⟨rfl, Ext.refl _, rfl, rfl⟩
        · rintro w1 hx1 _ rfl _ rfl; change wpList _ _ _ _ _ _; have m0 := cell_of_row _ _ 0 _ _ _ (block_later R7.out hx1); go_wp2_with fail; exact ⟨rfl, Ext.refl _, rfl, rfl⟩
        · rintro w1 hx1 _ rfl _ rfl _ rfl; change wpList _ _ _ _ _ _; go_wp2_with fail; exact ⟨rfl, Ext.refl _, rfl, rfl⟩
        · rintro w1 hx1 _ rfl _ rfl; change wpList _ _ _ _ _ _; exact ob_pick rfl rfl rfl rfl rfl rfl
        · rintro w1 hx1 _ rfl; change wpList _ _ _ _ _ _; exact ob_move rfl rfl rfl rfl rfl
        · rintro w1 hx1 _ rfl; change wpList _ _ _ _ _ _; go_wp2_with fail; exact ⟨rfl, Ext.refl _, rfl, rfl⟩
        · rintro w1 hx1 _ rfl _ rfl; change wpList _ _ _ _ _ _; go_wp2_with fail; exact ⟨rfl, Ext.refl _, rfl, rfl⟩
        · rintro w1 hx1 _ rfl _ rfl; change wpList _ _ _ _ _ _; have m1 := cell_of_row _ _ 1 _ _ _ (block_later R6.out hx1); go_wp2_with fail; exact ⟨rfl, Ext.refl _, rfl, rfl⟩
        · rintro w1 hx1 _ rfl; change wpList _ _ _ _ _ _; go_wp2_with fail; exact ⟨rfl, Ext.refl _, rfl, rfl⟩
        · rintro w1 hx1 _ rfl _ rfl; change wpList _ _ _ _ _ _; go_wp2_with fail; exact ⟨rfl, Ext.refl _, rfl, rfl⟩
        · rintro w1 hx1 _ rfl _ rfl; change wpList _ _ _ _ _ _; have m1 := cell_of_row _ _ 1 _ _ _ (block_later R7.out hx1); go_wp2_with fail; exact ⟨rfl, Ext.refl _, rfl, rfl⟩
        · rintro w1 hx1 _ rfl _ rfl _ rfl; change wpList _ _ _ _ _ _; go_wp2_with fail; exact ⟨rfl, Ext.refl _, rfl, rfl⟩
        · rintro w1 hx1 _ rfl _ rfl; change wpList _ _ _ _ _ _; exact ob_pick rfl rfl rfl rfl rfl rfl
        · rintro w1 hx1 _ rfl; change wpList _ _ _ _ _ _; exact ob_move rfl rfl rfl rfl rfl
        · rintro w1 hx1 _ rfl; change wpList _ _ _ _ _ _; go_wp2_with fail; exact ⟨rfl, Ext.refl _, rfl, rfl⟩
        · rintro w1 hx1 _ rfl _ rfl; change wpList _ _ _ _ _ _; go_wp2_with fail; exact ⟨rfl, Ext.refl _, rfl, rfl⟩
        · rintro w1 hx1 _ rfl _ rfl; change wpList _ _ _ _ _ _; have m2 := cell_of_row _ _ 2 _ _ _ (block_later R6.out hx1); have m3 := cell_of_row _ _ 3 _ _ _ (block_later R6.out hx1); go_wp2_with fail; exact ⟨rfl, Ext.refl _, rfl, rfl⟩
        · rintro w1 hx1 _ rfl; change wpList _ _ _ _ _ _; go_wp2_with fail; exact ⟨rfl, Ext.refl _, rfl, rfl⟩
        · rintro w1 hx1 _ rfl _ rfl; change wpList _ _ _ _ _ _; go_wp2_with fail; exact ⟨rfl, Ext.refl _, rfl, rfl⟩
        · rintro w1 hx1 _ rfl _ rfl; change wpList _ _ _ _ _ _; have m2 := cell_of_row _ _ 2 _ _ _ (block_later R7.out hx1); have m3 := cell_of_row _ _ 3 _ _ _ (block_later R7.out hx1); go_wp2_with fail; exact ⟨rfl, Ext.refl _, rfl, rfl⟩
        · rintro w1 hx1 _ rfl _ rfl _ rfl; change wpList _ _ _ _ _ _; go_wp2_with fail; refine (CE.out _ (HXX.out.trans hx1)).mono ?_; rintro e w2 ⟨rfl, hx2⟩; go_wp2_with fail; exact ⟨rfl, hx2, rfl, rfl⟩
        · rintro w1 hx1 _ rfl _ rfl; change wpList _ _ _ _ _ _; go_wp2_with fail; exact ⟨rfl, Ext.refl _, rfl, rfl⟩
        · rintro w1 hx1 _ rfl _ rfl; change wpList _ _ _ _ _ _; exact ob_pick rfl rfl rfl rfl rfl rfl
        · rintro w1 hx1 _ rfl; change wpList _ _ _ _ _ _; exact ob_move rfl rfl rfl rfl rfl
        · rintro w1 hx1 _ rfl; change wpList _ _ _ _ _ _; have m0 := cell_of_row _ _ 0 _ _ _ (block_later R6.out hx1); have m1 := cell_of_row _ _ 1 _ _ _ (block_later R6.out hx1); have m2 := cell_of_row _ _ 2 _ _ _ (block_later R6.out hx1); have m3 := cell_of_row _ _ 3 _ _ _ (block_later R6.out hx1); have m4 := cell_of_row _ _ 4 _ _ _ (block_later R6.out hx1); have m5 := cell_of_row _ _ 5 _ _ _ (block_later R6.out hx1); go_wp2_with fail; exact ⟨rfl, Ext.refl _, rfl, rfl⟩
        · rintro w1 hx1 _ rfl _ rfl; change wpList _ _ _ _ _ _; go_wp2_with fail; refine (CN1.out _).mono ?_; rintro e w2 ⟨rfl, hx2⟩; go_wp2_with fail; exact ⟨rfl, hx2, rfl, rfl⟩
        · rintro w1 hx1 _ rfl; change wpList _ _ _ _ _ _; have m0 := cell_of_row _ _ 0 _ _ _ (block_later R7.out hx1); have m1 := cell_of_row _ _ 1 _ _ _ (block_later R7.out hx1); have m2 := cell_of_row _ _ 2 _ _ _ (block_later R7.out hx1); have m3 := cell_of_row _ _ 3 _ _ _ (block_later R7.out hx1); have m4 := cell_of_row _ _ 4 _ _ _ (block_later R7.out hx1); have m5 := cell_of_row _ _ 5 _ _ _ (block_later R7.out hx1); go_wp2_with fail; exact ⟨rfl, Ext.refl _, rfl, rfl⟩
        · rintro w1 hx1 _ rfl _ rfl; change wpList _ _ _ _ _ _; go_wp2_with fail; refine (CN2.out _).mono ?_; rintro e w2 ⟨rfl, hx2⟩; go_wp2_with fail; exact ⟨rfl, hx2, rfl, rfl⟩
        · rintro w1 hx1 _ rfl _ rfl _ rfl; change wpList _ _ _ _ _ _; go_wp2_with fail; exact ⟨rfl, Ext.refl _, rfl, rfl⟩
        · rintro w1 hx1 _ rfl _ rfl; change wpList _ _ _ _ _ _; exact ob_pick rfl rfl rfl rfl rfl rfl
        · rintro w1 hx1 _ rfl; change wpList _ _ _ _ _ _; exact ob_move rfl rfl rfl rfl rfl
        · rintro w1 hx1 _ rfl; change wpList _ _ _ _ _ _; have m0 := cell_of_row _ _ 0 _ _ _ (block_later R6.out hx1); have m1 := cell_of_row _ _ 1 _ _ _ (block_later R6.out hx1); have m2 := cell_of_row _ _ 2 _ _ _ (block_later R6.out hx1); have m3 := cell_of_row _ _ 3 _ _ _ (block_later R6.out hx1); have m4 := cell_of_row _ _ 4 _ _ _ (block_later R6.out hx1); have m5 := cell_of_row _ _ 5 _ _ _ (block_later R6.out hx1); go_wp2_with fail; exact ⟨rfl, Ext.refl _, rfl, rfl⟩
        · rintro w1 hx1 _ rfl _ rfl; change wpList _ _ _ _ _ _; go_wp2_with fail; refine (CB1.out _).mono ?_; rintro e w2 ⟨rfl, hx2⟩; go_wp2_with fail; exact ⟨rfl, hx2, rfl, rfl⟩
        · rintro w1 hx1 _ rfl; change wpList _ _ _ _ _ _; have m0 := cell_of_row _ _ 0 _ _ _ (block_later R7.out hx1); have m1 := cell_of_row _ _ 1 _ _ _ (block_later R7.out hx1); have m2 := cell_of_row _ _ 2 _ _ _ (block_later R7.out hx1); have m3 := cell_of_row _ _ 3 _ _ _ (block_later R7.out hx1); have m4 := cell_of_row _ _ 4 _ _ _ (block_later R7.out hx1); have m5 := cell_of_row _ _ 5 _ _ _ (block_later R7.out hx1); go_wp2_with fail; exact ⟨rfl, Ext.refl _, rfl, rfl⟩
        · rintro w1 hx1 _ rfl _ rfl; change wpList _ _ _ _ _ _; go_wp2_with fail; refine (CB2.out _).mono ?_; rintro e w2 ⟨rfl, hx2⟩; go_wp2_with fail; exact ⟨rfl, hx2, rfl, rfl⟩
        · rintro w1 hx1 _ rfl _ rfl _ rfl; change wpList _ _ _ _ _ _; go_wp2_with fail; exact ⟨rfl, Ext.refl _, rfl, rfl⟩
        · rintro w1 hx1 _ rfl _ rfl; change wpList _ _ _ _ _ _; exact ob_pick rfl rfl rfl rfl rfl rfl
      · rintro w1 hx1 _ rfl _ rfl _ rfl _ rfl _ rfl _ rfl _ rfl _ rfl _ rfl _ rfl _ rfl _ rfl _ rfl _ rfl _ rfl _ rfl _ rfl _ rfl _ rfl _ rfl _ rfl _ rfl _ rfl _ rfl _ rfl _ rfl _ rfl _ rfl _ rfl _ rfl _ rfl _ rfl _ rfl _ rfl _ rfl _ rfl _ rfl _ rfl _ rfl _ rfl _ rfl _ rfl _ rfl _ rfl _ rfl _ rfl _ rfl; refine depsThen_nil ?_; dsimp only; simp only [Act.put, List.setIfInBounds_toArray, List.set_cons_zero, List.set_cons_succ]
        go_wp2_with fail
        go_roundw
        case rel => exact ⟨i + 1, by rw [Int.natCast_add]; rfl, by omega, hX.out.trans (HXX.out.trans hx1)⟩
        case measure => simp [intOf]; omega
  · have hI : decide ((i : Int) < (n : Int)) = false := decide_eq_false (by omega)
    go_wp2_with fail
    go_ret
    exact ⟨rfl, hX.out⟩
end Go.Proofs.YtaklnpjpndkccaaGreat
namespace Go.Proofs.YtaklnpjpndkccaaGreat
open Go.RowKit Go.Sort
def putB (w : World) (b : Nat) (o : Obj) : World := { w with heap := w.heap.setIfInBounds b o }
theorem putB_size (w : World) (b : Nat) (o : Obj) : (putB w b o).heap.size = w.heap.size := Array.size_setIfInBounds
theorem putB_at {w : World} {b : Nat} {o : Obj} (h : b < w.heap.size) : (putB w b o).heap[b]? = some o := by
 show (w.heap.setIfInBounds b o)[b]? = _
 rw [Array.getElem?_setIfInBounds]
 simp [h]
theorem putB_far {w : World} {b k : Nat} {o : Obj} (h : k ≠ b) : (putB w b o).heap[k]? = w.heap[k]? := by
 show (w.heap.setIfInBounds b o)[k]? = _
 rw [Array.getElem?_setIfInBounds, if_neg (fun e => h e.symm)]
theorem grown_putB (w : World) (b : Nat) (o : Obj) : w.grownBy (putB w b o) (some b) :=
 ⟨rfl, rfl, rfl, by rw [putB_size]; exact Nat.le_refl _, fun k _ hne => putB_far fun e => hne (by rw [e])⟩
theorem RsR.other {w1 W W' : World} {rb bs base : Nat} {pv : Value} {p : List C} {next : Nat} {st cnt : Int} (h : RsR w1 W rb pv p next st cnt) (hP : PredB base w1 pv p) (hb : bs < base) (hs : base ≤ w1.heap.size) (hg : W.grownBy W' (some bs)) :
 ∃ w2, RsR w2 W' rb pv p next st cnt ∧ PredB base w2 pv p ∧ w2.heap.size = w1.heap.size := by
 have hW : bs < W.heap.size := by have := h.hx.size; omega
 have hW' : bs < W'.heap.size := Nat.lt_of_lt_of_le hW hg.size
 have hbw : bs < w1.heap.size := by omega
 have hne : rb ≠ bs := by have := h.old; omega
 have hP2 : PredB base (putB w1 bs W'.heap[bs]) pv p := by
  obtain ⟨us, e, h1, h2⟩ := hP
  have hh : ∀ {v : Value} {xs : List Value} {n size : Nat} {e : TypeId}, w1.ownsRow base e size v n xs → (putB w1 bs W'.heap[bs]).ownsRow base e size v n xs := fun ho => own_keep ho (grown_putB w1 bs _) fun q hq e2 => by cases e2; have := own_base ho bs hq; omega
  exact ⟨us, e, hh h1, fun x hx => hh (h2 x hx)⟩
 refine ⟨putB w1 bs W'.heap[bs], ⟨?_, by rw [putB_size]; exact h.old, hP2.pr, hg.os.trans h.hx.os, hg.tape.trans h.hx.tape, hg.output.trans h.hx.output, ?_, fun k hk => ?_⟩, hP2, putB_size _ _ _⟩
 · exact (hg.block rb (Array.getElem?_eq_some_iff.1 h.sp).1 (fun e => hne (Option.some.inj e))).trans h.sp
 · rw [putB_size]; exact Nat.le_trans h.hx.size hg.size
 · rw [putB_size] at hk
   by_cases hkb : k = bs
   · subst hkb
     rw [putB_at hk]
     exact Array.getElem?_eq_getElem hW'
   · rw [putB_far hkb]
     exact (hg.block k (Nat.lt_of_lt_of_le hk h.hx.size) (fun e => hkb (Option.some.inj e))).trans (h.hx.block k hk)
structure PlS (w W : World) (bs rb base nb : Nat) (p : List C) (n1 : Nat) (s1 c1 : Int) (n2 : Nat) (s2 c2 : Int) : Prop where
 s : ∃ w0 pv, SplR w0 W bs pv p n1 s1 c1
 r : ∃ w1 pv, RsR w1 W rb pv p n2 s2 c2 ∧ PredB base w1 pv p ∧ w1.heap.size = nb
 lt : bs < base
 lb : base ≤ nb
 lo : w.heap.size ≤ bs
 x : Ext w W
section
variable {w W W' : World} {bs rb base nb : Nat} {p : List C} {n1 n2 m1 : Nat} {s1 c1 s2 c2 t1 d1 : Int}
theorem PlS.later (h : PlS w W bs rb base nb p n1 s1 c1 n2 s2 c2) (k : Ext W W') : PlS w W' bs rb base nb p n1 s1 c1 n2 s2 c2 := by
 obtain ⟨w0, pv, h1⟩ := h.s
 obtain ⟨w1, pv2, h2, h3, h4⟩ := h.r
 exact ⟨⟨w0, pv, h1.later k⟩, ⟨w1, pv2, h2.later k, h3, h4⟩, h.lt, h.lb, h.lo, h.x.trans k⟩
theorem PlS.rbn (h : PlS w W bs rb base nb p n1 s1 c1 n2 s2 c2) : nb ≤ rb ∧ rb < W.heap.size := by
 obtain ⟨w1, pv2, h2, h3, h4⟩ := h.r
 exact ⟨by rw [← h4]; exact h2.old, (Array.getElem?_eq_some_iff.1 h2.sp).1⟩
theorem PlS.sturn (h : PlS w W bs rb base nb p n1 s1 c1 n2 s2 c2) (hg : W.grownBy W' (some bs)) (hS : ∃ w0 pv, SplR w0 W' bs pv p m1 t1 d1) : PlS w W' bs rb base nb p m1 t1 d1 n2 s2 c2 := by
 obtain ⟨w1, pv2, h2, h3, h4⟩ := h.r
 obtain ⟨w2, k1, k2, k3⟩ := h2.other h3 h.lt (by rw [h4]; exact h.lb) hg
 exact ⟨hS, ⟨w2, pv2, k1, k2, k3.trans h4⟩, h.lt, h.lb, h.lo, ext_but h.x hg h.lo⟩
end
end Go.Proofs.YtaklnpjpndkccaaGreat
namespace Go.Proofs.YtaklnpjpndkccaaGreat
open Go.RowKit Go.Sort
def PsK (bs rb : Nat) : Nat → World → World → Prop
 | 0, w, w' => Ext w w'
 | 1, w, w' => w.grownBy w' (some bs) ∧ (∃ c fr, w.heap[bs]? = some (.cells c 88 fr)) ∧ ∃ c fr, w'.heap[bs]? = some (.cells c 88 fr)
 | 2, w, w' => w.grownBy w' (some rb) ∧ (∃ c fr, w.heap[rb]? = some (.cells c 84 fr)) ∧ ∃ c fr, w'.heap[rb]? = some (.cells c 84 fr)
 | _, _, _ => False
section
variable {bs rb : Nat}
theorem PsK.own {j : Nat} {w w' : World} (h : PsK bs rb j w w') {base size n : Nat} {e : TypeId} {v : Value} {xs : List Value} (k : w.ownsRow base e size v n xs) (h1 : e ≠ 88) (h2 : e ≠ 84) : w'.ownsRow base e size v n xs := by
 match j, h with
 | 0, h => exact own_ext k h
 | 1, h =>
   obtain ⟨hg, ⟨c, fr, hc⟩, _⟩ := h
   exact own_keep k hg fun q hq e2 => own_ne k hc h1 (hq.trans e2.symm)
 | 2, h =>
   obtain ⟨hg, ⟨c, fr, hc⟩, _⟩ := h
   exact own_keep k hg fun q hq e2 => own_ne k hc h2 (hq.trans e2.symm)
 | _ + 3, h => exact h.elim
theorem PsK.ext {a : World} {j : Nat} {w w' : World} (h : PsK bs rb j w w') (h1 : a.heap.size ≤ bs) (h2 : a.heap.size ≤ rb) (hx : Ext a w) : Ext a w' := by
 match j, h with
 | 0, h => exact hx.trans h
 | 1, h => exact ext_but hx h.1 h1
 | 2, h => exact ext_but hx h.1 h2
 | _ + 3, h => exact h.elim
theorem PsK.block {j : Nat} {w w' : World} (h : PsK bs rb j w w') {b : Nat} {c : Array Value} {t : TypeId} {fr : Nat × Nat} (k : w.heap[b]? = some (.cells c t fr)) (h1 : b ≠ bs) (h2 : b ≠ rb) : w'.heap[b]? = some (.cells c t fr) := by
 match j, h with
 | 0, h =>
   have h : Ext w w' := h
   exact (h.block b (Array.getElem?_eq_some_iff.1 k).1).trans k
 | 1, h => exact (h.1.block b (Array.getElem?_eq_some_iff.1 k).1 (fun e => h1 (Option.some.inj e))).trans k
 | 2, h => exact (h.1.block b (Array.getElem?_eq_some_iff.1 k).1 (fun e => h2 (Option.some.inj e))).trans k
 | _ + 3, h => exact h.elim
end
structure PsJ (a : World) (bs rb ab : Nat) (cs : Array Value) (w : World) : Prop where
 x : Ext a w
 bx : w.heap[ab]? = some (.cells cs 36 (0, 0))
 nb : rb < w.heap.size
theorem PsJ.st {a : World} {bs rb ab : Nat} {cs : Array Value} (h1 : a.heap.size ≤ bs) (h2 : a.heap.size ≤ rb) (n1 : ab ≠ bs) (n2 : ab ≠ rb) (k : Nat) (w w' : World) (h : PsK bs rb k w w') (j : PsJ a bs rb ab cs w) : PsJ a bs rb ab cs w' :=
 ⟨h.ext h1 h2 j.x, h.block j.bx n1 n2, Nat.lt_of_lt_of_le j.nb (by
  match k, h with
  | 0, h => exact (show Ext w w' from h).size
  | 1, h => exact h.1.size
  | 2, h => exact h.1.size
  | _ + 3, h => exact h.elim)⟩
def SsP (bs : Nat) (p : List C) (n : Nat) (s c : Int) (w : World) : Prop := ∃ w0 pv, SplR w0 w bs pv p n s c
def RsP (rb base nb : Nat) (p : List C) (n : Nat) (s c : Int) (w : World) : Prop := ∃ w1 pv, RsR w1 w rb pv p n s c ∧ PredB base w1 pv p ∧ w1.heap.size = nb
theorem SsP.turn2 {bs rb : Nat} (hlt : bs < rb) {p : List C} {n : Nat} {s c : Int} {w w' : World} (h : SsP bs p n s c w) (hg : w.grownBy w' (some rb)) : SsP bs p n s c w' := by
 obtain ⟨w0, pv, k⟩ := h
 have := k.old
 exact ⟨w0, pv, (hg.block bs (Array.getElem?_eq_some_iff.1 k.sp).1 (fun e => by have := Option.some.inj e; omega)).trans k.sp, k.old, k.pr, ext_but k.hx hg (by omega)⟩
theorem RsP.turn1 {bs rb base nb : Nat} (hb : bs < base) (hn : base ≤ nb) {p : List C} {n : Nat} {s c : Int} {w w' : World} (h : RsP rb base nb p n s c w) (hg : w.grownBy w' (some bs)) : RsP rb base nb p n s c w' := by
 obtain ⟨w1, pv, k1, k2, k3⟩ := h
 obtain ⟨w2, q1, q2, q3⟩ := k1.other k2 hb (by omega) hg
 exact ⟨w2, pv, q1, q2, q3.trans k3⟩
theorem SsP.later {bs : Nat} {p : List C} {n : Nat} {s c : Int} {w w' : World} (h : SsP bs p n s c w) (k : Ext w w') : SsP bs p n s c w' := by
 obtain ⟨w0, pv, h⟩ := h
 exact ⟨w0, pv, h.later k⟩
theorem RsP.later {rb base nb : Nat} {p : List C} {n : Nat} {s c : Int} {w w' : World} (h : RsP rb base nb p n s c w) (k : Ext w w') : RsP rb base nb p n s c w' := by
 obtain ⟨w1, pv, h1, h2, h3⟩ := h
 exact ⟨w1, pv, h1.later k, h2, h3⟩
section
variable (bs rb base nb : Nat) (hlt : bs < rb) (hb : bs < base) (hn : base ≤ nb) (p : List C) (n : Nat) (s c : Int)
def GSs : Rk.FactK (PsK bs rb) := ⟨fun _ w => SsP bs p n s c w, fun k => k == 1, fun j hj _ w w' hx h => by
 match j, hx with
 | 0, hx => exact h.later hx
 | 1, hx => simp at hj
 | 2, hx => exact h.turn2 hlt hx.1
 | _ + 3, hx => exact hx.elim⟩
def GRs : Rk.FactK (PsK bs rb) := ⟨fun _ w => RsP rb base nb p n s c w, fun k => k == 2, fun j hj _ w w' hx h => by
 match j, hx with
 | 0, hx => exact h.later hx
 | 1, hx => exact h.turn1 hb hn hx.1
 | 2, hx => simp at hj
 | _ + 3, hx => exact hx.elim⟩
def dP (out : List PD) (v : Value) (w : World) : Prop := ∃ (O : List DM) (a : Option Addr) (cc : Nat), v = .slice a O.length cc ∧ O.map DM.pd = out ∧ w.ownsRow 0 53 6 (.slice a O.length cc) O.length (O.flatMap dmC) ∧ ∀ x ∈ O, AttrO 0 w x.h x.av
def dR (wB : World) (out : List PD) (v : Value) (w : World) : Prop := ∃ (O : List DM) (a : Option Addr) (cc : Nat), v = .slice a O.length cc ∧ O.map DM.pd = out ∧ w.ownsRow 0 104 6 (.slice a O.length cc) O.length (O.flatMap dmC) ∧ ∀ x ∈ O, AttrR wB x.h x.av
theorem dP.st {out : List PD} {v : Value} {j : Nat} {w w' : World} (hx : PsK bs rb j w w') (h : dP out v w) : dP out v w' := by
 obtain ⟨O, a, cc, e, e2, h1, h2⟩ := h
 exact ⟨O, a, cc, e, e2, hx.own h1 (by decide) (by decide), fun x hx' => hx.own (h2 x hx') (by decide) (by decide)⟩
theorem dR.st {wB : World} {out : List PD} {v : Value} {j : Nat} {w w' : World} (hx : PsK bs rb j w w') (h : dR wB out v w) : dR wB out v w' := by
 obtain ⟨O, a, cc, e, e2, h1, h2⟩ := h
 exact ⟨O, a, cc, e, e2, hx.own h1 (by decide) (by decide), h2⟩
def FdP (out : List PD) : Rk.FactK (PsK bs rb) := ⟨fun v w => dP out v w, fun _ => false, fun _ _ _ _ _ hx h => dP.st bs rb hx h⟩
def FdR (wB : World) (out : List PD) : Rk.FactK (PsK bs rb) := ⟨fun v w => dR wB out v w, fun _ => false, fun _ _ _ _ _ hx h => dR.st bs rb hx h⟩
def FSp (out : List PD) : Rk.FactK (PsK bs rb) := ⟨fun v w => dP out v w ∧ SsP bs p n s c w, fun k => k == 1, fun j hj v w w' hx h => ⟨dP.st bs rb hx h.1, (GSs bs rb hlt p n s c).st j hj v w w' hx h.2⟩⟩
def FRp (wB : World) (out : List PD) : Rk.FactK (PsK bs rb) := ⟨fun v w => dR wB out v w ∧ RsP rb base nb p n s c w, fun k => k == 2, fun j hj v w w' hx h => ⟨dR.st bs rb hx h.1, (GRs bs rb base nb hb hn p n s c).st j hj v w w' hx h.2⟩⟩
end
theorem dsame_dd {w : World} {wB : World} (hB : Ext wB w) {out : List PD} {va vb : Value} (h1 : dP out va w) (h2 : dR wB out vb w) : Calls Tryz.prog 28 #[va, vb] w fun e w' => e = .returned (.bool true) ∧ Ext w w' := by
 obtain ⟨O1, a1, c1, rfl, e1, r1, t1⟩ := h1
 obtain ⟨O2, a2, c2, rfl, e2, r2, t2⟩ := h2
 exact dsame_any w _ _ O1 O2 (Row.of_own r1) (Row.of_own r2) (fun x hx => Row.of_own (t1 x hx)) (fun x hx => (t2 x hx).ext hB) (e1.trans e2.symm)
end Go.Proofs.YtaklnpjpndkccaaGreat
namespace Go.Proofs.YtaklnpjpndkccaaGreat
open Go.RowKit Go.Sort
def plPage (p : List C) (room : Int) (en : Nat) (last : Bool) (L : List PD) (n : Nat) (s c cnt : Int) : List PD × Nat × Int := if s = 2 ∧ c = cnt then pageP p room en last L n else ([], n, s)
theorem dP_nil (w : World) : dP [] (.slice none 0 0) w := ⟨[], none, 0, rfl, rfl, own_none _ _ _ _, fun _ h => by cases h⟩
theorem dR_nil (wB w : World) : dR wB [] (.slice none 0 0) w := ⟨[], none, 0, rfl, rfl, own_none _ _ _ _, fun _ h => by cases h⟩
theorem dP_tell {w w' : World} {bs : Nat} {pv v : Value} {out : List PD} {n : Nat} {s c : Int} (h : TellO w w' bs pv v out n s c) : dP out v w' := by
 obtain ⟨O, h1, h2, h3, _, _⟩ := h
 obtain ⟨a, cc, rfl, _, _⟩ := own_shape h2
 exact ⟨O, a, cc, rfl, h1, own_low h2 (Nat.zero_le _), fun x hx => own_low (h3 x hx) (Nat.zero_le _)⟩
theorem dR_tell {wB w w' : World} {bs : Nat} {pv v : Value} {out : List PD} {n : Nat} {s c : Int} (h : RtellO wB w w' bs pv v out n s c) : dR wB out v w' := by
 obtain ⟨O, h1, h2, h3, _, _⟩ := h
 obtain ⟨a, cc, rfl, _, _⟩ := own_shape h2
 exact ⟨O, a, cc, rfl, h1, own_low h2 (Nat.zero_le _), h3⟩
section
variable {wB W : World} {bs rb base nb : Nat} {p : List C} {n : Nat} {s c : Int} {items : List IM} {gaps : List (Nat × Nat)} {hi hg : Value}
theorem sp_row (hB : Ext wB W) (fr en : Nat) (last : Bool) (h1 : ImR wB hi items) (h2 : GpR wB hg gaps) (hl1 : items.length ≤ 40) (hl2 : gaps.length ≤ 40) (hav : ∀ x ∈ items, x.av.length * 56 ≤ 140737488355328) :
 Calls Tryz.prog 29 #[.agg #[.int .u64 fr, .int .u64 en, hi, hg, .bool last]] W fun e w' => ∃ v, e = .returned v ∧ Hid (dP (rowR gaps (items.map IM.pi)) v w' ∧ Ext W w') := by
 refine (row_any W fr en hi hg last items gaps (h1.ext hB) (Row.ext h2 hB) hl1 hl2 hav).mono ?_
 rintro e w' ⟨v, rfl, h⟩
 obtain ⟨L, Zg, Zi, hZg, hZi, hL, hown, hat, hx, _⟩ := h.out
 obtain ⟨a, cc, rfl, _, _⟩ := own_shape hown
 exact ⟨_, rfl, ⟨L, a, cc, rfl, hL.trans (row_same hZg hZi), own_low hown (Nat.zero_le _), fun x hx => own_low (hat x hx) (Nat.zero_le _)⟩, hx⟩
theorem rp_row (hB : Ext wB W) (fr en : Nat) (last : Bool) (h1 : ImR wB hi items) (h2 : GpR wB hg gaps) (hl1 : items.length ≤ 40) (hl2 : gaps.length ≤ 40) :
 Calls Tryz.prog 30 #[.agg #[.int .u64 fr, .int .u64 en, hi, hg, .bool last]] W fun e w' => ∃ v, e = .returned v ∧ Hid (dR wB (rowR gaps (items.map IM.pi)) v w' ∧ Ext W w') := by
 refine (rrow_any W fr en hi hg last items gaps (h1.ext hB) (Row.ext h2 hB) hl1 hl2).mono ?_
 rintro e w' ⟨v, L, rfl, h⟩
 obtain ⟨a, cc, rfl, _, _⟩ := own_shape h.out.own
 exact ⟨_, rfl, ⟨L, a, cc, rfl, h.out.pd, own_low h.out.own (Nat.zero_le _), fun x hx => h.out.hat h1 hx⟩, h.out.x⟩
theorem rp_type (h : RsP rb base nb p n s c W) : ∃ cs fr, W.heap[rb]? = some (.cells cs 84 fr) := by
 obtain ⟨w1, pv, k, _, _⟩ := h
 exact ⟨_, _, k.sp⟩
theorem sp_page (h : SsP bs p n s c W) (hB : Ext wB W) (fr en : Nat) (last : Bool) (room : Int) (h1 : ImR wB hi items) (h2 : GpR wB hg gaps) (hl1 : items.length ≤ 40) (hl2 : gaps.length ≤ 40) (hav : ∀ x ∈ items, x.av.length * 56 ≤ 140737488355328) (cnt : Nat) :
 Calls Tryz.prog 13 #[.pointer (some ⟨bs, 0, none⟩), .int .u64 cnt, .agg #[.int .u64 fr, .int .u64 en, hi, hg, .bool last], .int .i64 room] W
  fun e w' => ∃ v, e = .returned v ∧ Hid (PsK bs rb 1 W w' ∧ dP (plPage p room en last (rowR gaps (items.map IM.pi)) n s c cnt).1 v w' ∧ SsP bs p (plPage p room en last (rowR gaps (items.map IM.pi)) n s c cnt).2.1 (plPage p room en last (rowR gaps (items.map IM.pi)) n s c cnt).2.2 c w') := by
 obtain ⟨w0, pv, k⟩ := h
 unfold plPage
 by_cases hc : s = 2 ∧ c = (cnt : Int)
 · rw [if_pos hc]
   obtain ⟨rfl, rfl⟩ := hc
   refine (page_yes w0 W bs pv p n cnt k fr en hi hg last room items gaps (h1.ext hB) (Row.ext h2 hB) hl1 hl2 hav).mono ?_
   rintro e w' ⟨v, rfl, hP⟩
   obtain ⟨Zg, Zi, hZg, hZi, hT⟩ := hP.out
   rw [row_same hZg hZi] at hT
   have hS := tell_spl k hT
   refine ⟨v, rfl, ⟨?_, ⟨_, _, k.sp⟩, ⟨_, _, hS.sp⟩⟩, dP_tell hT, w0, pv, hS⟩
   obtain ⟨_, _, _, _, _, hg⟩ := hT
   exact hg
 · rw [if_neg hc]
   refine (page_no W bs pv n s c k.sp cnt hc fr en hi hg last room).mono ?_
   rintro e w' ⟨rfl, hx⟩
   exact ⟨_, rfl, ⟨grown_extJ hx, ⟨_, _, k.sp⟩, ⟨_, _, (k.later hx).sp⟩⟩, dP_nil _, w0, pv, k.later hx⟩
theorem rp_page (h : RsP rb base nb p n s c W) (hB : Ext wB W) (hrb : wB.heap.size ≤ rb) (fr en : Nat) (last : Bool) (room : Int) (h1 : ImR wB hi items) (h2 : GpR wB hg gaps) (hl1 : items.length ≤ 40) (hl2 : gaps.length ≤ 40) (cnt : Nat) :
 Calls Tryz.prog 31 #[.pointer (some ⟨rb, 0, none⟩), .int .u64 cnt, .agg #[.int .u64 fr, .int .u64 en, hi, hg, .bool last], .int .i64 room] W
  fun e w' => ∃ v, e = .returned v ∧ Hid (PsK bs rb 2 W w' ∧ dR wB (plPage p room en last (rowR gaps (items.map IM.pi)) n s c cnt).1 v w' ∧ RsP rb base nb p (plPage p room en last (rowR gaps (items.map IM.pi)) n s c cnt).2.1 (plPage p room en last (rowR gaps (items.map IM.pi)) n s c cnt).2.2 c w') := by
 obtain ⟨w1, pv, k, k2, k3⟩ := h
 unfold plPage
 by_cases hc : s = 2 ∧ c = (cnt : Int)
 · rw [if_pos hc]
   obtain ⟨rfl, rfl⟩ := hc
   refine (rpage_yes wB w1 W hB rb hrb pv p n cnt k fr en hi hg last room items gaps h1 h2 hl1 hl2).mono ?_
   rintro e w' ⟨v, rfl, hP⟩
   have hT := hP.out
   have hd := dR_tell hT
   obtain ⟨_, _, _, _, hS, hg⟩ := hT
   exact ⟨v, rfl, ⟨hg, ⟨_, _, k.sp⟩, ⟨_, _, hS⟩⟩, hd, w1, pv, k.turn hg hS, k2, k3⟩
 · rw [if_neg hc]
   refine (rpage_no W rb pv n s c k.sp cnt hc fr en hi hg last room).mono ?_
   rintro e w' ⟨rfl, hx⟩
   exact ⟨_, rfl, ⟨grown_extJ hx, ⟨_, _, k.sp⟩, ⟨_, _, (k.later hx).sp⟩⟩, dR_nil _ _, w1, pv, k.later hx, k2, k3⟩
theorem sp_comes (h : SsP bs p n s c W) (x : IM) (ha : AttrR wB x.h x.av) (hB : Ext wB W) (hl : x.av.length * 56 ≤ 140737488355328) (room : Int) :
 Calls Tryz.prog 14 #[.pointer (some ⟨bs, 0, none⟩), .agg #[.int .u64 x.n, .int .u64 x.t, .string (strOf x.key), .slice x.ha x.av.length x.hc], .int .i64 room] W
  fun e w' => ∃ O a cc, e = .returned (.slice a (List.length O) cc) ∧ Hid (W.grownBy w' (some bs) ∧ O.map DM.pd = (comesP p room x.pi n s).1 ∧ w'.ownsRow W.heap.size 53 6 (.slice a O.length cc) O.length (O.flatMap dmC) ∧ (∀ y ∈ O, AttrO W.heap.size w' y.h y.av) ∧ SsP bs p (comesP p room x.pi n s).2.1 (comesP p room x.pi n s).2.2 c w') := by
 obtain ⟨w0, pv, k⟩ := h
 refine (comes_any w0 W bs pv p n s c k x (ha.ext hB) hl room).mono ?_
 rintro e w' ⟨v, rfl, hP⟩
 have hT : TellO _ _ _ _ _ _ _ _ _ := hP.out
 have hS := tell_spl k hT
 obtain ⟨O, h1, h2, h3, _, hg⟩ := hT
 obtain ⟨a, cc, rfl, _, _⟩ := own_shape h2
 exact ⟨O, a, cc, rfl, hg, h1, h2, h3, w0, pv, hS⟩
theorem rp_comes (h : RsP rb base nb p n s c W) (x : IM) (ha : AttrR wB x.h x.av) (hB : Ext wB W) (room : Int) :
 Calls Tryz.prog 32 #[.pointer (some ⟨rb, 0, none⟩), .agg #[.int .u64 x.n, .int .u64 x.t, .string (strOf x.key), .slice x.ha x.av.length x.hc], .int .i64 room] W
  fun e w' => ∃ v, e = .returned v ∧ Hid (W.grownBy w' (some rb) ∧ dR wB (comesP p room x.pi n s).1 v w' ∧ RsP rb base nb p (comesP p room x.pi n s).2.1 (comesP p room x.pi n s).2.2 c w') := by
 obtain ⟨w1, pv, k, k2, k3⟩ := h
 refine (rcomes_any wB w1 W hB rb pv p n s c k x ha room).mono ?_
 rintro e w' ⟨v, rfl, hP⟩
 have hT := hP.out
 have hd := dR_tell hT
 obtain ⟨_, _, _, _, hS, hg⟩ := hT
 exact ⟨v, rfl, hg, hd, w1, pv, k.turn hg hS, k2, k3⟩
end
end Go.Proofs.YtaklnpjpndkccaaGreat
namespace Go.Proofs.YtaklnpjpndkccaaGreat
open Go.RowKit Go.Sort
structure PlA (w W : World) (bs rb base nb : Nat) (p : List C) (n1 : Nat) (s1 c1 : Int) (n2 : Nat) (s2 c2 : Int) (b : Nat) (cs : Array Value) : Prop where
 s : PlS w W bs rb base nb p n1 s1 c1 n2 s2 c2
 bx : W.heap[b]? = some (.cells cs 36 (0, 0))
section
variable {w W W' : World} {bs rb base nb : Nat} {p : List C} {n1 n2 m1 : Nat} {s1 c1 s2 c2 t1 d1 : Int} {b : Nat} {cs : Array Value}
theorem PlA.later (h : PlA w W bs rb base nb p n1 s1 c1 n2 s2 c2 b cs) (k : Ext W W') : PlA w W' bs rb base nb p n1 s1 c1 n2 s2 c2 b cs := ⟨h.s.later k, block_later h.bx k⟩
theorem PlA.nes (h : PlA w W bs rb base nb p n1 s1 c1 n2 s2 c2 b cs) : b ≠ bs ∧ b ≠ rb := by
 obtain ⟨w0, pv, k1⟩ := h.s.s
 obtain ⟨w1, pv2, k2, _, _⟩ := h.s.r
 constructor
 · rintro rfl
   have h2 : W.heap[b]? = _ := k1.sp
   rw [h.bx] at h2
   simp at h2
 · rintro rfl
   have h2 : W.heap[b]? = _ := k2.sp
   rw [h.bx] at h2
   simp at h2
theorem PlA.sturn (h : PlA w W bs rb base nb p n1 s1 c1 n2 s2 c2 b cs) (hg : W.grownBy W' (some bs)) (hS : SsP bs p m1 t1 d1 W') : PlA w W' bs rb base nb p m1 t1 d1 n2 s2 c2 b cs :=
 ⟨h.s.sturn hg hS, (hg.block b (Array.getElem?_eq_some_iff.1 h.bx).1 (fun e => h.nes.1 (Option.some.inj e))).trans h.bx⟩
theorem PlA.rturn2 (h : PlA w W bs rb base nb p n1 s1 c1 n2 s2 c2 b cs) (hg : W.grownBy W' (some rb)) (hR : RsP rb base nb p m1 t1 d1 W') : PlA w W' bs rb base nb p n1 s1 c1 m1 t1 d1 b cs := by
 have hrb := h.s.rbn
 have hlt := h.s.lt
 have hlb := h.s.lb
 exact ⟨⟨SsP.turn2 (by omega) h.s.s hg, hR, h.s.lt, h.s.lb, h.s.lo, ext_but h.s.x hg (by have := h.s.lo; omega)⟩, (hg.block b (Array.getElem?_eq_some_iff.1 h.bx).1 (fun e => h.nes.2 (Option.some.inj e))).trans h.bx⟩
theorem pl_slit (h : PlA w W bs rb base nb p n1 s1 c1 n2 s2 c2 b cs) (k : Bool) :
 Calls Tryz.prog 10 #[.pointer (some ⟨bs, 0, none⟩), .bool k] W fun e w' => e = .returned (.tuple #[]) ∧ Hid (PlA w w' bs rb base nb p n1 (if k then 1 else 0) c1 n2 s2 c2 b cs) := by
 obtain ⟨w0, pv, k1⟩ := h.s.s
 refine (lit_spl k1 k).mono ?_
 rintro e w' ⟨rfl, hk⟩
 exact ⟨rfl, h.sturn hk.out.2 ⟨w0, pv, hk.out.1⟩⟩
theorem pl_rlit (h : PlA w W bs rb base nb p n1 s1 c1 n2 s2 c2 b cs) (k : Bool) :
 Calls Tryz.prog 26 #[.pointer (some ⟨rb, 0, none⟩), .bool k] W fun e w' => e = .returned (.tuple #[]) ∧ Hid (PlA w w' bs rb base nb p n1 s1 c1 n2 (if k then 1 else 0) c2 b cs) := by
 obtain ⟨w1, pv, k1, k2, k3⟩ := h.s.r
 refine (rlit_any W rb pv n2 s2 c2 k1.sp k).mono ?_
 rintro e w' ⟨rfl, hk⟩
 exact ⟨rfl, h.rturn2 hk.out.2 ⟨w1, pv, k1.turn hk.out.2 hk.out.1, k2, k3⟩⟩
theorem pl_sask (h : PlA w W bs rb base nb p n1 1 c1 n2 s2 c2 b cs) (cnt : Nat) :
 Calls Tryz.prog 11 #[.pointer (some ⟨bs, 0, none⟩), .int .u64 cnt] W fun e w' => e = .returned (.tuple #[.int .u64 n1, .bool true]) ∧ Hid (PlA w w' bs rb base nb p n1 2 cnt n2 s2 c2 b cs) := by
 obtain ⟨w0, pv, k1⟩ := h.s.s
 refine (ask_spl k1 cnt).mono ?_
 rintro e w' ⟨rfl, hk⟩
 exact ⟨rfl, h.sturn hk.out.2 ⟨w0, pv, hk.out.1⟩⟩
theorem pl_rask (h : PlA w W bs rb base nb p n1 s1 c1 n2 1 c2 b cs) (cnt : Nat) :
 Calls Tryz.prog 27 #[.pointer (some ⟨rb, 0, none⟩), .int .u64 cnt] W fun e w' => e = .returned (.tuple #[.int .u64 n2, .bool true]) ∧ Hid (PlA w w' bs rb base nb p n1 s1 c1 n2 2 cnt b cs) := by
 obtain ⟨w1, pv, k1, k2, k3⟩ := h.s.r
 refine (rask_yes W rb pv n2 c2 k1.sp cnt).mono ?_
 rintro e w' ⟨rfl, hk⟩
 exact ⟨rfl, h.rturn2 hk.out.2 ⟨w1, pv, k1.turn hk.out.2 hk.out.1, k2, k3⟩⟩
theorem pl_saskno (h : PlA w W bs rb base nb p n1 s1 c1 n2 s2 c2 b cs) (hs : s1 ≠ 1) (cnt : Nat) :
 Calls Tryz.prog 11 #[.pointer (some ⟨bs, 0, none⟩), .int .u64 cnt] W fun e w' => e = .returned (.tuple #[.int .u64 0, .bool false]) ∧ w' = W := by
 obtain ⟨w0, pv, k1⟩ := h.s.s
 exact sask_no W bs pv n1 s1 c1 k1.sp hs cnt
theorem pl_raskno (h : PlA w W bs rb base nb p n1 s1 c1 n2 s2 c2 b cs) (hs : s2 ≠ 1) (cnt : Nat) :
 Calls Tryz.prog 27 #[.pointer (some ⟨rb, 0, none⟩), .int .u64 cnt] W fun e w' => e = .returned (.tuple #[.int .u64 0, .bool false]) ∧ w' = W := by
 obtain ⟨w1, pv, k1, k2, k3⟩ := h.s.r
 exact rask_no W rb pv n2 s2 c2 k1.sp hs cnt
end
end Go.Proofs.YtaklnpjpndkccaaGreat
namespace Go.Proofs.YtaklnpjpndkccaaGreat
open Go.RowKit Go.Sort
theorem PlS.far {w W W' : World} {bs rb base nb : Nat} {p : List C} {n1 n2 : Nat} {s1 c1 s2 c2 : Int} (h : PlS w W bs rb base nb p n1 s1 c1 n2 s2 c2) {B : Nat} (hB : rb < B) (hg : W.grownBy W' (some B)) : PlS w W' bs rb base nb p n1 s1 c1 n2 s2 c2 := by
 obtain ⟨w0, pv, k⟩ := h.s
 obtain ⟨w1, pv2, k1, k2, k3⟩ := h.r
 have hrb := h.rbn
 have hlt := h.lt
 have hlb := h.lb
 have hlo := h.lo
 have o1 := k.old
 have o2 := k1.old
 exact ⟨⟨w0, pv, (hg.block bs (Array.getElem?_eq_some_iff.1 k.sp).1 (fun e => by have := Option.some.inj e; omega)).trans k.sp, k.old, k.pr, ext_but k.hx hg (by omega)⟩,
  ⟨w1, pv2, ⟨(hg.block rb (Array.getElem?_eq_some_iff.1 k1.sp).1 (fun e => by have := Option.some.inj e; omega)).trans k1.sp, k1.old, k1.pr, ext_but k1.hx hg (by omega)⟩, k2, k3⟩, h.lt, h.lb, h.lo, ext_but h.x hg (by omega)⟩
theorem attr_name (l : List (List UInt8 × V)) (k : Nat) (hk : k < l.length) (s : List UInt8) : (l.flatMap aC).set (k * 5) (.string (strOf s)) = (l.set k (s, l[k].2)).flatMap aC := by
 induction l generalizing k with
 | nil => simp at hk
 | cons x r ih =>
   cases k with
   | zero =>
     rw [List.flatMap_cons, List.set_cons_zero, List.flatMap_cons, Nat.zero_mul]
     rfl
   | succ j =>
     have hj : j < r.length := by simpa using hk
     rw [List.flatMap_cons, List.set_cons_succ, List.flatMap_cons, List.set_append_right _ _ (by rw [aC_len]; omega), aC_len, show (j + 1) * 5 - 5 = j * 5 by omega, ih j hj]
     rfl
theorem attrs_len (l : List (List UInt8 × V)) : (l.flatMap aC).length = l.length * 5 := by
 induction l with
 | nil => rfl
 | cons x r ih => rw [List.flatMap_cons, List.length_append, ih, aC_len, List.length_cons]; omega
theorem one_memJ {α : Type} {O : List α} (hO : O.length ≤ 1) {d y : α} (hd : d ∈ O) (hy : y ∈ O) : y = d := by
 cases O with
 | nil => cases hd
 | cons z r =>
   have hr : r = [] := List.length_eq_zero_iff.1 (by simp only [List.length_cons] at hO; omega)
   subst hr
   rw [List.mem_singleton.1 hd, List.mem_singleton.1 hy]
structure SpW (w W : World) (bs rb base nb : Nat) (p : List C) (n : Nat) (s c : Int) (N : Nat) (ov : Value) (O : List DM) : Prop where
 s : PlS w W bs rb base nb p n s c n s c
 lt : rb < N
 row : W.ownsRow N 53 6 ov O.length (O.flatMap dmC)
 hat : ∀ y ∈ O, ∃ l2, List.length l2 = y.av.length ∧ W.ownsRow N 82 5 y.h y.av.length (l2.flatMap aC)
section
variable {w W W' : World} {bs rb base nb : Nat} {p : List C} {n : Nat} {s c : Int} {N : Nat} {ov : Value} {O : List DM}
theorem SpW.later (h : SpW w W bs rb base nb p n s c N ov O) (k : Ext W W') : SpW w W' bs rb base nb p n s c N ov O :=
 ⟨h.s.later k, h.lt, own_ext h.row k, fun y hy => by obtain ⟨l2, e, hr⟩ := h.hat y hy; exact ⟨l2, e, own_ext hr k⟩⟩
theorem SpW.spoil (h : SpW w W bs rb base nb p n s c N ov O) (hO : O.length ≤ 1) {d : DM} (hd : d ∈ O) {k : Nat} (hk : k < d.av.length) (t : List UInt8) :
 ∃ B, d.ha = some ⟨B, 0, none⟩ ∧ (∃ u, W.cell? ⟨B, k * 5, none⟩ = some u) ∧ W.frozen? ⟨B, k * 5, none⟩ = false ∧ (∃ cs, W.heap[B]? = some (.cells cs 82 (0, 0))) ∧ SpW w (W.setCell ⟨B, k * 5, none⟩ (.string (strOf t))) bs rb base nb p n s c N ov O := by
 obtain ⟨l2, e, hr⟩ := h.hat d hd
 have hr' : W.ownsRow N 82 5 (.slice d.ha d.av.length d.hc) d.av.length (l2.flatMap aC) := hr
 obtain ⟨B, hB, cur, hcur⟩ := own_baseW hr' (by omega)
 have hkl : k < l2.length := by omega
 rw [hB] at hr'
 obtain ⟨r1, r2⟩ := own_set1 hr' (j := k * 5) (by rw [attrs_len]; omega) (.string (strOf t))
 rw [attr_name l2 k hkl t] at r1
 have hNB : N ≤ B := own_base hr' B rfl
 refine ⟨B, hB, ⟨.string (strOf l2[k].1), ?_⟩, frozen_of_row _ _ _ _ _ hcur, ⟨cur, hcur⟩, h.s.far (by have := h.lt; omega) r2, h.lt, own_keep h.row r2 (own_apart hr' h.row (by decide)), fun y hy => ?_⟩
 · have g := flat_get aC 5 aC_len l2 k hkl 0 (by decide)
   have := Row.cellAt (Row.of_own hr') (g.trans rfl) (by omega)
   simpa using this
 · have hyd : y = d := one_memJ hO hd hy
   subst hyd
   refine ⟨l2.set k (t, l2[k].2), by rw [List.length_set]; exact e, ?_⟩
   show (W.setCell _ _).ownsRow N _ 5 (.slice y.ha y.av.length y.hc) _ _
   rw [hB]
   exact r1
end
end Go.Proofs.YtaklnpjpndkccaaGreat
