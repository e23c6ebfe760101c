/- The rule for a region that draws its order (K1's, turned), where each operation may turn one row of memory of its own: append beside append. -/
import Derived.Test.YtdfnfmanpdafpaaDoorY1
namespace Go.Proofs.YtdfnfmanpdafpaaDoor.Rr
open Go.RowKit

section
variable {P : Program}

def endQ (R : World → World → Prop) (F : Value → World → Prop) (o : Oper) (a : Act) (w : World) : Exit → Act → World → Prop :=
  fun e a' w' => e = .normal ∧ R w w' ∧ a'.defers = a.defers ∧ F (match o.dst with | some d => a'.tmps.getD d undef | none => undef) w'

/-- F: what an operation leaves; G: what it wants and no other one takes away; J: what stays; R: how it may turn memory. -/
structure Plan where
  F : Nat → Value → World → Prop
  G : Nat → World → Prop
  J : World → Prop
  R : Nat → World → World → Prop

def Ob (P : Program) (ops : Array Oper) (T : Plan) (a0 : Act) (i : Nat) (o : Oper) (D : List (Nat × Tmp)) : Prop :=
  ∀ w, T.J w → T.G i w → depsThen T.F w D a0 (fun a => wpList P ops (endQ (T.R i) (T.F i) o a w) [o] a w)

def Obs (P : Program) (ops : Array Oper) (T : Plan) (a0 : Act) : Nat → List Oper → List (List (Nat × Tmp)) → Prop
  | _, [], _ => True
  | i, o :: os, D => Ob P ops T a0 i o (D.headD []) ∧ Obs P ops T a0 (i + 1) os D.tail

theorem Obs_get {ops : Array Oper} {T : Plan} {a0 : Act} : ∀ {l : List Oper} {k : Nat} {D : List (List (Nat × Tmp))}, Obs P ops T a0 k l D →
    ∀ i o, l[i]? = some o → Ob P ops T a0 (k + i) o (D.getD i [])
  | [], _, _, _, _, _, h => by simp at h
  | o :: os, k, D, hb, i, o', h => by
    simp only [Obs] at hb
    cases i with
    | zero => simp at h; subst h; cases D <;> simpa using hb.1
    | succ i =>
      have := Obs_get hb.2 i o' (by simpa using h)
      cases D <;> simpa [Nat.add_assoc, Nat.add_comm 1 i] using this

structure Inv (ops : Array Oper) (T : Plan) (a0 : Act) (listed : Array Bool) (a : Act) (w : World) : Prop where
  size : listed.size = ops.size
  ts : a.tmps.size = a0.tmps.size
  df : a.defers = a0.defers
  old : ∀ s, (∀ j, dstOf ops j = some s → listed.getD j false = false) → a.tmps.getD s undef = a0.tmps.getD s undef
  fact : ∀ j, j < ops.size → listed.getD j false = true → T.F j (match dstOf ops j with | some d => a.tmps.getD d undef | none => undef) w
  down : ∀ j, listed.getD j false = true → ∀ i, waits ops j i = true → listed.getD i false = true
  pre : ∀ j, j < ops.size → listed.getD j false = false → T.G j w
  ext : T.J w

theorem region_any {ops : Array Oper} {T : Plan} {a0 : Act} {D : List (List (Nat × Tmp))} {E : List (Nat × Tmp)} {Q : Exit → Act → World → Prop}
    (hok : opsOk ops a0.tmps.size 0 ops.toList D = true) (hE : endOk ops E = true)
    (hst : ∀ i j, i < ops.size → j < ops.size → i ≠ j → ∀ v w w', T.R j w w' → T.F i v w → T.F i v w')
    (hsg : ∀ i j, i < ops.size → j < ops.size → i ≠ j → ∀ w w', T.R j w w' → T.G i w → T.G i w')
    (hsj : ∀ j w w', T.R j w w' → T.J w → T.J w')
    (hob : Obs P ops T a0 0 ops.toList D)
    (hend : ∀ w, T.J w → depsThen T.F w E a0 (fun a => Q .normal a w)) :
    ∀ (fuel : Nat) (listed : Array Bool) (a : Act) (w : World), listed.count false = fuel → Inv ops T a0 listed a w → wpAny P .any ops Q fuel listed a w := by
  have hall : ∀ {i o}, ops[i]? = some o → opOk ops a0.tmps.size i o (D.getD i []) = true := fun {i o} h => by
    have := opsOk_get hok i o (by simpa using h); simpa using this
  have hobs : ∀ {i o}, ops[i]? = some o → Ob P ops T a0 i o (D.getD i []) := fun {i o} h => by
    have := Obs_get hob i o (by simpa using h); simpa using this
  -- all that are listed: the end
  have fin : ∀ (listed : Array Bool) (a : Act) (w : World), (∀ j, j < ops.size → listed.getD j false = true) → Inv ops T a0 listed a w → Q .normal a w := by
    intro listed a w hl hI
    simp only [endOk, Bool.and_eq_true] at hE
    have hdl : ∀ {j d}, dstOf ops j = some d → j < ops.size := fun {j d} hj => by
      unfold dstOf at hj
      rcases Nat.lt_or_ge j ops.size with h' | h'
      · exact h'
      · rw [Array.getElem?_eq_none h'] at hj; cases hj
    obtain ⟨c, hk, hc1, hc2, hc3⟩ := depsThen_at a _ E a0 hI.ts.symm (fun p hp => by
      have hd : dstOf ops p.1 = some p.2 := by simpa using List.all_eq_true.1 hE.1 p hp
      have := hI.fact p.1 (hdl hd) (hl p.1 (hdl hd))
      simp only [hd] at this
      exact this) (hend w hI.ext)
    have : c = a := by
      obtain ⟨ct, cd⟩ := c
      obtain ⟨at', ad⟩ := a
      have e2 : cd = ad := hc2.trans hI.df.symm
      have e1 : ct = at' := by
        apply Array.ext_getElem?
        intro s
        refine tmps_ext (a := ⟨ct, cd⟩) (b := ⟨at', ad⟩) hc1 ?_
        rw [hc3]
        split
        · rfl
        · rename_i hn
          refine (hI.old s fun j hj => ?_).symm
          exfalso
          have h2 := List.all_eq_true.1 hE.2 j (List.mem_range.2 (hdl hj))
          simp only [hj, List.any_eq_true, beq_iff_eq] at h2
          obtain ⟨p, hp, hpj⟩ := h2
          have hd : dstOf ops p.1 = some p.2 := by simpa using List.all_eq_true.1 hE.1 p hp
          rw [hpj, hj] at hd
          exact hn ⟨p, hp, (Option.some.inj hd).symm⟩
      rw [e1, e2]
    rw [← this]; exact hk
  -- nothing ready: all are listed
  have noReady : ∀ (listed : Array Bool), listed.size = ops.size → Region.ready .any ops listed = [] → ∀ j, j < ops.size → listed.getD j false = true := by
    intro listed hs hr j
    induction j using Nat.strongRecOn with
    | _ j ih =>
      intro hj
      cases hlj : listed.getD j false with
      | true => rfl
      | false =>
        exfalso
        have ho : ops[j]? = some ops[j] := by simp [hj]
        have hmem : j ∈ Region.ready .any ops listed := by
          refine mem_ready.2 ⟨?_, ops[j], ho, fun e he hb => ?_⟩
          · have : j < listed.size := hs ▸ hj
            simp [this] at hlj ⊢; exact hlj
          · have h1 := hall ho
            simp only [opOk, Bool.and_eq_true] at h1
            have h2 := (Array.all_eq_true_iff_forall_mem.1 h1.1.2) e he
            simp [hb] at h2
            exact ih e.on h2 (by omega)
        rw [hr] at hmem
        cases hmem
  intro fuel
  induction fuel with
  | zero =>
    intro listed a w hc hI
    have hl : ∀ j, j < ops.size → listed.getD j false = true := by
      intro j hj
      have hj' : j < listed.size := hI.size ▸ hj
      have := Array.count_eq_zero.1 hc
      have h2 : listed[j] ≠ false := fun e => this (e ▸ Array.getElem_mem hj')
      simp [hj']; simpa using h2
    refine ⟨?_, fin listed a w hl hI⟩
    cases hr : Region.ready .any ops listed with
    | nil => rfl
    | cons i rs =>
      have hm : i ∈ Region.ready .any ops listed := by rw [hr]; exact List.mem_cons_self
      obtain ⟨h0, o, ho, _⟩ := mem_ready.1 hm
      have hi : i < ops.size := (Array.getElem?_eq_some_iff.1 ho).1
      have h1 := hl i hi
      have hi' : i < listed.size := hI.size ▸ hi
      simp [hi'] at h0 h1
      rw [h0] at h1; cases h1
  | succ fuel ih =>
    intro listed a w hc hI
    refine ⟨fun hr => fin listed a w (noReady listed hI.size hr) hI, fun i hi => ?_⟩
    obtain ⟨h0, o, ho, hafter⟩ := mem_ready.1 hi
    have hil : i < ops.size := (Array.getElem?_eq_some_iff.1 ho).1
    have hil' : i < listed.size := hI.size ▸ hil
    have h0' : listed.getD i false = false := by simp [hil'] at h0 ⊢; exact h0
    have hopk := hall ho
    simp only [opOk, Bool.and_eq_true] at hopk
    obtain ⟨⟨⟨⟨hk1, hk2⟩, hk3⟩, hk4⟩, hk5⟩ := hopk
    have hdep2 : ∀ p ∈ D.getD i [], waits ops i p.1 = true ∧ dstOf ops p.1 = some p.2 := fun p hp => by
      have := List.all_eq_true.1 hk3 p hp
      simpa using this
    have hdeps : ∀ p ∈ D.getD i [], listed.getD p.1 false = true := fun p hp => waits_of_ready hi p.1 (hdep2 p hp).1
    have hsel : ∀ cs b, o.op ≠ .select cs b := by intro cs b e; rw [e] at hk2; cases hk2
    have hjlt : ∀ j, listed.getD j false = true → j < ops.size := fun j hj => by
      rcases Nat.lt_or_ge j listed.size with h' | h'
      · exact hI.size ▸ h'
      · simp [Array.getElem?_eq_none h'] at hj
    obtain ⟨c, hk, hc1, hc2, hc3⟩ := depsThen_at a _ (D.getD i []) a0 hI.ts.symm (fun p hp => by
      have := hI.fact p.1 (hjlt p.1 (hdeps p hp)) (hdeps p hp)
      simp only [(hdep2 p hp).2] at this
      exact this) (hobs ho w hI.ext (hI.pre i hil h0'))
    -- what the operation looks at stands in 'c' as in 'a'
    have same : ∀ s ∈ o.looksAt ops, c.tmps[s]? = a.tmps[s]? := by
      intro s hs
      refine tmps_ext hc1 ?_
      rw [hc3]
      split
      · rfl
      · rename_i hn
        refine (hI.old s fun j hj => ?_).symm
        have hjl : j < ops.size := by
          unfold dstOf at hj
          rcases Nat.lt_or_ge j ops.size with h' | h'
          · exact h'
          · rw [Array.getElem?_eq_none h'] at hj; cases hj
        have h1 := List.all_eq_true.1 (List.all_eq_true.1 hk5 s hs) j (List.mem_range.2 hjl)
        simp only [Bool.or_eq_true, bne_iff_ne, ne_eq, beq_iff_eq] at h1
        rcases h1 with ((h1 | h1) | h1) | h1
        · exact absurd hj h1
        · exfalso
          rw [List.any_eq_true] at h1
          obtain ⟨p, hp, hpj⟩ := h1
          have hd := (hdep2 p hp).2
          rw [eq_of_beq hpj, hj] at hd
          exact hn ⟨p, hp, (Option.some.inj hd).symm⟩
        · rw [h1]; exact h0'
        · cases hlj : listed.getD j false with
          | false => rfl
          | true => have := hI.down j hlj i h1; rw [h0'] at this; cases this
    have heval : execOp c.eval o = execOp a.eval o := execOp_congr o hsel fun x hx => by
      cases x with
      | tmp t =>
        have := same t (List.mem_append_left _ (List.mem_filterMap.2 ⟨.tmp t, by simpa using hx, rfl⟩))
        simp [Act.eval, this]
      | _ => rfl
    have hwant : Region.wanted o (yielded ops c.tmps) = Region.wanted o (yielded ops a.tmps) := by
      unfold Region.wanted
      cases hg : o.guard with
      | none => rfl
      | some gw =>
        obtain ⟨g, want⟩ := gw
        have hy : yielded ops c.tmps g = yielded ops a.tmps g := by
          unfold yielded
          cases ht : (ops[g]?).bind (·.dst) with
          | none => rfl
          | some t =>
            have := same t (by simp [Oper.looksAt, hg, ht])
            simp [this]
        simp only [hy]
    -- the invariant behind the operation
    have next : ∀ v w', T.R i w w' → T.F i (match o.dst with | some d => (c.put o.dst v).tmps.getD d undef | none => undef) w' →
        wpAny P .any ops Q fuel (listed.setIfInBounds i true) (a.put o.dst v) w' := by
      intro v w' hx hF
      have hdst : dstOf ops i = o.dst := by simp [dstOf, ho]
      refine ih _ _ _ ?_ ⟨by simpa using hI.size, by rw [put_size]; exact hI.ts, by rw [put_defers]; exact hI.df, ?_, ?_, ?_, ?_, hsj i _ _ hx hI.ext⟩
      · have hset : listed.setIfInBounds i true = listed.set i true hil' := by simp [Array.setIfInBounds, hil']
        rw [hset, Array.count_set]
        have : listed[i] = false := by simpa [hil'] using h0'
        simp [this]; omega
      · intro s hs
        have hne : o.dst ≠ some s := fun e => by
          have := hs i (hdst.trans e)
          simp [hil'] at this
        rw [put_getD_ne _ hne]
        refine hI.old s fun j hj => ?_
        by_cases hji : i = j
        · rw [← hji]; exact h0'
        · have := hs j hj
          rwa [getD_set_ne false hji] at this
      · intro j hj hlj
        by_cases hji : i = j
        · subst hji
          rw [hdst]
          cases hd : o.dst with
          | none => simp only [hd] at hF; exact hF
          | some d =>
            simp only [hd] at hF hk1
            simp only [Bool.and_eq_true, decide_eq_true_eq] at hk1
            rw [put_getD_eq _ (by rw [hc1, hI.ts]; exact hk1.1)] at hF
            show T.F i ((a.put (some d) v).tmps.getD d undef) w'
            rw [put_getD_eq _ (by rw [hI.ts]; exact hk1.1)]
            exact hF
        · rw [getD_set_ne false hji] at hlj
          have hfj := hst j i hj hil (fun e => hji e.symm) _ _ _ hx (hI.fact j hj hlj)
          cases hdj : dstOf ops j with
          | none => simp only [hdj] at hfj; exact hfj
          | some d =>
            simp only [hdj] at hfj
            have hne : o.dst ≠ some d := fun e => by
              rw [e] at hk1
              simp only [Bool.and_eq_true] at hk1
              have := List.all_eq_true.1 hk1.2 j (List.mem_range.2 hj)
              simp [hdj, Ne.symm hji] at this
            show T.F j ((a.put o.dst v).tmps.getD d undef) w'
            rw [put_getD_ne _ hne]
            exact hfj
      · intro j hlj k hw
        by_cases hji : i = j
        · subst hji; exact getD_set_true (waits_of_ready hi k hw)
        · rw [getD_set_ne false hji] at hlj
          exact getD_set_true (hI.down j hlj k hw)
      · intro j hj hlj
        by_cases hji : i = j
        · subst hji; simp [hil'] at hlj
        · rw [getD_set_ne false hji] at hlj
          exact hsg j i hj hil (fun e => hji e.symm) _ _ hx (hI.pre j hj hlj)
    -- the operation itself
    unfold wpOp
    rw [ho]
    simp only []
    rw [← hwant]
    simp only [wpList] at hk
    split
    · rename_i hw
      rw [if_pos hw] at hk
      rcases hk with hk | ⟨_, x, y, hxy⟩
      · refine .inl ?_
        unfold Oper.wp at hk ⊢
        rw [heval] at hk
        generalize (execOp a.eval o).run P w = r at *
        cases r with
        | ok n w' =>
          cases n <;> simp only [Oper.upon] at hk ⊢
          case value u => exact next u w' hk.2.1 hk.2.2.2
          case skip => exact next undef w' hk.2.1 hk.2.2.2
          case defer d =>
            have := hk.2.2.1
            rw [put_defers] at this
            exact absurd this (by simp)
          case enter f args =>
            refine Calls.mono hk fun e w'' he => ?_
            cases e with
            | returned u => exact next u w'' he.2.1 he.2.2.2
            | panicked c => exact absurd he.1 (by simp)
            | outgrown => obtain ⟨_, _, h⟩ := he; exact absurd h.1 (by simp)
          case row row args => exact Rows.mono hk fun u w'' he => next u w'' he.2.1 he.2.2.2
        | halt x w' =>
          cases x <;> simp only [Oper.upon] at hk ⊢
          case panic u => exact absurd hk.1 (by simp)
      · exact absurd hxy.1 (by simp)
    · rename_i hw
      rw [if_neg hw] at hk
      exact next undef w hk.2.1 hk.2.2.2


/-! Rows that may turn. -/
/-- A fact, and the rows that may not turn while it is to stay. -/
structure FactB where
  p : Value → World → Prop
  bad : Option Nat → Prop
  st : ∀ row, ¬ bad row → ∀ v w w', w.grownBy w' row → p v w → p v w'
def FactB.any : FactB := ⟨fun _ _ => True, fun _ => False, fun _ _ _ _ _ _ h => h⟩
def FactB.eq (u : Value) : FactB := ⟨fun v _ => v = u, fun _ => False, fun _ _ _ _ _ _ h => h⟩
def FactB.at (f : FactB) (v : Value) : FactB := ⟨fun _ w => f.p v w, f.bad, fun row hb _ w w' hg h => f.st row hb v w w' hg h⟩
/-- A row that lies in memory made from block H on. -/
def FactB.later (H size n : Nat) (xs : List Value) : FactB :=
  ⟨fun v w => Row w size v n xs ∧ ∃ a m c, v = .slice (some a) m c ∧ H ≤ a.block ∧ a.block < w.heap.size, fun row => ∃ k, row = some k ∧ H ≤ k, fun row hb v w w' hg h => by
    obtain ⟨⟨h1, ad, cap, hv, h2, h3, h4, h5, h6⟩, a, m, c, e, hH, hlt⟩ := h
    subst hv
    simp only [Value.slice.injEq] at e
    obtain ⟨rfl, rfl, rfl⟩ := e
    have hblk : w'.heap[a.block]? = w.heap[a.block]? := hg.block _ hlt (fun e => hb ⟨_, e.symm, hH⟩)
    refine ⟨⟨h1, some a, _, rfl, h2, h3, h4, h5, fun j u hj => ?_⟩, a, _, _, rfl, hH, Nat.lt_of_lt_of_le hlt hg.size⟩
    obtain ⟨p, hp, hc⟩ := h6 j u hj
    cases hp
    exact ⟨a, rfl, by rw [← hc]; exact World.cell?_of_block hblk⟩⟩
/-- A row of the call's own that lies apart from another one. -/
def FactB.own (base : Nat) (e : TypeId) (size n : Nat) (xs : List Value) (other : Option Nat) : FactB :=
  ⟨fun v w => w.ownsRow base e size v n xs ∧ ∀ k, v.ownBlock = some k → other ≠ some k, fun row => row ≠ none ∧ row ≠ other, fun row hb v w w' hg h => by
    refine ⟨own_keep h.1 hg fun k hk e => ?_, h.2⟩
    have e2 : row = other := by
      by_cases h' : row = other
      · exact h'
      · exact absurd ⟨(by rw [e]; simp), h'⟩ hb
    exact h.2 k hk (e2 ▸ e)⟩

theorem later_none {H size n : Nat} {xs : List Value} : ¬ (FactB.later H size n xs).bad none := fun ⟨_, e, _⟩ => nomatch e
theorem later_row {H size n : Nat} {xs : List Value} {r : Option Nat} (h : ∀ k, r = some k → k < H) : ¬ (FactB.later H size n xs).bad r := fun ⟨k, e, hk⟩ => absurd (h k e) (Nat.not_lt.2 hk)
theorem own_none' {base : Nat} {e : TypeId} {size n : Nat} {xs : List Value} {other : Option Nat} : ¬ (FactB.own base e size n xs other).bad none := fun h => h.1 rfl
theorem own_other {base : Nat} {e : TypeId} {size n : Nat} {xs : List Value} {other : Option Nat} : ¬ (FactB.own base e size n xs other).bad other := fun h => h.2 rfl
theorem at_calm {f : FactB} {v : Value} {r : Option Nat} (h : ¬ f.bad r) : ¬ (f.at v).bad r := h
/-- What stays: all blocks but the rows named, and those that are new. -/
structure Buts (rows : List (Option Nat)) (w w' : World) : Prop where
  os : w'.os = w.os
  tape : w'.tape = w.tape
  output : w'.output = w.output
  size : w.heap.size ≤ w'.heap.size
  block : ∀ k, k < w.heap.size → some k ∉ rows → w'.heap[k]? = w.heap[k]?
theorem Buts.ext {rows : List (Option Nat)} {w0 w w' : World} (h : Buts rows w w') (hx : Ext w0 w) (hr : ∀ k, some k ∈ rows → w0.heap.size ≤ k) : Ext w0 w' :=
  ⟨h.os.trans hx.os, h.tape.trans hx.tape, h.output.trans hx.output, Nat.le_trans hx.size h.size, fun k hk => (h.block k (Nat.lt_of_lt_of_le hk hx.size) (fun hm => absurd (hr k hm) (by omega))).trans (hx.block k hk)⟩
theorem Buts.cell {rows : List (Option Nat)} {w w' : World} (h : Buts rows w w') {p : Addr} {u : Value} (hc : w.cell? p = some u) (hn : some p.block ∉ rows) : w'.cell? p = some u := by
  rw [← hc]; exact World.cell?_of_block (h.block _ (World.block_lt_of_cell? w p hc) hn)

def plan (rows : List (Option Nat)) (Fs Gs : List FactB) (w0 : World) : Plan where
  F := fun i => (Fs.getD i FactB.any).p
  G := fun i w => (Gs.getD i FactB.any).p undef w
  J := Buts rows w0
  R := fun j w w' => w.grownBy w' (rows.getD j none)

/-- No row that an operation but i turns is bad for the i-th of the facts. -/
def calm (rows : List (Option Nat)) : Nat → List FactB → Prop
  | _, [] => True
  | i, f :: fs => (∀ row ∈ none :: rows.eraseIdx i, ¬ f.bad row) ∧ calm rows (i + 1) fs
theorem calm_get {rows : List (Option Nat)} : ∀ {fs : List FactB} {k : Nat}, calm rows k fs → ∀ i j, k + i ≠ j → ¬ (fs.getD i FactB.any).bad (rows.getD j none)
  | [], _, _, _, _, _ => fun h => h
  | f :: fs, k, h, 0, j, hne => by
    refine h.1 _ ?_
    rw [List.getD_eq_getElem?_getD]
    cases hj : rows[j]? with
    | none => exact List.mem_cons_self ..
    | some r =>
      refine List.mem_cons_of_mem _ ?_
      rw [List.mem_eraseIdx_iff_getElem?]
      exact ⟨j, fun e => hne (by omega), by simpa using hj⟩
  | f :: fs, k, h, i + 1, j, hne => calm_get h.2 i j (by omega)

theorem wp_region_rows {id : Nat} {l : List Oper} (rows : List (Option Nat)) (Fs Gs : List FactB) (D : List (List (Nat × Tmp))) (E : List (Nat × Tmp)) {a0 : Act} {w0 : World} {Q : Exit → Act → World → Prop}
    (hm : P.follows .mixedOrders = true)
    (hok : (opsOk l.toArray a0.tmps.size 0 l D && endOk l.toArray E) = true)
    (hcf : calm rows 0 Fs) (hcg : calm rows 0 Gs) (hg : ∀ f ∈ Gs, f.p undef w0.drew)
    (hob : Obs P l.toArray (plan rows Fs Gs w0) a0 0 l D)
    (hend : ∀ w, Buts rows w0 w → depsThen (plan rows Fs Gs w0).F w E a0 (fun a => Q .normal a w)) :
    (Code.region id l.toArray true).wp P Q a0 w0 := by
  simp only [Bool.and_eq_true] at hok
  refine wp_region_any hm (region_any (T := plan rows Fs Gs w0) (D := D) (E := E) (by simpa using hok.1) hok.2 (fun i j _ _ hij v w w' hx h => ?_) (fun i j _ _ hij w w' hx h => ?_) (fun j w w' hx h => ?_) (by simpa using hob) hend _ _ _ _ ?_ ?_)
  · exact (Fs.getD i FactB.any).st _ (calm_get hcf i j (by omega)) v w w' hx h
  · exact (Gs.getD i FactB.any).st _ (calm_get hcg i j (by omega)) undef w w' hx h
  · have hx : w.grownBy w' (rows.getD j none) := hx
    refine ⟨hx.os.trans h.os, hx.tape.trans h.tape, hx.output.trans h.output, Nat.le_trans h.size hx.size, fun k hk hn => (hx.block k (Nat.lt_of_lt_of_le hk h.size) (fun e => ?_)).trans (h.block k hk hn)⟩
    rw [List.getD_eq_getElem?_getD] at e
    cases hj : rows[j]? with
    | none => rw [hj] at e; cases e
    | some r => rw [hj] at e; exact hn (e ▸ List.mem_of_getElem? hj)
  · simp
  · have hno : ∀ j, (Array.replicate l.toArray.size false).getD j false = false := fun j => by
      simp only [Array.getD_eq_getD_getElem?, Array.getElem?_replicate]; split <;> rfl
    refine ⟨by simp, rfl, rfl, fun _ _ => rfl, fun j _ h => (by rw [hno] at h; cases h), fun j h => (by rw [hno] at h; cases h), fun j _ _ => ?_, ⟨rfl, rfl, rfl, Nat.le_refl _, fun _ _ _ => rfl⟩⟩
    show (Gs.getD j FactB.any).p undef w0.drew
    rw [List.getD_eq_getElem?_getD]
    cases hj : Gs[j]? with
    | none => trivial
    | some f => exact hg f (List.mem_of_getElem? hj)

/-- An operation that only makes memory. -/
theorem grew_of {w w' : World} (h : Ext w w') : w.grownBy w' none := ⟨h.os, h.tape, h.output, h.size, fun k hk _ => h.block k hk⟩

/-- What an operation comes to by the rule of facts (K1), it comes to here. -/
theorem lift {R : World → World → Prop} {F : Value → World → Prop} {ops : Array Oper} {o : Oper} {a : Act} {w : World} (hR : ∀ w w', Ext w w' → R w w')
    (h : wpList P ops (Go.Proofs.YtdfnfmanpdafpaaDoor.endQ F o a w) [o] a w) : wpList P ops (endQ R F o a w) [o] a w := by
  simp only [wpList] at h ⊢
  split
  · rename_i hw
    rw [if_pos hw] at h
    rcases h with h | ⟨_, x, y, hxy⟩
    · refine .inl ?_
      unfold Oper.wp at h ⊢
      generalize (execOp a.eval o).run P w = r at *
      cases r with
      | ok n w' =>
        cases n <;> simp only [Oper.upon] at h ⊢
        case value u => exact ⟨h.1, hR _ _ h.2.1, h.2.2⟩
        case skip => exact ⟨h.1, hR _ _ h.2.1, h.2.2⟩
        case defer d => exact ⟨h.1, hR _ _ h.2.1, h.2.2⟩
        case enter f args =>
          refine Calls.mono h fun e w'' he => ?_
          cases e with
          | returned u => exact ⟨he.1, hR _ _ he.2.1, he.2.2⟩
          | panicked c => exact absurd he.1 (by simp)
          | outgrown => obtain ⟨_, _, h⟩ := he; exact absurd h.1 (by simp)
        case row row args => exact Rows.mono h fun u w'' he => ⟨he.1, hR _ _ he.2.1, he.2.2⟩
      | halt x w' =>
        cases x <;> simp only [Oper.upon] at h ⊢
        case panic u => exact absurd h.1 (by simp)
    · exact absurd hxy.1 (by simp)
  · rename_i hw
    rw [if_neg hw] at h
    exact ⟨h.1, hR _ _ h.2.1, h.2.2⟩
end
end Go.Proofs.YtdfnfmanpdafpaaDoor.Rr
