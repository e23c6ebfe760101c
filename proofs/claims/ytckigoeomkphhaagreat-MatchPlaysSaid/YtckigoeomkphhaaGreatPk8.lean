/- The rule for a region that draws its order (K1's, turned), where each operation may turn one row of memory of its own: append beside append.
A region that draws its order and ends in a chain: what stands ahead by facts (K1), the chain's operations walked as they stand.
The rule of rows (K12) where the region ends in a chain (K7).
A row of the call's own that turned in a region, and where it lies now. (Of any program.)
slices.SortFunc, pdqsortCmpFunc, Clone, bits.Len at this dump, laid by the kit's lay-plain.
slices.Clone at values and at constraints.
A row of the call's own, sorted: the sort's words (at structs) and the row's.
slices.SortFunc at values. -/
import Derived.Maps.AppendAt
import Derived.Shelf.SlSortCmp.NoneTotal
import Derived.Shelf.SlSortCmp.SmallK
import Derived.Shelf.SlicesE.Clone
import Derived.Shelf.Small.Bits
import Derived.Test.YtckigoeomkphhaaGreatProg
import Derived.Shelf.SlSortCmp.PivotK
import Derived.Sort.OwnSorted
import Derived.Test.YtckigoeomkphhaaGreatPk2
import Derived.Test.YtckigoeomkphhaaGreatPk1
import Derived.Test.YtckigoeomkphhaaGreatPk6
import Derived.Test.YtckigoeomkphhaaGreatPk3
namespace Go.Proofs.YtckigoeomkphhaaGreat.Rr
open Go.RowKit

section
variable {P : Program}

def endQ (R : World → World → Prop) (F : Value → World → Prop) (o : Oper) (a : Act) (w : World) : Exit → Act → World → Prop :=
  fun e a' w' => e = .normal ∧ R w w' ∧ a'.defers = a.defers ∧ F (match o.dst with | some d => a'.tmps.getD d undef | none => undef) w'

/-- F: what an operation leaves; G: what it wants and no other one takes away; J: what stays; R: how it may turn memory. -/
structure Plan where
  F : Nat → Value → World → Prop
  G : Nat → World → Prop
  J : World → Prop
  R : Nat → World → World → Prop

def Ob (P : Program) (ops : Array Oper) (T : Plan) (a0 : Act) (i : Nat) (o : Oper) (D : List (Nat × Tmp)) : Prop :=
  ∀ w, T.J w → T.G i w → depsThen T.F w D a0 (fun a => wpList P ops (endQ (T.R i) (T.F i) o a w) [o] a w)

def Obs (P : Program) (ops : Array Oper) (T : Plan) (a0 : Act) : Nat → List Oper → List (List (Nat × Tmp)) → Prop
  | _, [], _ => True
  | i, o :: os, D => Ob P ops T a0 i o (D.headD []) ∧ Obs P ops T a0 (i + 1) os D.tail

theorem Obs_get {ops : Array Oper} {T : Plan} {a0 : Act} : ∀ {l : List Oper} {k : Nat} {D : List (List (Nat × Tmp))}, Obs P ops T a0 k l D →
    ∀ i o, l[i]? = some o → Ob P ops T a0 (k + i) o (D.getD i [])
  | [], _, _, _, _, _, h => by simp at h
  | o :: os, k, D, hb, i, o', h => by
    simp only [Obs] at hb
    cases i with
    | zero => simp at h; subst h; cases D <;> simpa using hb.1
    | succ i =>
      have := Obs_get hb.2 i o' (by simpa using h)
      cases D <;> simpa [Nat.add_assoc, Nat.add_comm 1 i] using this

structure Inv (ops : Array Oper) (T : Plan) (a0 : Act) (listed : Array Bool) (a : Act) (w : World) : Prop where
  size : listed.size = ops.size
  ts : a.tmps.size = a0.tmps.size
  df : a.defers = a0.defers
  old : ∀ s, (∀ j, dstOf ops j = some s → listed.getD j false = false) → a.tmps.getD s undef = a0.tmps.getD s undef
  fact : ∀ j, j < ops.size → listed.getD j false = true → T.F j (match dstOf ops j with | some d => a.tmps.getD d undef | none => undef) w
  down : ∀ j, listed.getD j false = true → ∀ i, waits ops j i = true → listed.getD i false = true
  pre : ∀ j, j < ops.size → listed.getD j false = false → T.G j w
  ext : T.J w

theorem region_any {ops : Array Oper} {T : Plan} {a0 : Act} {D : List (List (Nat × Tmp))} {E : List (Nat × Tmp)} {Q : Exit → Act → World → Prop}
    (hok : opsOk ops a0.tmps.size 0 ops.toList D = true) (hE : endOk ops E = true)
    (hst : ∀ i j, i < ops.size → j < ops.size → i ≠ j → ∀ v w w', T.R j w w' → T.F i v w → T.F i v w')
    (hsg : ∀ i j, i < ops.size → j < ops.size → i ≠ j → ∀ w w', T.R j w w' → T.G i w → T.G i w')
    (hsj : ∀ j w w', T.R j w w' → T.J w → T.J w')
    (hob : Obs P ops T a0 0 ops.toList D)
    (hend : ∀ w, T.J w → depsThen T.F w E a0 (fun a => Q .normal a w)) :
    ∀ (fuel : Nat) (listed : Array Bool) (a : Act) (w : World), listed.count false = fuel → Inv ops T a0 listed a w → wpAny P .any ops Q fuel listed a w := by
  have hall : ∀ {i o}, ops[i]? = some o → opOk ops a0.tmps.size i o (D.getD i []) = true := fun {i o} h => by
    have := opsOk_get hok i o (by simpa using h); simpa using this
  have hobs : ∀ {i o}, ops[i]? = some o → Ob P ops T a0 i o (D.getD i []) := fun {i o} h => by
    have := Obs_get hob i o (by simpa using h); simpa using this
  -- all that are listed: the end
  have fin : ∀ (listed : Array Bool) (a : Act) (w : World), (∀ j, j < ops.size → listed.getD j false = true) → Inv ops T a0 listed a w → Q .normal a w := by
    intro listed a w hl hI
    simp only [endOk, Bool.and_eq_true] at hE
    have hdl : ∀ {j d}, dstOf ops j = some d → j < ops.size := fun {j d} hj => by
      unfold dstOf at hj
      rcases Nat.lt_or_ge j ops.size with h' | h'
      · exact h'
      · rw [Array.getElem?_eq_none h'] at hj; cases hj
    obtain ⟨c, hk, hc1, hc2, hc3⟩ := depsThen_at a _ E a0 hI.ts.symm (fun p hp => by
      have hd : dstOf ops p.1 = some p.2 := by simpa using List.all_eq_true.1 hE.1 p hp
      have := hI.fact p.1 (hdl hd) (hl p.1 (hdl hd))
      simp only [hd] at this
      exact this) (hend w hI.ext)
    have : c = a := by
      obtain ⟨ct, cd⟩ := c
      obtain ⟨at', ad⟩ := a
      have e2 : cd = ad := hc2.trans hI.df.symm
      have e1 : ct = at' := by
        apply Array.ext_getElem?
        intro s
        refine tmps_ext (a := ⟨ct, cd⟩) (b := ⟨at', ad⟩) hc1 ?_
        rw [hc3]
        split
        · rfl
        · rename_i hn
          refine (hI.old s fun j hj => ?_).symm
          exfalso
          have h2 := List.all_eq_true.1 hE.2 j (List.mem_range.2 (hdl hj))
          simp only [hj, List.any_eq_true, beq_iff_eq] at h2
          obtain ⟨p, hp, hpj⟩ := h2
          have hd : dstOf ops p.1 = some p.2 := by simpa using List.all_eq_true.1 hE.1 p hp
          rw [hpj, hj] at hd
          exact hn ⟨p, hp, (Option.some.inj hd).symm⟩
      rw [e1, e2]
    rw [← this]; exact hk
  -- nothing ready: all are listed
  have noReady : ∀ (listed : Array Bool), listed.size = ops.size → Region.ready .any ops listed = [] → ∀ j, j < ops.size → listed.getD j false = true := by
    intro listed hs hr j
    induction j using Nat.strongRecOn with
    | _ j ih =>
      intro hj
      cases hlj : listed.getD j false with
      | true => rfl
      | false =>
        exfalso
        have ho : ops[j]? = some ops[j] := by simp [hj]
        have hmem : j ∈ Region.ready .any ops listed := by
          refine mem_ready.2 ⟨?_, ops[j], ho, fun e he hb => ?_⟩
          · have : j < listed.size := hs ▸ hj
            simp [this] at hlj ⊢; exact hlj
          · have h1 := hall ho
            simp only [opOk, Bool.and_eq_true] at h1
            have h2 := (Array.all_eq_true_iff_forall_mem.1 h1.1.2) e he
            simp [hb] at h2
            exact ih e.on h2 (by omega)
        rw [hr] at hmem
        cases hmem
  intro fuel
  induction fuel with
  | zero =>
    intro listed a w hc hI
    have hl : ∀ j, j < ops.size → listed.getD j false = true := by
      intro j hj
      have hj' : j < listed.size := hI.size ▸ hj
      have := Array.count_eq_zero.1 hc
      have h2 : listed[j] ≠ false := fun e => this (e ▸ Array.getElem_mem hj')
      simp [hj']; simpa using h2
    refine ⟨?_, fin listed a w hl hI⟩
    cases hr : Region.ready .any ops listed with
    | nil => rfl
    | cons i rs =>
      have hm : i ∈ Region.ready .any ops listed := by rw [hr]; exact List.mem_cons_self
      obtain ⟨h0, o, ho, _⟩ := mem_ready.1 hm
      have hi : i < ops.size := (Array.getElem?_eq_some_iff.1 ho).1
      have h1 := hl i hi
      have hi' : i < listed.size := hI.size ▸ hi
      simp [hi'] at h0 h1
      rw [h0] at h1; cases h1
  | succ fuel ih =>
    intro listed a w hc hI
    refine ⟨fun hr => fin listed a w (noReady listed hI.size hr) hI, fun i hi => ?_⟩
    obtain ⟨h0, o, ho, hafter⟩ := mem_ready.1 hi
    have hil : i < ops.size := (Array.getElem?_eq_some_iff.1 ho).1
    have hil' : i < listed.size := hI.size ▸ hil
    have h0' : listed.getD i false = false := by simp [hil'] at h0 ⊢; exact h0
    have hopk := hall ho
    simp only [opOk, Bool.and_eq_true] at hopk
    obtain ⟨⟨⟨⟨hk1, hk2⟩, hk3⟩, hk4⟩, hk5⟩ := hopk
    have hdep2 : ∀ p ∈ D.getD i [], waits ops i p.1 = true ∧ dstOf ops p.1 = some p.2 := fun p hp => by
      have := List.all_eq_true.1 hk3 p hp
      simpa using this
    have hdeps : ∀ p ∈ D.getD i [], listed.getD p.1 false = true := fun p hp => waits_of_ready hi p.1 (hdep2 p hp).1
    have hsel : ∀ cs b, o.op ≠ .select cs b := by intro cs b e; rw [e] at hk2; cases hk2
    have hjlt : ∀ j, listed.getD j false = true → j < ops.size := fun j hj => by
      rcases Nat.lt_or_ge j listed.size with h' | h'
      · exact hI.size ▸ h'
      · simp [Array.getElem?_eq_none h'] at hj
    obtain ⟨c, hk, hc1, hc2, hc3⟩ := depsThen_at a _ (D.getD i []) a0 hI.ts.symm (fun p hp => by
      have := hI.fact p.1 (hjlt p.1 (hdeps p hp)) (hdeps p hp)
      simp only [(hdep2 p hp).2] at this
      exact this) (hobs ho w hI.ext (hI.pre i hil h0'))
    -- what the operation looks at stands in 'c' as in 'a'
    have same : ∀ s ∈ o.looksAt ops, c.tmps[s]? = a.tmps[s]? := by
      intro s hs
      refine tmps_ext hc1 ?_
      rw [hc3]
      split
      · rfl
      · rename_i hn
        refine (hI.old s fun j hj => ?_).symm
        have hjl : j < ops.size := by
          unfold dstOf at hj
          rcases Nat.lt_or_ge j ops.size with h' | h'
          · exact h'
          · rw [Array.getElem?_eq_none h'] at hj; cases hj
        have h1 := List.all_eq_true.1 (List.all_eq_true.1 hk5 s hs) j (List.mem_range.2 hjl)
        simp only [Bool.or_eq_true, bne_iff_ne, ne_eq, beq_iff_eq] at h1
        rcases h1 with ((h1 | h1) | h1) | h1
        · exact absurd hj h1
        · exfalso
          rw [List.any_eq_true] at h1
          obtain ⟨p, hp, hpj⟩ := h1
          have hd := (hdep2 p hp).2
          rw [eq_of_beq hpj, hj] at hd
          exact hn ⟨p, hp, (Option.some.inj hd).symm⟩
        · rw [h1]; exact h0'
        · cases hlj : listed.getD j false with
          | false => rfl
          | true => have := hI.down j hlj i h1; rw [h0'] at this; cases this
    have heval : execOp c.eval o = execOp a.eval o := execOp_congr o hsel fun x hx => by
      cases x with
      | tmp t =>
        have := same t (List.mem_append_left _ (List.mem_filterMap.2 ⟨.tmp t, by simpa using hx, rfl⟩))
        simp [Act.eval, this]
      | _ => rfl
    have hwant : Region.wanted o (yielded ops c.tmps) = Region.wanted o (yielded ops a.tmps) := by
      unfold Region.wanted
      cases hg : o.guard with
      | none => rfl
      | some gw =>
        obtain ⟨g, want⟩ := gw
        have hy : yielded ops c.tmps g = yielded ops a.tmps g := by
          unfold yielded
          cases ht : (ops[g]?).bind (·.dst) with
          | none => rfl
          | some t =>
            have := same t (by simp [Oper.looksAt, hg, ht])
            simp [this]
        simp only [hy]
    -- the invariant behind the operation
    have next : ∀ v w', T.R i w w' → T.F i (match o.dst with | some d => (c.put o.dst v).tmps.getD d undef | none => undef) w' →
        wpAny P .any ops Q fuel (listed.setIfInBounds i true) (a.put o.dst v) w' := by
      intro v w' hx hF
      have hdst : dstOf ops i = o.dst := by simp [dstOf, ho]
      refine ih _ _ _ ?_ ⟨by simpa using hI.size, by rw [put_size]; exact hI.ts, by rw [put_defers]; exact hI.df, ?_, ?_, ?_, ?_, hsj i _ _ hx hI.ext⟩
      · have hset : listed.setIfInBounds i true = listed.set i true hil' := by simp [Array.setIfInBounds, hil']
        rw [hset, Array.count_set]
        have : listed[i] = false := by simpa [hil'] using h0'
        simp [this]; omega
      · intro s hs
        have hne : o.dst ≠ some s := fun e => by
          have := hs i (hdst.trans e)
          simp [hil'] at this
        rw [put_getD_ne _ hne]
        refine hI.old s fun j hj => ?_
        by_cases hji : i = j
        · rw [← hji]; exact h0'
        · have := hs j hj
          rwa [getD_set_ne false hji] at this
      · intro j hj hlj
        by_cases hji : i = j
        · subst hji
          rw [hdst]
          cases hd : o.dst with
          | none => simp only [hd] at hF; exact hF
          | some d =>
            simp only [hd] at hF hk1
            simp only [Bool.and_eq_true, decide_eq_true_eq] at hk1
            rw [put_getD_eq _ (by rw [hc1, hI.ts]; exact hk1.1)] at hF
            show T.F i ((a.put (some d) v).tmps.getD d undef) w'
            rw [put_getD_eq _ (by rw [hI.ts]; exact hk1.1)]
            exact hF
        · rw [getD_set_ne false hji] at hlj
          have hfj := hst j i hj hil (fun e => hji e.symm) _ _ _ hx (hI.fact j hj hlj)
          cases hdj : dstOf ops j with
          | none => simp only [hdj] at hfj; exact hfj
          | some d =>
            simp only [hdj] at hfj
            have hne : o.dst ≠ some d := fun e => by
              rw [e] at hk1
              simp only [Bool.and_eq_true] at hk1
              have := List.all_eq_true.1 hk1.2 j (List.mem_range.2 hj)
              simp [hdj, Ne.symm hji] at this
            show T.F j ((a.put o.dst v).tmps.getD d undef) w'
            rw [put_getD_ne _ hne]
            exact hfj
      · intro j hlj k hw
        by_cases hji : i = j
        · subst hji; exact getD_set_true (waits_of_ready hi k hw)
        · rw [getD_set_ne false hji] at hlj
          exact getD_set_true (hI.down j hlj k hw)
      · intro j hj hlj
        by_cases hji : i = j
        · subst hji; simp [hil'] at hlj
        · rw [getD_set_ne false hji] at hlj
          exact hsg j i hj hil (fun e => hji e.symm) _ _ hx (hI.pre j hj hlj)
    -- the operation itself
    unfold wpOp
    rw [ho]
    simp only []
    rw [← hwant]
    simp only [wpList] at hk
    split
    · rename_i hw
      rw [if_pos hw] at hk
      rcases hk with hk | ⟨_, x, y, hxy⟩
      · refine .inl ?_
        unfold Oper.wp at hk ⊢
        rw [heval] at hk
        generalize (execOp a.eval o).run P w = r at *
        cases r with
        | ok n w' =>
          cases n <;> simp only [Oper.upon] at hk ⊢
          case value u => exact next u w' hk.2.1 hk.2.2.2
          case skip => exact next undef w' hk.2.1 hk.2.2.2
          case defer d =>
            have := hk.2.2.1
            rw [put_defers] at this
            exact absurd this (by simp)
          case enter f args =>
            refine Calls.mono hk fun e w'' he => ?_
            cases e with
            | returned u => exact next u w'' he.2.1 he.2.2.2
            | panicked c => exact absurd he.1 (by simp)
            | outgrown => obtain ⟨_, _, h⟩ := he; exact absurd h.1 (by simp)
          case row row args => exact Rows.mono hk fun u w'' he => next u w'' he.2.1 he.2.2.2
        | halt x w' =>
          cases x <;> simp only [Oper.upon] at hk ⊢
          case panic u => exact absurd hk.1 (by simp)
      · exact absurd hxy.1 (by simp)
    · rename_i hw
      rw [if_neg hw] at hk
      exact next undef w hk.2.1 hk.2.2.2


/-! Rows that may turn. -/
/-- A fact, and the rows that may not turn while it is to stay. -/
structure FactB where
  p : Value → World → Prop
  bad : Option Nat → Prop
  st : ∀ row, ¬ bad row → ∀ v w w', w.grownBy w' row → p v w → p v w'
def FactB.any : FactB := ⟨fun _ _ => True, fun _ => False, fun _ _ _ _ _ _ h => h⟩
def FactB.eq (u : Value) : FactB := ⟨fun v _ => v = u, fun _ => False, fun _ _ _ _ _ _ h => h⟩
def FactB.at (f : FactB) (v : Value) : FactB := ⟨fun _ w => f.p v w, f.bad, fun row hb _ w w' hg h => f.st row hb v w w' hg h⟩
/-- A row that lies in memory made from block H on. -/
def FactB.later (H size n : Nat) (xs : List Value) : FactB :=
  ⟨fun v w => Row w size v n xs ∧ ∃ a m c, v = .slice (some a) m c ∧ H ≤ a.block ∧ a.block < w.heap.size, fun row => ∃ k, row = some k ∧ H ≤ k, fun row hb v w w' hg h => by
    obtain ⟨⟨h1, ad, cap, hv, h2, h3, h4, h5, h6⟩, a, m, c, e, hH, hlt⟩ := h
    subst hv
    simp only [Value.slice.injEq] at e
    obtain ⟨rfl, rfl, rfl⟩ := e
    have hblk : w'.heap[a.block]? = w.heap[a.block]? := hg.block _ hlt (fun e => hb ⟨_, e.symm, hH⟩)
    refine ⟨⟨h1, some a, _, rfl, h2, h3, h4, h5, fun j u hj => ?_⟩, a, _, _, rfl, hH, Nat.lt_of_lt_of_le hlt hg.size⟩
    obtain ⟨p, hp, hc⟩ := h6 j u hj
    cases hp
    exact ⟨a, rfl, by rw [← hc]; exact World.cell?_of_block hblk⟩⟩
/-- A row of the call's own that lies apart from another one. -/
def FactB.own (base : Nat) (e : TypeId) (size n : Nat) (xs : List Value) (other : Option Nat) : FactB :=
  ⟨fun v w => w.ownsRow base e size v n xs ∧ ∀ k, v.ownBlock = some k → other ≠ some k, fun row => row ≠ none ∧ row ≠ other, fun row hb v w w' hg h => by
    refine ⟨own_keep h.1 hg fun k hk e => ?_, h.2⟩
    have e2 : row = other := by
      by_cases h' : row = other
      · exact h'
      · exact absurd ⟨(by rw [e]; simp), h'⟩ hb
    exact h.2 k hk (e2 ▸ e)⟩

theorem later_none {H size n : Nat} {xs : List Value} : ¬ (FactB.later H size n xs).bad none := fun ⟨_, e, _⟩ => nomatch e
theorem later_row {H size n : Nat} {xs : List Value} {r : Option Nat} (h : ∀ k, r = some k → k < H) : ¬ (FactB.later H size n xs).bad r := fun ⟨k, e, hk⟩ => absurd (h k e) (Nat.not_lt.2 hk)
theorem own_none' {base : Nat} {e : TypeId} {size n : Nat} {xs : List Value} {other : Option Nat} : ¬ (FactB.own base e size n xs other).bad none := fun h => h.1 rfl
theorem own_other {base : Nat} {e : TypeId} {size n : Nat} {xs : List Value} {other : Option Nat} : ¬ (FactB.own base e size n xs other).bad other := fun h => h.2 rfl
theorem at_calm {f : FactB} {v : Value} {r : Option Nat} (h : ¬ f.bad r) : ¬ (f.at v).bad r := h
/-- What stays: all blocks but the rows named, and those that are new. -/
structure Buts (rows : List (Option Nat)) (w w' : World) : Prop where
  os : w'.os = w.os
  tape : w'.tape = w.tape
  output : w'.output = w.output
  size : w.heap.size ≤ w'.heap.size
  block : ∀ k, k < w.heap.size → some k ∉ rows → w'.heap[k]? = w.heap[k]?
theorem Buts.ext {rows : List (Option Nat)} {w0 w w' : World} (h : Buts rows w w') (hx : Ext w0 w) (hr : ∀ k, some k ∈ rows → w0.heap.size ≤ k) : Ext w0 w' :=
  ⟨h.os.trans hx.os, h.tape.trans hx.tape, h.output.trans hx.output, Nat.le_trans hx.size h.size, fun k hk => (h.block k (Nat.lt_of_lt_of_le hk hx.size) (fun hm => absurd (hr k hm) (by omega))).trans (hx.block k hk)⟩
theorem Buts.cell {rows : List (Option Nat)} {w w' : World} (h : Buts rows w w') {p : Addr} {u : Value} (hc : w.cell? p = some u) (hn : some p.block ∉ rows) : w'.cell? p = some u := by
  rw [← hc]; exact World.cell?_of_block (h.block _ (World.block_lt_of_cell? w p hc) hn)

def plan (rows : List (Option Nat)) (Fs Gs : List FactB) (w0 : World) : Plan where
  F := fun i => (Fs.getD i FactB.any).p
  G := fun i w => (Gs.getD i FactB.any).p undef w
  J := Buts rows w0
  R := fun j w w' => w.grownBy w' (rows.getD j none)

/-- No row that an operation but i turns is bad for the i-th of the facts. -/
def calm (rows : List (Option Nat)) : Nat → List FactB → Prop
  | _, [] => True
  | i, f :: fs => (∀ row ∈ none :: rows.eraseIdx i, ¬ f.bad row) ∧ calm rows (i + 1) fs
theorem calm_get {rows : List (Option Nat)} : ∀ {fs : List FactB} {k : Nat}, calm rows k fs → ∀ i j, k + i ≠ j → ¬ (fs.getD i FactB.any).bad (rows.getD j none)
  | [], _, _, _, _, _ => fun h => h
  | f :: fs, k, h, 0, j, hne => by
    refine h.1 _ ?_
    rw [List.getD_eq_getElem?_getD]
    cases hj : rows[j]? with
    | none => exact List.mem_cons_self ..
    | some r =>
      refine List.mem_cons_of_mem _ ?_
      rw [List.mem_eraseIdx_iff_getElem?]
      exact ⟨j, fun e => hne (by omega), by simpa using hj⟩
  | f :: fs, k, h, i + 1, j, hne => calm_get h.2 i j (by omega)

theorem wp_region_rows {id : Nat} {l : List Oper} (rows : List (Option Nat)) (Fs Gs : List FactB) (D : List (List (Nat × Tmp))) (E : List (Nat × Tmp)) {a0 : Act} {w0 : World} {Q : Exit → Act → World → Prop}
    (hm : P.follows .mixedOrders = true)
    (hok : (opsOk l.toArray a0.tmps.size 0 l D && endOk l.toArray E) = true)
    (hcf : calm rows 0 Fs) (hcg : calm rows 0 Gs) (hg : ∀ f ∈ Gs, f.p undef w0.drew)
    (hob : Obs P l.toArray (plan rows Fs Gs w0) a0 0 l D)
    (hend : ∀ w, Buts rows w0 w → depsThen (plan rows Fs Gs w0).F w E a0 (fun a => Q .normal a w)) :
    (Code.region id l.toArray true).wp P Q a0 w0 := by
  simp only [Bool.and_eq_true] at hok
  refine wp_region_any hm (region_any (T := plan rows Fs Gs w0) (D := D) (E := E) (by simpa using hok.1) hok.2 (fun i j _ _ hij v w w' hx h => ?_) (fun i j _ _ hij w w' hx h => ?_) (fun j w w' hx h => ?_) (by simpa using hob) hend _ _ _ _ ?_ ?_)
  · exact (Fs.getD i FactB.any).st _ (calm_get hcf i j (by omega)) v w w' hx h
  · exact (Gs.getD i FactB.any).st _ (calm_get hcg i j (by omega)) undef w w' hx h
  · have hx : w.grownBy w' (rows.getD j none) := hx
    refine ⟨hx.os.trans h.os, hx.tape.trans h.tape, hx.output.trans h.output, Nat.le_trans h.size hx.size, fun k hk hn => (hx.block k (Nat.lt_of_lt_of_le hk h.size) (fun e => ?_)).trans (h.block k hk hn)⟩
    rw [List.getD_eq_getElem?_getD] at e
    cases hj : rows[j]? with
    | none => rw [hj] at e; cases e
    | some r => rw [hj] at e; exact hn (e ▸ List.mem_of_getElem? hj)
  · simp
  · have hno : ∀ j, (Array.replicate l.toArray.size false).getD j false = false := fun j => by
      simp only [Array.getD_eq_getD_getElem?, Array.getElem?_replicate]; split <;> rfl
    refine ⟨by simp, rfl, rfl, fun _ _ => rfl, fun j _ h => (by rw [hno] at h; cases h), fun j h => (by rw [hno] at h; cases h), fun j _ _ => ?_, ⟨rfl, rfl, rfl, Nat.le_refl _, fun _ _ _ => rfl⟩⟩
    show (Gs.getD j FactB.any).p undef w0.drew
    rw [List.getD_eq_getElem?_getD]
    cases hj : Gs[j]? with
    | none => trivial
    | some f => exact hg f (List.mem_of_getElem? hj)

/-- An operation that only makes memory. -/
theorem grew_of {w w' : World} (h : Ext w w') : w.grownBy w' none := ⟨h.os, h.tape, h.output, h.size, fun k hk _ => h.block k hk⟩

/-- What an operation comes to by the rule of facts (K1), it comes to here. -/
theorem lift {R : World → World → Prop} {F : Value → World → Prop} {ops : Array Oper} {o : Oper} {a : Act} {w : World} (hR : ∀ w w', Ext w w' → R w w')
    (h : wpList P ops (Go.Proofs.YtckigoeomkphhaaGreat.endQ F o a w) [o] a w) : wpList P ops (endQ R F o a w) [o] a w := by
  simp only [wpList] at h ⊢
  split
  · rename_i hw
    rw [if_pos hw] at h
    rcases h with h | ⟨_, x, y, hxy⟩
    · refine .inl ?_
      unfold Oper.wp at h ⊢
      generalize (execOp a.eval o).run P w = r at *
      cases r with
      | ok n w' =>
        cases n <;> simp only [Oper.upon] at h ⊢
        case value u => exact ⟨h.1, hR _ _ h.2.1, h.2.2⟩
        case skip => exact ⟨h.1, hR _ _ h.2.1, h.2.2⟩
        case defer d => exact ⟨h.1, hR _ _ h.2.1, h.2.2⟩
        case enter f args =>
          refine Calls.mono h fun e w'' he => ?_
          cases e with
          | returned u => exact ⟨he.1, hR _ _ he.2.1, he.2.2⟩
          | panicked c => exact absurd he.1 (by simp)
          | outgrown => obtain ⟨_, _, h⟩ := he; exact absurd h.1 (by simp)
        case row row args => exact Rows.mono h fun u w'' he => ⟨he.1, hR _ _ he.2.1, he.2.2⟩
      | halt x w' =>
        cases x <;> simp only [Oper.upon] at h ⊢
        case panic u => exact absurd h.1 (by simp)
    · exact absurd hxy.1 (by simp)
  · rename_i hw
    rw [if_neg hw] at h
    exact ⟨h.1, hR _ _ h.2.1, h.2.2⟩
end
end Go.Proofs.YtckigoeomkphhaaGreat.Rr

namespace Go.Proofs.YtckigoeomkphhaaGreat
open Go.RowKit

section
variable {P : Program}

/-- From m on each operation waits for all ahead of it, by way of others. -/
def chainOk (ops : Array Oper) (m : Nat) : Bool :=
  (List.range ops.size).all fun i => i < m || (List.range i).all fun j => (List.range (i + 1)).any fun k => decide (j < k) && waits ops k j

theorem chain_reach {ops : Array Oper} {m : Nat} (hc : chainOk ops m = true) {listed : Array Bool}
    (down : ∀ j, listed.getD j false = true → ∀ i, waits ops j i = true → listed.getD i false = true)
    {i : Nat} (hi : i < ops.size) (him : m ≤ i) (hd : ∀ j, waits ops i j = true → listed.getD j false = true) : ∀ j, j < i → listed.getD j false = true := by
  have h1 := List.all_eq_true.1 hc i (List.mem_range.2 hi)
  simp only [Bool.or_eq_true, decide_eq_true_eq] at h1
  have h2 := List.all_eq_true.1 (h1.resolve_left (by omega))
  have key : ∀ d j, i - j = d → j < i → listed.getD j false = true := by
    intro d
    induction d using Nat.strongRecOn with
    | _ d ih =>
      intro j hd' hj
      obtain ⟨k, hk, hk2⟩ := List.any_eq_true.1 (h2 j (List.mem_range.2 hj))
      simp only [Bool.and_eq_true, decide_eq_true_eq] at hk2
      have hki := List.mem_range.1 hk
      by_cases he : k = i
      · subst he; exact hd j hk2.2
      · exact down k (ih (i - k) (by omega) k rfl (by omega)) j hk2.2
  intro j hj
  exact key _ j rfl hj

/-- Behind the facts: the chain. -/
theorem chain_any {ops : Array Oper} {m : Nat} (hc : chainOk ops m = true) (hord : ∀ i o, ops[i]? = some o → ∀ e ∈ o.after, Region.binds .any e = true → e.on < i) {Q : Exit → Act → World → Prop} :
    ∀ (fuel i : Nat) (listed : Array Bool) (a : Act) (w : World), m ≤ i → i + fuel = ops.size → listed.size = ops.size →
      (∀ j, j < i → listed.getD j false = true) → (∀ j, i ≤ j → listed.getD j false = false) →
      (∀ j, listed.getD j false = true → ∀ i, waits ops j i = true → listed.getD i false = true) →
      wpList P ops Q (ops.toList.drop i) a w → wpAny P .any ops Q fuel listed a w := by
  intro fuel
  induction fuel with
  | zero =>
    intro i listed a w hmi hf hs hl hn hdn h
    have e : ops.toList.drop i = [] := List.drop_eq_nil_of_le (by simp; omega)
    rw [e] at h
    refine ⟨?_, h⟩
    cases hr : Region.ready .any ops listed with
    | nil => rfl
    | cons k ks =>
      have hm : k ∈ Region.ready .any ops listed := by rw [hr]; exact List.mem_cons_self
      obtain ⟨h0, o, ho, _⟩ := mem_ready.1 hm
      have hk : k < ops.size := (Array.getElem?_eq_some_iff.1 ho).1
      have h1 := hl k (by omega)
      have hk' : k < listed.size := by omega
      simp [hk'] at h0 h1
      rw [h0] at h1; cases h1
  | succ fuel ih =>
    intro i listed a w hmi hf hs hl hn hdn h
    have hi : i < ops.size := by omega
    have ho : ops[i]? = some ops[i] := by simp [hi]
    have hil' : i < listed.size := by omega
    have hready : i ∈ Region.ready .any ops listed := by
      refine mem_ready.2 ⟨?_, ops[i], ho, fun e he hb => hl _ (hord i _ ho e he hb)⟩
      have := hn i (Nat.le_refl _)
      simp [hil'] at this ⊢; exact this
    refine ⟨fun hr => absurd hready (by rw [hr]; exact List.not_mem_nil), fun k hk => ?_⟩
    obtain ⟨h0, o, hok, _⟩ := mem_ready.1 hk
    have hks : k < ops.size := (Array.getElem?_eq_some_iff.1 hok).1
    have hkl : k < listed.size := by omega
    have h0' : listed.getD k false = false := by simp [hkl] at h0 ⊢; exact h0
    have hik : i ≤ k := by
      rcases Nat.lt_or_ge k i with h' | h'
      · have := hl k h'; rw [h0'] at this; cases this
      · exact h'
    have hall := chain_reach hc hdn hks (by omega) (waits_of_ready hk)
    have hki : k = i := by
      rcases Nat.lt_or_ge i k with h' | h'
      · have := hall i h'; rw [hn i (Nat.le_refl _)] at this; cases this
      · omega
    subst hki
    have hdrop : ops.toList.drop k = ops[k] :: ops.toList.drop (k + 1) := by
      rw [List.drop_eq_getElem_cons (by simpa using hi)]; simp
    rw [hdrop] at h
    have next : ∀ a w, wpList P ops Q (ops.toList.drop (k + 1)) a w → wpAny P .any ops Q fuel (listed.setIfInBounds k true) a w := by
      intro a w h
      refine ih (k + 1) _ a w (by omega) (by omega) (by simpa using hs) (fun j hj => ?_) (fun j hj => ?_) (fun j hj x hx => ?_) h
      · by_cases e : k = j
        · subst e; simp [hil']
        · exact getD_set_true (hl j (by omega))
      · rw [getD_set_ne false (by omega)]; exact hn j (by omega)
      · by_cases e : k = j
        · subst e; exact getD_set_true (waits_of_ready hk x hx)
        · rw [getD_set_ne false e] at hj; exact getD_set_true (hdn j hj x hx)
    unfold wpOp
    rw [ho]
    simp only []
    simp only [wpList] at h
    split
    · rename_i hw
      rw [if_pos hw] at h
      exact h.imp (Oper.wp_mono next) id
    · rename_i hw
      rw [if_neg hw] at h
      exact next _ _ h

theorem region_chain {ops : Array Oper} {m : Nat} {F : Nat → Value → World → Prop} {a0 : Act} {w0 : World} {D : List (List (Nat × Tmp))} {E : List (Nat × Tmp)} {Q : Exit → Act → World → Prop}
    (hok : opsOk ops a0.tmps.size 0 (ops.toList.take m) D = true) (hms : m ≤ ops.size)
    (hE : ((E.all fun p => decide (p.1 < m) && dstOf ops p.1 == some p.2) && (List.range m).all fun j => match dstOf ops j with | some _ => E.any fun p => p.1 == j | none => true) = true)
    (hc : chainOk ops m = true) (hord : ∀ i o, ops[i]? = some o → ∀ e ∈ o.after, Region.binds .any e = true → e.on < i)
    (hst : ∀ i v w w', Ext w w' → F i v w → F i v w')
    (hob : Obs P ops F a0 w0 0 (ops.toList.take m) D)
    (hend : ∀ w, Ext w0 w → depsThen F w E a0 (fun a => wpList P ops Q (ops.toList.drop m) a w)) :
    ∀ (fuel : Nat) (listed : Array Bool) (a : Act) (w : World), listed.count false = fuel → (∀ j, m ≤ j → listed.getD j false = false) → Inv ops F a0 w0 listed a w → wpAny P .any ops Q fuel listed a w := by
  have hget : ∀ {i o}, i < m → ops[i]? = some o → (ops.toList.take m)[i]? = some o := fun {i o} hi h => by
    rw [List.getElem?_take, if_pos hi]; simpa using h
  have hall : ∀ {i o}, i < m → ops[i]? = some o → opOk ops a0.tmps.size i o (D.getD i []) = true := fun {i o} hi h => by
    have := opsOk_get hok i o (hget hi h); simpa using this
  have hobs : ∀ {i o}, i < m → ops[i]? = some o → Ob P ops F a0 w0 i o (D.getD i []) := fun {i o} hi h => by
    have := Obs_get hob i o (hget hi h); simpa using this
  -- all ahead of the chain are listed: the chain
  have fin : ∀ (fuel : Nat) (listed : Array Bool) (a : Act) (w : World), m + fuel = ops.size → (∀ j, j < m → listed.getD j false = true) → (∀ j, m ≤ j → listed.getD j false = false) → Inv ops F a0 w0 listed a w → wpAny P .any ops Q fuel listed a w := by
    intro fuel listed a w hf hl hno hI
    simp only [Bool.and_eq_true] at hE
    obtain ⟨c, hk, hc1, hc2, hc3⟩ := depsThen_at a _ E a0 hI.ts.symm (fun p hp => by
      have hd := List.all_eq_true.1 hE.1 p hp
      simp only [Bool.and_eq_true, decide_eq_true_eq, beq_iff_eq] at hd
      have := hI.fact p.1 (by omega) (hl p.1 hd.1)
      simp only [hd.2] at this
      exact this) (hend w hI.ext)
    have : c = a := by
      obtain ⟨ct, cd⟩ := c
      obtain ⟨at', ad⟩ := a
      have e2 : cd = ad := hc2.trans hI.df.symm
      have e1 : ct = at' := by
        apply Array.ext_getElem?
        intro s
        refine tmps_ext (a := ⟨ct, cd⟩) (b := ⟨at', ad⟩) hc1 ?_
        rw [hc3]
        split
        · rfl
        · rename_i hn
          refine (hI.old s fun j hj => ?_).symm
          rcases Nat.lt_or_ge j m with hjm | hjm
          · exfalso
            have h2 := List.all_eq_true.1 hE.2 j (List.mem_range.2 hjm)
            simp only [hj, List.any_eq_true, beq_iff_eq] at h2
            obtain ⟨p, hp, hpj⟩ := h2
            have hd := List.all_eq_true.1 hE.1 p hp
            simp only [Bool.and_eq_true, decide_eq_true_eq, beq_iff_eq] at hd
            have hd2 := hd.2
            rw [hpj, hj] at hd2
            exact hn ⟨p, hp, (Option.some.inj hd2).symm⟩
          · exact hno j hjm
      rw [e1, e2]
    rw [← this]
    exact chain_any hc hord fuel m listed c w (Nat.le_refl _) hf hI.size hl hno hI.down hk
  have hready_lt : ∀ (listed : Array Bool) (a : Act) (w : World), (∀ j, m ≤ j → listed.getD j false = false) → Inv ops F a0 w0 listed a w → (¬ ∀ j, j < m → listed.getD j false = true) → ∀ i ∈ Region.ready .any ops listed, i < m := by
    intro listed a w hno hI hnot i hi
    obtain ⟨_, o, ho, _⟩ := mem_ready.1 hi
    have his : i < ops.size := (Array.getElem?_eq_some_iff.1 ho).1
    rcases Nat.lt_or_ge i m with h' | h'
    · exact h'
    · exfalso
      have hr := chain_reach hc hI.down his h' (waits_of_ready hi)
      exact hnot fun j hj => hr j (by omega)
  have hcount : ∀ (listed : Array Bool), listed.size = ops.size → (∀ j, j < m → listed.getD j false = true) → (∀ j, m ≤ j → listed.getD j false = false) → m + listed.count false = ops.size := by
    intro listed hs hl hno
    have e : listed = (List.replicate m true ++ List.replicate (ops.size - m) false).toArray := by
      apply Array.ext
      · simp; omega
      · intro j h1 h2
        have hj : j < listed.size := h1
        rcases Nat.lt_or_ge j m with hjm | hjm
        · have := hl j hjm
          simp [hj] at this
          rw [this]
          simp [hjm]
        · have := hno j hjm
          simp [hj] at this
          rw [this]
          have : ¬ j < m := by omega
          simp [List.getElem_append, this]
    rw [e]
    simp [List.count_append, List.count_replicate]
    omega
  intro fuel
  induction fuel with
  | zero =>
    intro listed a w hc0 hno hI
    by_cases hl : ∀ j, j < m → listed.getD j false = true
    · exact fin 0 listed a w (by have := hcount listed hI.size hl hno; omega) hl hno hI
    · exfalso
      apply hl
      intro j hj
      have hj' : j < listed.size := by rw [hI.size]; omega
      have := Array.count_eq_zero.1 hc0
      have h2 : listed[j] ≠ false := fun e => this (e ▸ Array.getElem_mem hj')
      simp [hj']; simpa using h2
  | succ fuel ih =>
    intro listed a w hcn hno hI
    by_cases hl : ∀ j, j < m → listed.getD j false = true
    · exact fin (fuel + 1) listed a w (by have := hcount listed hI.size hl hno; omega) hl hno hI
    refine ⟨fun hr => ?_, fun i hi => ?_⟩
    · exfalso
      apply hl
      intro j
      induction j using Nat.strongRecOn with
      | _ j ihj =>
        intro hjm
        have hj : j < ops.size := by omega
        cases hlj : listed.getD j false with
        | true => rfl
        | false =>
          exfalso
          have ho : ops[j]? = some ops[j] := by simp [hj]
          have hmem : j ∈ Region.ready .any ops listed := by
            refine mem_ready.2 ⟨?_, ops[j], ho, fun e he hb => ?_⟩
            · have : j < listed.size := by rw [hI.size]; exact hj
              simp [this] at hlj ⊢; exact hlj
            · have := hord j _ ho e he hb
              exact ihj e.on this (by omega)
          rw [hr] at hmem
          cases hmem
    have him := hready_lt listed a w hno hI hl i hi
    obtain ⟨h0, o, ho, hafter⟩ := mem_ready.1 hi
    have hil : i < ops.size := (Array.getElem?_eq_some_iff.1 ho).1
    have hil' : i < listed.size := hI.size ▸ hil
    have h0' : listed.getD i false = false := by simp [hil'] at h0 ⊢; exact h0
    have hopk := hall him ho
    simp only [opOk, Bool.and_eq_true] at hopk
    obtain ⟨⟨⟨⟨hk1, hk2⟩, hk3⟩, hk4⟩, hk5⟩ := hopk
    have hdep2 : ∀ p ∈ D.getD i [], waits ops i p.1 = true ∧ dstOf ops p.1 = some p.2 := fun p hp => by
      have := List.all_eq_true.1 hk3 p hp
      simpa using this
    have hdeps : ∀ p ∈ D.getD i [], listed.getD p.1 false = true := fun p hp => waits_of_ready hi p.1 (hdep2 p hp).1
    have hsel : ∀ cs b, o.op ≠ .select cs b := by intro cs b e; rw [e] at hk2; cases hk2
    have hjlt : ∀ j, listed.getD j false = true → j < ops.size := fun j hj => by
      rcases Nat.lt_or_ge j listed.size with h' | h'
      · exact hI.size ▸ h'
      · simp [Array.getElem?_eq_none h'] at hj
    obtain ⟨c, hk, hc1, hc2, hc3⟩ := depsThen_at a _ (D.getD i []) a0 hI.ts.symm (fun p hp => by
      have := hI.fact p.1 (hjlt p.1 (hdeps p hp)) (hdeps p hp)
      simp only [(hdep2 p hp).2] at this
      exact this) (hobs him ho w hI.ext)
    have same : ∀ s ∈ o.looksAt ops, c.tmps[s]? = a.tmps[s]? := by
      intro s hs
      refine tmps_ext hc1 ?_
      rw [hc3]
      split
      · rfl
      · rename_i hn
        refine (hI.old s fun j hj => ?_).symm
        have hjl : j < ops.size := by
          unfold dstOf at hj
          rcases Nat.lt_or_ge j ops.size with h' | h'
          · exact h'
          · rw [Array.getElem?_eq_none h'] at hj; cases hj
        have h1 := List.all_eq_true.1 (List.all_eq_true.1 hk5 s hs) j (List.mem_range.2 hjl)
        simp only [Bool.or_eq_true, bne_iff_ne, ne_eq, beq_iff_eq] at h1
        rcases h1 with ((h1 | h1) | h1) | h1
        · exact absurd hj h1
        · exfalso
          rw [List.any_eq_true] at h1
          obtain ⟨p, hp, hpj⟩ := h1
          have hd := (hdep2 p hp).2
          rw [eq_of_beq hpj, hj] at hd
          exact hn ⟨p, hp, (Option.some.inj hd).symm⟩
        · rw [h1]; exact h0'
        · cases hlj : listed.getD j false with
          | false => rfl
          | true => have := hI.down j hlj i h1; rw [h0'] at this; cases this
    have heval : execOp c.eval o = execOp a.eval o := execOp_congr o hsel fun x hx => by
      cases x with
      | tmp t =>
        have := same t (List.mem_append_left _ (List.mem_filterMap.2 ⟨.tmp t, by simpa using hx, rfl⟩))
        simp [Act.eval, this]
      | _ => rfl
    have hwant : Region.wanted o (yielded ops c.tmps) = Region.wanted o (yielded ops a.tmps) := by
      unfold Region.wanted
      cases hg : o.guard with
      | none => rfl
      | some gw =>
        obtain ⟨g, want⟩ := gw
        have hy : yielded ops c.tmps g = yielded ops a.tmps g := by
          unfold yielded
          cases ht : (ops[g]?).bind (·.dst) with
          | none => rfl
          | some t =>
            have := same t (by simp [Oper.looksAt, hg, ht])
            simp [this]
        simp only [hy]
    have next : ∀ v w', Ext w w' → F i (match o.dst with | some d => (c.put o.dst v).tmps.getD d undef | none => undef) w' →
        wpAny P .any ops Q fuel (listed.setIfInBounds i true) (a.put o.dst v) w' := by
      intro v w' hx hF
      have hdst : dstOf ops i = o.dst := by simp [dstOf, ho]
      refine ih _ _ _ ?_ ?_ ⟨by simpa using hI.size, by rw [put_size]; exact hI.ts, by rw [put_defers]; exact hI.df, ?_, ?_, ?_, hI.ext.trans hx⟩
      · have hset : listed.setIfInBounds i true = listed.set i true hil' := by simp [Array.setIfInBounds, hil']
        rw [hset, Array.count_set]
        have : listed[i] = false := by simpa [hil'] using h0'
        simp [this]; omega
      · intro j hj
        rw [getD_set_ne false (by omega)]; exact hno j hj
      · intro s hs
        have hne : o.dst ≠ some s := fun e => by
          have := hs i (hdst.trans e)
          simp [hil'] at this
        rw [put_getD_ne _ hne]
        refine hI.old s fun j hj => ?_
        by_cases hji : i = j
        · rw [← hji]; exact h0'
        · have := hs j hj
          rwa [getD_set_ne false hji] at this
      · intro j hj hlj
        by_cases hji : i = j
        · subst hji
          rw [hdst]
          cases hd : o.dst with
          | none => simp only [hd] at hF; exact hF
          | some d =>
            simp only [hd] at hF hk1
            simp only [Bool.and_eq_true, decide_eq_true_eq] at hk1
            rw [put_getD_eq _ (by rw [hc1, hI.ts]; exact hk1.1)] at hF
            show F i ((a.put (some d) v).tmps.getD d undef) w'
            rw [put_getD_eq _ (by rw [hI.ts]; exact hk1.1)]
            exact hF
        · rw [getD_set_ne false hji] at hlj
          have hfj := hst _ _ _ _ hx (hI.fact j hj hlj)
          cases hdj : dstOf ops j with
          | none => simp only [hdj] at hfj; exact hfj
          | some d =>
            simp only [hdj] at hfj
            have hne : o.dst ≠ some d := fun e => by
              rw [e] at hk1
              simp only [Bool.and_eq_true] at hk1
              have := List.all_eq_true.1 hk1.2 j (List.mem_range.2 hj)
              simp [hdj, Ne.symm hji] at this
            show F j ((a.put o.dst v).tmps.getD d undef) w'
            rw [put_getD_ne _ hne]
            exact hfj
      · intro j hlj k hw
        by_cases hji : i = j
        · subst hji; exact getD_set_true (waits_of_ready hi k hw)
        · rw [getD_set_ne false hji] at hlj
          exact getD_set_true (hI.down j hlj k hw)
    unfold wpOp
    rw [ho]
    simp only []
    rw [← hwant]
    simp only [wpList] at hk
    split
    · rename_i hw
      rw [if_pos hw] at hk
      rcases hk with hk | ⟨_, x, y, hxy⟩
      · refine .inl ?_
        unfold Oper.wp at hk ⊢
        rw [heval] at hk
        generalize (execOp a.eval o).run P w = r at *
        cases r with
        | ok n w' =>
          cases n <;> simp only [Oper.upon] at hk ⊢
          case value u => exact next u w' hk.2.1 hk.2.2.2
          case skip => exact next undef w' hk.2.1 hk.2.2.2
          case defer d =>
            have := hk.2.2.1
            rw [put_defers] at this
            exact absurd this (by simp)
          case enter f args =>
            refine Calls.mono hk fun e w'' he => ?_
            cases e with
            | returned u => exact next u w'' he.2.1 he.2.2.2
            | panicked c => exact absurd he.1 (by simp)
            | outgrown => obtain ⟨_, _, h⟩ := he; exact absurd h.1 (by simp)
          case row row args => exact Rows.mono hk fun u w'' he => next u w'' he.2.1 he.2.2.2
        | halt x w' =>
          cases x <;> simp only [Oper.upon] at hk ⊢
          case panic u => exact absurd hk.1 (by simp)
      · exact absurd hxy.1 (by simp)
    · rename_i hw
      rw [if_neg hw] at hk
      exact next undef w hk.2.1 hk.2.2.2

def ordOk (ops : Array Oper) : Bool := (List.range ops.size).all fun i => match ops[i]? with | some o => o.after.all fun e => !Region.binds .any e || e.on < i | none => true

/-- A REGION THAT DRAWS ITS ORDER AND ENDS IN A CHAIN: the first m operations by facts, the others as they stand. -/
theorem wp_region_chain {id : Nat} {l : List Oper} (m : Nat) (Fs : List Fact) (D : List (List (Nat × Tmp))) (E : List (Nat × Tmp)) {a0 : Act} {w0 : World} {Q : Exit → Act → World → Prop}
    (hm : P.follows .mixedOrders = true)
    (hok : (opsOk l.toArray a0.tmps.size 0 (l.take m) D && decide (m ≤ l.length) && ((E.all fun p => decide (p.1 < m) && dstOf l.toArray p.1 == some p.2) && (List.range m).all fun j => match dstOf l.toArray j with | some _ => E.any fun p => p.1 == j | none => true) && chainOk l.toArray m && ordOk l.toArray) = true)
    (hob : Obs P l.toArray (factAt Fs) a0 w0 0 (l.take m) D)
    (hend : ∀ w, Ext w0 w → depsThen (factAt Fs) w E a0 (fun a => wpList P l.toArray Q (l.drop m) a w)) :
    (Code.region id l.toArray true).wp P Q a0 w0 := by
  simp only [Bool.and_eq_true] at hok
  obtain ⟨⟨⟨⟨k1, k2⟩, k3⟩, k4⟩, k5⟩ := hok
  have hno : ∀ j, (Array.replicate l.toArray.size false).getD j false = false := fun j => by
    simp only [Array.getD_eq_getD_getElem?, Array.getElem?_replicate]; split <;> rfl
  refine wp_region_any hm (region_chain (m := m) (F := factAt Fs) (D := D) (E := E) (w0 := w0) k1 (by simpa using k2) (by simp only [Bool.and_eq_true]; exact k3) k4 ?_ (fun i v w w' hx h => (Fs.getD i Fact.any).st v w w' hx h) hob hend _ _ _ _ ?_ (fun j _ => hno j) ?_)
  · intro i o ho e he hb
    have hi : i < l.toArray.size := (Array.getElem?_eq_some_iff.1 ho).1
    have h1 := List.all_eq_true.1 k5 i (List.mem_range.2 hi)
    simp only [ho] at h1
    have h2 := (Array.all_eq_true_iff_forall_mem.1 h1) e he
    simpa [hb] using h2
  · simp
  · exact ⟨by simp, rfl, rfl, fun _ _ => rfl, fun j _ h => (by rw [hno] at h; cases h), fun j h => (by rw [hno] at h; cases h), (Ext.refl w0).drew⟩

end
end Go.Proofs.YtckigoeomkphhaaGreat

namespace Go.Proofs.YtckigoeomkphhaaGreat.Rr
open Go.RowKit

section
variable {P : Program}

theorem region_chain {ops : Array Oper} {m : Nat} {T : Plan} {a0 : Act} {D : List (List (Nat × Tmp))} {E : List (Nat × Tmp)} {Q : Exit → Act → World → Prop}
    (hok : opsOk ops a0.tmps.size 0 (ops.toList.take m) D = true) (hms : m ≤ ops.size)
    (hE : ((E.all fun p => decide (p.1 < m) && dstOf ops p.1 == some p.2) && (List.range m).all fun j => match dstOf ops j with | some _ => E.any fun p => p.1 == j | none => true) = true)
    (hc : chainOk ops m = true) (hord : ∀ i o, ops[i]? = some o → ∀ e ∈ o.after, Region.binds .any e = true → e.on < i)
    (hst : ∀ i j, i < ops.size → j < ops.size → i ≠ j → ∀ v w w', T.R j w w' → T.F i v w → T.F i v w')
    (hsg : ∀ i j, i < ops.size → j < ops.size → i ≠ j → ∀ w w', T.R j w w' → T.G i w → T.G i w')
    (hsj : ∀ j w w', T.R j w w' → T.J w → T.J w')
    (hob : Obs P ops T a0 0 (ops.toList.take m) D)
    (hend : ∀ w, T.J w → (∀ j, m ≤ j → j < ops.size → T.G j w) → depsThen T.F w E a0 (fun a => wpList P ops Q (ops.toList.drop m) a w)) :
    ∀ (fuel : Nat) (listed : Array Bool) (a : Act) (w : World), listed.count false = fuel → (∀ j, m ≤ j → listed.getD j false = false) → Inv ops T a0 listed a w → wpAny P .any ops Q fuel listed a w := by
  have hget : ∀ {i o}, i < m → ops[i]? = some o → (ops.toList.take m)[i]? = some o := fun {i o} hi h => by
    rw [List.getElem?_take, if_pos hi]; simpa using h
  have hall : ∀ {i o}, i < m → ops[i]? = some o → opOk ops a0.tmps.size i o (D.getD i []) = true := fun {i o} hi h => by
    have := opsOk_get hok i o (hget hi h); simpa using this
  have hobs : ∀ {i o}, i < m → ops[i]? = some o → Ob P ops T a0 i o (D.getD i []) := fun {i o} hi h => by
    have := Obs_get hob i o (hget hi h); simpa using this
  -- all ahead of the chain are listed: the chain
  have fin : ∀ (fuel : Nat) (listed : Array Bool) (a : Act) (w : World), m + fuel = ops.size → (∀ j, j < m → listed.getD j false = true) → (∀ j, m ≤ j → listed.getD j false = false) → Inv ops T a0 listed a w → wpAny P .any ops Q fuel listed a w := by
    intro fuel listed a w hf hl hno hI
    simp only [Bool.and_eq_true] at hE
    obtain ⟨c, hk, hc1, hc2, hc3⟩ := depsThen_at a _ E a0 hI.ts.symm (fun p hp => by
      have hd := List.all_eq_true.1 hE.1 p hp
      simp only [Bool.and_eq_true, decide_eq_true_eq, beq_iff_eq] at hd
      have := hI.fact p.1 (by omega) (hl p.1 hd.1)
      simp only [hd.2] at this
      exact this) (hend w hI.ext fun j h1 h2 => hI.pre j h2 (hno j h1))
    have : c = a := by
      obtain ⟨ct, cd⟩ := c
      obtain ⟨at', ad⟩ := a
      have e2 : cd = ad := hc2.trans hI.df.symm
      have e1 : ct = at' := by
        apply Array.ext_getElem?
        intro s
        refine tmps_ext (a := ⟨ct, cd⟩) (b := ⟨at', ad⟩) hc1 ?_
        rw [hc3]
        split
        · rfl
        · rename_i hn
          refine (hI.old s fun j hj => ?_).symm
          rcases Nat.lt_or_ge j m with hjm | hjm
          · exfalso
            have h2 := List.all_eq_true.1 hE.2 j (List.mem_range.2 hjm)
            simp only [hj, List.any_eq_true, beq_iff_eq] at h2
            obtain ⟨p, hp, hpj⟩ := h2
            have hd := List.all_eq_true.1 hE.1 p hp
            simp only [Bool.and_eq_true, decide_eq_true_eq, beq_iff_eq] at hd
            have hd2 := hd.2
            rw [hpj, hj] at hd2
            exact hn ⟨p, hp, (Option.some.inj hd2).symm⟩
          · exact hno j hjm
      rw [e1, e2]
    rw [← this]
    exact chain_any hc hord fuel m listed c w (Nat.le_refl _) hf hI.size hl hno hI.down hk
  have hready_lt : ∀ (listed : Array Bool) (a : Act) (w : World), (∀ j, m ≤ j → listed.getD j false = false) → Inv ops T a0 listed a w → (¬ ∀ j, j < m → listed.getD j false = true) → ∀ i ∈ Region.ready .any ops listed, i < m := by
    intro listed a w hno hI hnot i hi
    obtain ⟨_, o, ho, _⟩ := mem_ready.1 hi
    have his : i < ops.size := (Array.getElem?_eq_some_iff.1 ho).1
    rcases Nat.lt_or_ge i m with h' | h'
    · exact h'
    · exfalso
      have hr := chain_reach hc hI.down his h' (waits_of_ready hi)
      exact hnot fun j hj => hr j (by omega)
  have hcount : ∀ (listed : Array Bool), listed.size = ops.size → (∀ j, j < m → listed.getD j false = true) → (∀ j, m ≤ j → listed.getD j false = false) → m + listed.count false = ops.size := by
    intro listed hs hl hno
    have e : listed = (List.replicate m true ++ List.replicate (ops.size - m) false).toArray := by
      apply Array.ext
      · simp; omega
      · intro j h1 h2
        have hj : j < listed.size := h1
        rcases Nat.lt_or_ge j m with hjm | hjm
        · have := hl j hjm
          simp [hj] at this
          rw [this]
          simp [hjm]
        · have := hno j hjm
          simp [hj] at this
          rw [this]
          have : ¬ j < m := by omega
          simp [List.getElem_append, this]
    rw [e]
    simp [List.count_append, List.count_replicate]
    omega
  intro fuel
  induction fuel with
  | zero =>
    intro listed a w hc0 hno hI
    by_cases hl : ∀ j, j < m → listed.getD j false = true
    · exact fin 0 listed a w (by have := hcount listed hI.size hl hno; omega) hl hno hI
    · exfalso
      apply hl
      intro j hj
      have hj' : j < listed.size := by rw [hI.size]; omega
      have := Array.count_eq_zero.1 hc0
      have h2 : listed[j] ≠ false := fun e => this (e ▸ Array.getElem_mem hj')
      simp [hj']; simpa using h2
  | succ fuel ih =>
    intro listed a w hcn hno hI
    by_cases hl : ∀ j, j < m → listed.getD j false = true
    · exact fin (fuel + 1) listed a w (by have := hcount listed hI.size hl hno; omega) hl hno hI
    refine ⟨fun hr => ?_, fun i hi => ?_⟩
    · exfalso
      apply hl
      intro j
      induction j using Nat.strongRecOn with
      | _ j ihj =>
        intro hjm
        have hj : j < ops.size := by omega
        cases hlj : listed.getD j false with
        | true => rfl
        | false =>
          exfalso
          have ho : ops[j]? = some ops[j] := by simp [hj]
          have hmem : j ∈ Region.ready .any ops listed := by
            refine mem_ready.2 ⟨?_, ops[j], ho, fun e he hb => ?_⟩
            · have : j < listed.size := by rw [hI.size]; exact hj
              simp [this] at hlj ⊢; exact hlj
            · have := hord j _ ho e he hb
              exact ihj e.on this (by omega)
          rw [hr] at hmem
          cases hmem
    have him := hready_lt listed a w hno hI hl i hi
    obtain ⟨h0, o, ho, hafter⟩ := mem_ready.1 hi
    have hil : i < ops.size := (Array.getElem?_eq_some_iff.1 ho).1
    have hil' : i < listed.size := hI.size ▸ hil
    have h0' : listed.getD i false = false := by simp [hil'] at h0 ⊢; exact h0
    have hopk := hall him ho
    simp only [opOk, Bool.and_eq_true] at hopk
    obtain ⟨⟨⟨⟨hk1, hk2⟩, hk3⟩, hk4⟩, hk5⟩ := hopk
    have hdep2 : ∀ p ∈ D.getD i [], waits ops i p.1 = true ∧ dstOf ops p.1 = some p.2 := fun p hp => by
      have := List.all_eq_true.1 hk3 p hp
      simpa using this
    have hdeps : ∀ p ∈ D.getD i [], listed.getD p.1 false = true := fun p hp => waits_of_ready hi p.1 (hdep2 p hp).1
    have hsel : ∀ cs b, o.op ≠ .select cs b := by intro cs b e; rw [e] at hk2; cases hk2
    have hjlt : ∀ j, listed.getD j false = true → j < ops.size := fun j hj => by
      rcases Nat.lt_or_ge j listed.size with h' | h'
      · exact hI.size ▸ h'
      · simp [Array.getElem?_eq_none h'] at hj
    obtain ⟨c, hk, hc1, hc2, hc3⟩ := depsThen_at a _ (D.getD i []) a0 hI.ts.symm (fun p hp => by
      have := hI.fact p.1 (hjlt p.1 (hdeps p hp)) (hdeps p hp)
      simp only [(hdep2 p hp).2] at this
      exact this) (hobs him ho w hI.ext (hI.pre i hil h0'))
    have same : ∀ s ∈ o.looksAt ops, c.tmps[s]? = a.tmps[s]? := by
      intro s hs
      refine tmps_ext hc1 ?_
      rw [hc3]
      split
      · rfl
      · rename_i hn
        refine (hI.old s fun j hj => ?_).symm
        have hjl : j < ops.size := by
          unfold dstOf at hj
          rcases Nat.lt_or_ge j ops.size with h' | h'
          · exact h'
          · rw [Array.getElem?_eq_none h'] at hj; cases hj
        have h1 := List.all_eq_true.1 (List.all_eq_true.1 hk5 s hs) j (List.mem_range.2 hjl)
        simp only [Bool.or_eq_true, bne_iff_ne, ne_eq, beq_iff_eq] at h1
        rcases h1 with ((h1 | h1) | h1) | h1
        · exact absurd hj h1
        · exfalso
          rw [List.any_eq_true] at h1
          obtain ⟨p, hp, hpj⟩ := h1
          have hd := (hdep2 p hp).2
          rw [eq_of_beq hpj, hj] at hd
          exact hn ⟨p, hp, (Option.some.inj hd).symm⟩
        · rw [h1]; exact h0'
        · cases hlj : listed.getD j false with
          | false => rfl
          | true => have := hI.down j hlj i h1; rw [h0'] at this; cases this
    have heval : execOp c.eval o = execOp a.eval o := execOp_congr o hsel fun x hx => by
      cases x with
      | tmp t =>
        have := same t (List.mem_append_left _ (List.mem_filterMap.2 ⟨.tmp t, by simpa using hx, rfl⟩))
        simp [Act.eval, this]
      | _ => rfl
    have hwant : Region.wanted o (yielded ops c.tmps) = Region.wanted o (yielded ops a.tmps) := by
      unfold Region.wanted
      cases hg : o.guard with
      | none => rfl
      | some gw =>
        obtain ⟨g, want⟩ := gw
        have hy : yielded ops c.tmps g = yielded ops a.tmps g := by
          unfold yielded
          cases ht : (ops[g]?).bind (·.dst) with
          | none => rfl
          | some t =>
            have := same t (by simp [Oper.looksAt, hg, ht])
            simp [this]
        simp only [hy]
    have next : ∀ v w', T.R i w w' → T.F i (match o.dst with | some d => (c.put o.dst v).tmps.getD d undef | none => undef) w' →
        wpAny P .any ops Q fuel (listed.setIfInBounds i true) (a.put o.dst v) w' := by
      intro v w' hx hF
      have hdst : dstOf ops i = o.dst := by simp [dstOf, ho]
      refine ih _ _ _ ?_ ?_ ⟨by simpa using hI.size, by rw [put_size]; exact hI.ts, by rw [put_defers]; exact hI.df, ?_, ?_, ?_, ?_, hsj i _ _ hx hI.ext⟩
      · have hset : listed.setIfInBounds i true = listed.set i true hil' := by simp [Array.setIfInBounds, hil']
        rw [hset, Array.count_set]
        have : listed[i] = false := by simpa [hil'] using h0'
        simp [this]; omega
      · intro j hj
        rw [getD_set_ne false (by omega)]; exact hno j hj
      · intro s hs
        have hne : o.dst ≠ some s := fun e => by
          have := hs i (hdst.trans e)
          simp [hil'] at this
        rw [put_getD_ne _ hne]
        refine hI.old s fun j hj => ?_
        by_cases hji : i = j
        · rw [← hji]; exact h0'
        · have := hs j hj
          rwa [getD_set_ne false hji] at this
      · intro j hj hlj
        by_cases hji : i = j
        · subst hji
          rw [hdst]
          cases hd : o.dst with
          | none => simp only [hd] at hF; exact hF
          | some d =>
            simp only [hd] at hF hk1
            simp only [Bool.and_eq_true, decide_eq_true_eq] at hk1
            rw [put_getD_eq _ (by rw [hc1, hI.ts]; exact hk1.1)] at hF
            show T.F i ((a.put (some d) v).tmps.getD d undef) w'
            rw [put_getD_eq _ (by rw [hI.ts]; exact hk1.1)]
            exact hF
        · rw [getD_set_ne false hji] at hlj
          have hfj := hst j i hj hil (fun e => hji e.symm) _ _ _ hx (hI.fact j hj hlj)
          cases hdj : dstOf ops j with
          | none => simp only [hdj] at hfj; exact hfj
          | some d =>
            simp only [hdj] at hfj
            have hne : o.dst ≠ some d := fun e => by
              rw [e] at hk1
              simp only [Bool.and_eq_true] at hk1
              have := List.all_eq_true.1 hk1.2 j (List.mem_range.2 hj)
              simp [hdj, Ne.symm hji] at this
            show T.F j ((a.put o.dst v).tmps.getD d undef) w'
            rw [put_getD_ne _ hne]
            exact hfj
      · intro j hlj k hw
        by_cases hji : i = j
        · subst hji; exact getD_set_true (waits_of_ready hi k hw)
        · rw [getD_set_ne false hji] at hlj
          exact getD_set_true (hI.down j hlj k hw)
      · intro j hj hlj
        by_cases hji : i = j
        · subst hji; simp [hil'] at hlj
        · rw [getD_set_ne false hji] at hlj
          exact hsg j i hj hil (fun e => hji e.symm) _ _ hx (hI.pre j hj hlj)
    unfold wpOp
    rw [ho]
    simp only []
    rw [← hwant]
    simp only [wpList] at hk
    split
    · rename_i hw
      rw [if_pos hw] at hk
      rcases hk with hk | ⟨_, x, y, hxy⟩
      · refine .inl ?_
        unfold Oper.wp at hk ⊢
        rw [heval] at hk
        generalize (execOp a.eval o).run P w = r at *
        cases r with
        | ok n w' =>
          cases n <;> simp only [Oper.upon] at hk ⊢
          case value u => exact next u w' hk.2.1 hk.2.2.2
          case skip => exact next undef w' hk.2.1 hk.2.2.2
          case defer d =>
            have := hk.2.2.1
            rw [put_defers] at this
            exact absurd this (by simp)
          case enter f args =>
            refine Calls.mono hk fun e w'' he => ?_
            cases e with
            | returned u => exact next u w'' he.2.1 he.2.2.2
            | panicked c => exact absurd he.1 (by simp)
            | outgrown => obtain ⟨_, _, h⟩ := he; exact absurd h.1 (by simp)
          case row row args => exact Rows.mono hk fun u w'' he => next u w'' he.2.1 he.2.2.2
        | halt x w' =>
          cases x <;> simp only [Oper.upon] at hk ⊢
          case panic u => exact absurd hk.1 (by simp)
      · exact absurd hxy.1 (by simp)
    · rename_i hw
      rw [if_neg hw] at hk
      exact next undef w hk.2.1 hk.2.2.2

end

section
variable {P : Program}
theorem wp_region_rows_chain {id : Nat} {l : List Oper} (m : Nat) (rows : List (Option Nat)) (Fs Gs : List FactB) (D : List (List (Nat × Tmp))) (E : List (Nat × Tmp)) {a0 : Act} {w0 : World} {Q : Exit → Act → World → Prop}
    (hm : P.follows .mixedOrders = true)
    (hok : (opsOk l.toArray a0.tmps.size 0 (l.take m) D && decide (m ≤ l.length) && ((E.all fun p => decide (p.1 < m) && dstOf l.toArray p.1 == some p.2) && (List.range m).all fun j => match dstOf l.toArray j with | some _ => E.any fun p => p.1 == j | none => true) && chainOk l.toArray m && ordOk l.toArray) = true)
    (hcf : calm rows 0 Fs) (hcg : calm rows 0 Gs) (hg : ∀ f ∈ Gs, f.p undef w0.drew)
    (hob : Obs P l.toArray (plan rows Fs Gs w0) a0 0 (l.take m) D)
    (hend : ∀ w, Buts rows w0 w → (∀ j, m ≤ j → j < l.length → (Gs.getD j FactB.any).p undef w) → depsThen (plan rows Fs Gs w0).F w E a0 (fun a => wpList P l.toArray Q (l.drop m) a w)) :
    (Code.region id l.toArray true).wp P Q a0 w0 := by
  simp only [Bool.and_eq_true] at hok
  obtain ⟨⟨⟨⟨k1, k2⟩, k3⟩, k4⟩, k5⟩ := hok
  have hno : ∀ j, (Array.replicate l.toArray.size false).getD j false = false := fun j => by
    simp only [Array.getD_eq_getD_getElem?, Array.getElem?_replicate]; split <;> rfl
  refine wp_region_any hm (region_chain (m := m) (T := plan rows Fs Gs w0) (D := D) (E := E) k1 (by simpa using k2) (by simp only [Bool.and_eq_true]; exact k3) k4 ?_ (fun i j _ _ hij v w w' hx h => ?_) (fun i j _ _ hij w w' hx h => ?_) (fun j w w' hx h => ?_) hob (fun w hJ hG => hend w hJ fun j h1 h2 => hG j h1 (by simpa using h2)) _ _ _ _ ?_ (fun j _ => hno j) ?_)
  · intro i o ho e he hb
    have hi : i < l.toArray.size := (Array.getElem?_eq_some_iff.1 ho).1
    have h1 := List.all_eq_true.1 k5 i (List.mem_range.2 hi)
    simp only [ho] at h1
    have h2 := (Array.all_eq_true_iff_forall_mem.1 h1) e he
    simpa [hb] using h2
  · exact (Fs.getD i FactB.any).st _ (calm_get hcf i j (by omega)) v w w' hx h
  · exact (Gs.getD i FactB.any).st _ (calm_get hcg i j (by omega)) undef w w' hx h
  · have hx : w.grownBy w' (rows.getD j none) := hx
    refine ⟨hx.os.trans h.os, hx.tape.trans h.tape, hx.output.trans h.output, Nat.le_trans h.size hx.size, fun k hk hn => (hx.block k (Nat.lt_of_lt_of_le hk h.size) (fun e => ?_)).trans (h.block k hk hn)⟩
    rw [List.getD_eq_getElem?_getD] at e
    cases hj : rows[j]? with
    | none => rw [hj] at e; cases e
    | some r => rw [hj] at e; exact hn (e ▸ List.mem_of_getElem? hj)
  · simp
  · refine ⟨by simp, rfl, rfl, fun _ _ => rfl, fun j _ h => (by rw [hno] at h; cases h), fun j h => (by rw [hno] at h; cases h), fun j _ _ => ?_, ⟨rfl, rfl, rfl, Nat.le_refl _, fun _ _ _ => rfl⟩⟩
    show (Gs.getD j FactB.any).p undef w0.drew
    rw [List.getD_eq_getElem?_getD]
    cases hj : Gs[j]? with
    | none => trivial
    | some f => exact hg f (List.mem_of_getElem? hj)
end

section
variable {P : Program}
/-- append behind a row of the call's own: and where the new row lies. -/
theorem wpList_append_rowA {ops : Array Oper} {Q : Exit → Act → World → Prop} {a : Act} {w : World} {rest : List Oper} {o : Oper}
    (t e : TypeId) (s x : Operand) (ho : o.op = .call { callee := .builtin .append, args := #[s, x], argTypes := #[t, t] })
    (base : Nat) (z : Value) (size bytes : Nat) (ht : P.underlying t = some (.slice e)) (hi : (P.info? e).map (fun i => (i.zero, i.size, i.bytes)) = some (some z, size, bytes))
    (hzs : z.cells.size = size) (hsz : 0 < size)
    (hw : Region.wanted o (yielded ops a.tmps) = true)
    (v : Value) (n : Nat) (xs : List Value) (hs : a.eval s = v) (hown : w.ownsRow base e size v n xs)
    (m : Nat) (news : List Value) (hx : Row w size (a.eval x) m news) (h1 : ∀ u ∈ news, u.oneCell' = true)
    (hbytes : (n + m) * bytes ≤ 140737488355328) (h63 : n + m ≤ maxLen) (hbase : base ≤ w.heap.size)
    (h : ∀ v' w', w'.ownsRow base e size v' (n + m) (xs ++ news) → w.grownBy w' v.ownBlock → (v'.ownBlock = v.ownBlock ∨ v'.ownBlock = some w.heap.size) → wpList P ops Q rest (a.put o.dst v') w') : wpList P ops Q (o :: rest) a w := by
  obtain ⟨i, hi1, hi2, hi3, hi4⟩ := info_parts hi
  obtain ⟨hl, ad, cap, hv, hc, hm, hnil, hspot, hcell⟩ := hx
  have hexec : ∀ r : Result Value, (Builtin.append_ #[t, t] o.type #[v, a.eval x]).run P w = r → (execOp a.eval o).run P w = r.andThen fun y w' => .ok (.value y) w' := by
    intro r hr
    simp only [execOp, ho, resolve, invoke, builtin, Sem.run_bind, Sem.run_pure, Result.andThen_ok, List.map_toArray, List.map_cons, List.map_nil, hs, hr]
  cases ad with
  | none =>
    have hc0 : cap = 0 := hnil rfl
    subst hc0
    have hm0 : m = 0 := by omega
    subst hm0
    have hn0 : news = [] := List.eq_nil_of_length_eq_zero (by simpa using hl)
    subst hn0
    have hr := run_append_owned_none (P := P) (w := w) base t o.type e i size ht hi1 v n xs hown
    rw [← hv] at hr
    refine wpList_val hw (hexec _ hr) ?_
    have := h v w (by simpa using hown) (World.grownBy.refl w _) (.inl rfl)
    exact this
  | some p =>
    obtain ⟨v', w', hr, ho', hg, _, hat⟩ := run_append_own_at (P := P) w base t o.type e i z size bytes ht hi1 hi2 hi3 hi4 hzs hsz v n xs hown p m cap news hl (fun j u hj => by
      obtain ⟨p', hp', hcl⟩ := hcell j u hj
      simp at hp'; subst hp'
      have hps := hspot _ rfl (by
        have hjl : j < news.length := by
          rcases Nat.lt_or_ge j news.length with h' | h'
          · exact h'
          · rw [List.getElem?_eq_none h'] at hj; cases hj
        rcases Nat.eq_zero_or_pos m with h' | h'
        · subst h'; simp at hl; subst hl; simp at hjl
        · omega)
      have : p.add j = ⟨p.block, p.off + j, none⟩ := by
        obtain ⟨pb, po, ps⟩ := p
        simp only at hps; subst hps
        unfold Addr.add; split <;> simp_all
      rw [this]; exact hcl) h1 h63 hbytes hbase
    rw [← hv] at hr
    exact wpList_val hw (hexec _ hr) (h v' w' ho' hg hat)
end
end Go.Proofs.YtckigoeomkphhaaGreat.Rr

namespace Go.Proofs.YtckigoeomkphhaaGreat.Rr
open Go.RowKit

/-- A row of the call's own that lies where it lay (ob), or in memory made from block H on. -/
def FactB.ownL (base : Nat) (e : TypeId) (size n : Nat) (xs : List Value) (ob : Option Nat) (H : Nat) : FactB :=
  ⟨fun v w => w.ownsRow base e size v n xs ∧ (v.ownBlock = ob ∨ ∃ g, v.ownBlock = some g ∧ H ≤ g), fun row => row ≠ none, fun row hb v w w' hg h => ⟨own_keep h.1 hg fun k _ e => hb (by rw [e]; simp), h.2⟩⟩
theorem ownL_none {base : Nat} {e : TypeId} {size n : Nat} {xs : List Value} {ob : Option Nat} {H : Nat} : ¬ (FactB.ownL base e size n xs ob H).bad none := fun h => h rfl
theorem Buts.grown {rows : List (Option Nat)} {w w' : World} {row : Option Nat} (h : Buts rows w w') (hr : ∀ k, some k ∈ rows → row = some k) : w.grownBy w' row :=
  ⟨h.os, h.tape, h.output, h.size, fun k hk hne => h.block k hk fun hm => hne (hr k hm).symm⟩
end Go.Proofs.YtckigoeomkphhaaGreat.Rr

namespace Go.Proofs
open Go.Shelf
def Tryz.sortV_ren : Go.Shelf.Ren := ⟨fun | 6 => 50 | 15 => 74 | 14 => 73 | 28 => 118 | 29 => 119 | 20 => 110 | 21 => 111 | 22 => 112 | 23 => 113 | 24 => 114 | 25 => 115 | 26 => 116 | 27 => 117 | 46 => 136 | 47 => 137 | 48 => 138 | 49 => 139 | 50 => 140 | 57 => 153 | n => n, fun | 22 => 50 | 24 => 49 | 25 => 100 | 3 => 3 | 39 => 118 | 0 => 0 | 53 => 144 | 55 => 146 | 4 => 4 | 46 => 137 | 45 => 136 | 50 => 141 | 5 => 5 | 9 => 9 | 66 => 155 | 70 => 159 | 76 => 168 | 77 => 169 | n => n, fun | n => n⟩
theorem Tryz.sortV : Go.Proofs.SlLaysF0.n6 Tryz.prog Tryz.sortV_ren := {
  mixed := by kernel_rfl
  f6 := ⟨Tryz.f50.name, by decide, Tryz.func50.trans (congrArg some (by kernel_rfl))⟩
  f14 := ⟨Tryz.f73.name, by decide, Tryz.func73.trans (congrArg some (by kernel_rfl))⟩
  f15 := Tryz.func74.trans (congrArg some (by kernel_rfl))
  f20 := ⟨Tryz.f110.name, by decide, Tryz.func110.trans (congrArg some (by kernel_rfl))⟩
  f21 := ⟨Tryz.f111.name, by decide, Tryz.func111.trans (congrArg some (by kernel_rfl))⟩
  f22 := ⟨Tryz.f112.name, by decide, Tryz.func112.trans (congrArg some (by kernel_rfl))⟩
  f23 := ⟨Tryz.f113.name, by decide, Tryz.func113.trans (congrArg some (by kernel_rfl))⟩
  f24 := ⟨Tryz.f114.name, by decide, Tryz.func114.trans (congrArg some (by kernel_rfl))⟩
  f25 := ⟨Tryz.f115.name, by decide, Tryz.func115.trans (congrArg some (by kernel_rfl))⟩
  f26 := ⟨Tryz.f116.name, by decide, Tryz.func116.trans (congrArg some (by kernel_rfl))⟩
  f27 := ⟨Tryz.f117.name, by decide, Tryz.func117.trans (congrArg some (by kernel_rfl))⟩
  f28 := Tryz.func118.trans (congrArg some (by kernel_rfl))
  f29 := Tryz.func119.trans (congrArg some (by kernel_rfl))
  f46 := ⟨Tryz.f136.name, by decide, Tryz.func136.trans (congrArg some (by kernel_rfl))⟩
  f47 := Tryz.func137.trans (congrArg some (by kernel_rfl))
  f48 := Tryz.func138.trans (congrArg some (by kernel_rfl))
  f49 := ⟨Tryz.f139.name, by decide, Tryz.func139.trans (congrArg some (by kernel_rfl))⟩
  f50 := ⟨Tryz.f140.name, by decide, Tryz.func140.trans (congrArg some (by kernel_rfl))⟩
  f57 := ⟨Tryz.f153.name, by decide, Tryz.func153.trans (congrArg some (by kernel_rfl))⟩
  t0 := Tryz.underlying0
  a0 := Tryz.isAgg0
  z0 := Tryz.sizeOf0
  v0 := Tryz.zeroValue0
  t3 := Tryz.underlying3
  a3 := Tryz.isAgg3
  z3 := Tryz.sizeOf3
  v3 := Tryz.zeroValue3
  t4 := Tryz.underlying4
  a4 := Tryz.isAgg4
  z4 := Tryz.sizeOf4
  v4 := Tryz.zeroValue4
  t5 := Tryz.underlying5
  a5 := Tryz.isAgg5
  z5 := Tryz.sizeOf5
  v5 := Tryz.zeroValue5
  t9 := Tryz.underlying9
  a9 := Tryz.isAgg9
  z9 := Tryz.sizeOf9
  v9 := Tryz.zeroValue9
  t22 := Tryz.underlying50
  a22 := Tryz.isAgg50
  z22 := Tryz.sizeOf50
  v22 := Tryz.zeroValue50
  t25 := Tryz.underlying100
  a25 := Tryz.isAgg100
  z25 := Tryz.sizeOf100
  v25 := Tryz.zeroValue100
  t39 := Tryz.underlying118
  a39 := Tryz.isAgg118
  z39 := Tryz.sizeOf118
  v39 := Tryz.zeroValue118
  t45 := Tryz.underlying136
  a45 := Tryz.isAgg136
  z45 := Tryz.sizeOf136
  v45 := Tryz.zeroValue136
  t46 := Tryz.underlying137
  a46 := Tryz.isAgg137
  z46 := Tryz.sizeOf137
  v46 := Tryz.zeroValue137
  t50 := Tryz.underlying141
  a50 := Tryz.isAgg141
  z50 := Tryz.sizeOf141
  v50 := Tryz.zeroValue141
  t53 := Tryz.underlying144
  a53 := Tryz.isAgg144
  z53 := Tryz.sizeOf144
  v53 := Tryz.zeroValue144
  t55 := Tryz.underlying146
  a55 := Tryz.isAgg146
  z55 := Tryz.sizeOf146
  v55 := Tryz.zeroValue146
  t66 := Tryz.underlying155
  a66 := Tryz.isAgg155
  z66 := Tryz.sizeOf155
  v66 := Tryz.zeroValue155
  t70 := Tryz.underlying159
  a70 := Tryz.isAgg159
  z70 := Tryz.sizeOf159
  v70 := Tryz.zeroValue159
  t76 := Tryz.underlying168
  a76 := Tryz.isAgg168
  z76 := Tryz.sizeOf168
  v76 := Tryz.zeroValue168
  t77 := Tryz.underlying169
  a77 := Tryz.isAgg169
  z77 := Tryz.sizeOf169
  v77 := Tryz.zeroValue169 }
def Tryz.sortC_ren : Go.Shelf.Ren := ⟨fun | 14 => 123 | 20 => 142 | 21 => 143 | 22 => 144 | 23 => 145 | 24 => 146 | 25 => 147 | 26 => 148 | 27 => 149 | 46 => 154 | 47 => 137 | 48 => 138 | 49 => 155 | 50 => 156 | 15 => 74 | 57 => 158 | 28 => 118 | 29 => 119 | n => n, fun | 24 => 52 | 22 => 27 | 3 => 3 | 25 => 110 | 4 => 4 | 0 => 0 | 46 => 137 | 45 => 136 | 50 => 141 | 66 => 155 | 39 => 118 | 55 => 146 | 70 => 159 | 76 => 168 | 77 => 169 | 53 => 144 | 5 => 5 | 9 => 9 | n => n, fun | n => n⟩
theorem Tryz.sortC : Go.Proofs.SlLaysF0.n14 Tryz.prog Tryz.sortC_ren := {
  mixed := by kernel_rfl
  f14 := ⟨Tryz.f123.name, by decide, Tryz.func123.trans (congrArg some (by kernel_rfl))⟩
  f15 := Tryz.func74.trans (congrArg some (by kernel_rfl))
  f20 := ⟨Tryz.f142.name, by decide, Tryz.func142.trans (congrArg some (by kernel_rfl))⟩
  f21 := ⟨Tryz.f143.name, by decide, Tryz.func143.trans (congrArg some (by kernel_rfl))⟩
  f22 := ⟨Tryz.f144.name, by decide, Tryz.func144.trans (congrArg some (by kernel_rfl))⟩
  f23 := ⟨Tryz.f145.name, by decide, Tryz.func145.trans (congrArg some (by kernel_rfl))⟩
  f24 := ⟨Tryz.f146.name, by decide, Tryz.func146.trans (congrArg some (by kernel_rfl))⟩
  f25 := ⟨Tryz.f147.name, by decide, Tryz.func147.trans (congrArg some (by kernel_rfl))⟩
  f26 := ⟨Tryz.f148.name, by decide, Tryz.func148.trans (congrArg some (by kernel_rfl))⟩
  f27 := ⟨Tryz.f149.name, by decide, Tryz.func149.trans (congrArg some (by kernel_rfl))⟩
  f28 := Tryz.func118.trans (congrArg some (by kernel_rfl))
  f29 := Tryz.func119.trans (congrArg some (by kernel_rfl))
  f46 := ⟨Tryz.f154.name, by decide, Tryz.func154.trans (congrArg some (by kernel_rfl))⟩
  f47 := Tryz.func137.trans (congrArg some (by kernel_rfl))
  f48 := Tryz.func138.trans (congrArg some (by kernel_rfl))
  f49 := ⟨Tryz.f155.name, by decide, Tryz.func155.trans (congrArg some (by kernel_rfl))⟩
  f50 := ⟨Tryz.f156.name, by decide, Tryz.func156.trans (congrArg some (by kernel_rfl))⟩
  f57 := ⟨Tryz.f158.name, by decide, Tryz.func158.trans (congrArg some (by kernel_rfl))⟩
  t0 := Tryz.underlying0
  a0 := Tryz.isAgg0
  z0 := Tryz.sizeOf0
  v0 := Tryz.zeroValue0
  t3 := Tryz.underlying3
  a3 := Tryz.isAgg3
  z3 := Tryz.sizeOf3
  v3 := Tryz.zeroValue3
  t4 := Tryz.underlying4
  a4 := Tryz.isAgg4
  z4 := Tryz.sizeOf4
  v4 := Tryz.zeroValue4
  t5 := Tryz.underlying5
  a5 := Tryz.isAgg5
  z5 := Tryz.sizeOf5
  v5 := Tryz.zeroValue5
  t9 := Tryz.underlying9
  a9 := Tryz.isAgg9
  z9 := Tryz.sizeOf9
  v9 := Tryz.zeroValue9
  t22 := Tryz.underlying27
  a22 := Tryz.isAgg27
  z22 := Tryz.sizeOf27
  v22 := Tryz.zeroValue27
  t25 := Tryz.underlying110
  a25 := Tryz.isAgg110
  z25 := Tryz.sizeOf110
  v25 := Tryz.zeroValue110
  t39 := Tryz.underlying118
  a39 := Tryz.isAgg118
  z39 := Tryz.sizeOf118
  v39 := Tryz.zeroValue118
  t45 := Tryz.underlying136
  a45 := Tryz.isAgg136
  z45 := Tryz.sizeOf136
  v45 := Tryz.zeroValue136
  t46 := Tryz.underlying137
  a46 := Tryz.isAgg137
  z46 := Tryz.sizeOf137
  v46 := Tryz.zeroValue137
  t50 := Tryz.underlying141
  a50 := Tryz.isAgg141
  z50 := Tryz.sizeOf141
  v50 := Tryz.zeroValue141
  t53 := Tryz.underlying144
  a53 := Tryz.isAgg144
  z53 := Tryz.sizeOf144
  v53 := Tryz.zeroValue144
  t55 := Tryz.underlying146
  a55 := Tryz.isAgg146
  z55 := Tryz.sizeOf146
  v55 := Tryz.zeroValue146
  t66 := Tryz.underlying155
  a66 := Tryz.isAgg155
  z66 := Tryz.sizeOf155
  v66 := Tryz.zeroValue155
  t70 := Tryz.underlying159
  a70 := Tryz.isAgg159
  z70 := Tryz.sizeOf159
  v70 := Tryz.zeroValue159
  t76 := Tryz.underlying168
  a76 := Tryz.isAgg168
  z76 := Tryz.sizeOf168
  v76 := Tryz.zeroValue168
  t77 := Tryz.underlying169
  a77 := Tryz.isAgg169
  z77 := Tryz.sizeOf169
  v77 := Tryz.zeroValue169 }
def Tryz.cloneV_ren : Go.Shelf.Ren := ⟨fun | 41 => 49 | n => n, fun | 22 => 50 | 23 => 49 | 4 => 4 | n => n, fun | n => n⟩
theorem Tryz.cloneV : Go.Proofs.SlLaysE0.n41 Tryz.prog Tryz.cloneV_ren := {
  mixed := by kernel_rfl
  f41 := ⟨Tryz.f49.name, by decide, Tryz.func49.trans (congrArg some (by kernel_rfl))⟩
  t4 := Tryz.underlying4
  a4 := Tryz.isAgg4
  z4 := Tryz.sizeOf4
  v4 := Tryz.zeroValue4
  t22 := Tryz.underlying50
  a22 := Tryz.isAgg50
  z22 := Tryz.sizeOf50
  v22 := Tryz.zeroValue50 }
def Tryz.cloneC_ren : Go.Shelf.Ren := ⟨fun | 41 => 80 | n => n, fun | 22 => 97 | 23 => 52 | 4 => 4 | n => n, fun | n => n⟩
theorem Tryz.cloneC : Go.Proofs.SlLaysE0.n41 Tryz.prog Tryz.cloneC_ren := {
  mixed := by kernel_rfl
  f41 := ⟨Tryz.f80.name, by decide, Tryz.func80.trans (congrArg some (by kernel_rfl))⟩
  t4 := Tryz.underlying4
  a4 := Tryz.isAgg4
  z4 := Tryz.sizeOf4
  v4 := Tryz.zeroValue4
  t22 := Tryz.underlying97
  a22 := Tryz.isAgg97
  z22 := Tryz.sizeOf97
  v22 := Tryz.zeroValue97 }
def Tryz.bitsLen_ren : Go.Shelf.Ren := ⟨fun | 125 => 74 | 128 => 118 | 129 => 119 | n => n, fun | 46 => 118 | 3 => 3 | 51 => 144 | 53 => 146 | 4 => 4 | 5 => 5 | 9 => 9 | n => n, fun | n => n⟩
theorem Tryz.bitsLen : Go.Proofs.Lays.n125 Tryz.prog Tryz.bitsLen_ren := {
  mixed := by kernel_rfl
  f125 := Tryz.func74.trans (congrArg some (by kernel_rfl))
  f128 := Tryz.func118.trans (congrArg some (by kernel_rfl))
  f129 := Tryz.func119.trans (congrArg some (by kernel_rfl))
  t3 := Tryz.underlying3
  a3 := Tryz.isAgg3
  z3 := Tryz.sizeOf3
  v3 := Tryz.zeroValue3
  t4 := Tryz.underlying4
  a4 := Tryz.isAgg4
  z4 := Tryz.sizeOf4
  v4 := Tryz.zeroValue4
  t5 := Tryz.underlying5
  a5 := Tryz.isAgg5
  z5 := Tryz.sizeOf5
  v5 := Tryz.zeroValue5
  t9 := Tryz.underlying9
  a9 := Tryz.isAgg9
  z9 := Tryz.sizeOf9
  v9 := Tryz.zeroValue9
  t46 := Tryz.underlying118
  a46 := Tryz.isAgg118
  z46 := Tryz.sizeOf118
  v46 := Tryz.zeroValue118
  t51 := Tryz.underlying144
  a51 := Tryz.isAgg144
  z51 := Tryz.sizeOf144
  v51 := Tryz.zeroValue144
  t53 := Tryz.underlying146
  a53 := Tryz.isAgg146
  z53 := Tryz.sizeOf146
  v53 := Tryz.zeroValue146 }
end Go.Proofs

namespace Go.Proofs.YtckigoeomkphhaaGreat
open Go.RowKit

set_option maxRecDepth 100000 in
set_option maxHeartbeats 2000000 in
theorem cloneV_any (w : World) (v : Value) (l : List V) (h : SetR w v l) (hl : l.length ≤ 1000000) :
    Calls Tryz.prog 49 #[v] w fun e w' => ∃ v', e = .returned v' ∧ w'.ownsRow w.heap.size 49 4 v' l.length (l.flatMap vC) ∧ Ext w w' := by
  obtain ⟨a, cap, rfl, hc, hm⟩ := Row.shape h
  have hq : ∀ (w : World) (a : Option Addr) (n c n' c' : Nat), (binOp .eql 50 (.slice a n c) (.slice none n' c')).run Tryz.prog w = .ok (.bool a.isNone) w := fun w a n c n' c' => Lib.run_eql_slice_nil w _ _ a n c n' c' Tryz.underlying50
  cases a with
  | none =>
    have hz : l = [] := by
      obtain ⟨_, a', cap', e1, _, _, hnil, _⟩ := h
      simp only [Value.slice.injEq] at e1
      have := hnil e1.1.symm
      exact List.length_eq_zero_iff.1 (by omega)
    subst hz
    go_enter Tryz.func49, Tryz.ntmps49
    go_wp2
    go_ret
    exact ⟨_, rfl, ⟨rfl, .inl ⟨rfl, rfl⟩⟩, Ext.refl w⟩
  | some p =>
    have hr := h.ext ((Ext.refl w).alloc (.cells #[] 49))
    have hone := vC_one l
    unfold maxLen at hm
    go_enter Tryz.func49, Tryz.ntmps49
    go_wp2_with (at_builtin; refine wpList_append_row 50 49 (.tmp 5) (.tmp 6) rfl w.heap.size _ 4 40 Tryz.underlying50 info28t rfl (by decide) rfl _ 0 [] rfl (World.ownsRow_made w #[] 0 (Nat.le_refl _) (Nat.zero_le _) (by simp)) l.length (l.flatMap vC) hr hone (by omega) (by unfold maxLen; omega) (by simp) ?_; intro v' w1 hown hgrow)
    go_ret
    refine ⟨v', rfl, by simpa using hown, Ext.grown_none ((Ext.refl w).alloc _) hgrow (by intro k hk; cases hk; exact Nat.le_refl _)⟩
set_option maxRecDepth 100000 in
set_option maxHeartbeats 2000000 in
theorem cloneC_any (w : World) (v : Value) (l : List CS) (h : Row w 7 v l.length (l.flatMap csC)) (hsl : ∀ x ∈ l, x.h.oneCell' = true) (hl : l.length ≤ 1000000) :
    Calls Tryz.prog 80 #[v] w fun e w' => ∃ v', e = .returned v' ∧ w'.ownsRow w.heap.size 52 7 v' l.length (l.flatMap csC) ∧ Ext w w' ∧ (v = .slice none 0 0 → v' = .slice none 0 0) := by
  obtain ⟨a, cap, rfl, hc, hm⟩ := Row.shape h
  have hq : ∀ (w : World) (a : Option Addr) (n c n' c' : Nat), (binOp .eql 97 (.slice a n c) (.slice none n' c')).run Tryz.prog w = .ok (.bool a.isNone) w := fun w a n c n' c' => Lib.run_eql_slice_nil w _ _ a n c n' c' Tryz.underlying97
  cases a with
  | none =>
    have hz : l = [] := by
      obtain ⟨_, a', cap', e1, _, _, hnil, _⟩ := h
      simp only [Value.slice.injEq] at e1
      have := hnil e1.1.symm
      exact List.length_eq_zero_iff.1 (by omega)
    subst hz
    go_enter Tryz.func80, Tryz.ntmps80
    go_wp2
    go_ret
    exact ⟨_, rfl, ⟨rfl, .inl ⟨rfl, rfl⟩⟩, Ext.refl w, fun _ => rfl⟩
  | some p =>
    have hr := h.ext ((Ext.refl w).alloc (.cells #[] 52))
    have hone := csC_one l hsl
    unfold maxLen at hm
    go_enter Tryz.func80, Tryz.ntmps80
    go_wp2_with (at_builtin; refine wpList_append_row 97 52 (.tmp 5) (.tmp 6) rfl w.heap.size _ 7 88 Tryz.underlying97 info31t rfl (by decide) rfl _ 0 [] rfl (World.ownsRow_made w #[] 0 (Nat.le_refl _) (Nat.zero_le _) (by simp)) l.length (l.flatMap csC) hr hone (by omega) (by unfold maxLen; omega) (by simp) ?_; intro v' w1 hown hgrow)
    go_ret
    refine ⟨v', rfl, by simpa using hown, Ext.grown_none ((Ext.refl w).alloc _) hgrow (by intro k hk; cases hk; exact Nat.le_refl _), fun h => by cases h⟩
end Go.Proofs.YtckigoeomkphhaaGreat

namespace Go.Proofs.YtckigoeomkphhaaGreat
open Go.RowKit Go.Sort

theorem flatK_eq {α : Type} [Inhabited α] (enc : α → List Value) (k : Nat) (hk0 : 0 < k) (hk : ∀ x, (enc x).length = k) (l : List α) : flatK enc k l.toArray = (l.flatMap enc).toArray := by
  have hl := flat_len enc k hk l
  apply Array.ext
  · simp only [size_flatK, List.size_toArray, hl]
  · intro t h1 h2
    have h1' : t < l.length * k := by simpa using h1
    have hd : t / k < l.length := by rw [Nat.div_lt_iff_lt_mul hk0]; exact h1'
    have hm : t % k < k := Nat.mod_lt _ hk0
    have hg := flat_get enc k hk l (t / k) hd (t % k) hm
    have e : t / k * k + t % k = t := by rw [Nat.mul_comm]; exact Nat.div_add_mod t k
    rw [e] at hg
    have hf := get_flatK enc k l.toArray t (by simpa using h1')
    rw [getElem!_pos _ t h1] at hf
    rw [hf]
    have hx : (l.toArray)[t / k]! = l[t / k] := by rw [getElem!_pos _ _ (by simpa using hd)]; simp
    rw [hx]
    have h2' : t < (l.flatMap enc).length := by rw [hl]; exact h1'
    rw [List.getElem?_eq_getElem h2', List.getElem?_eq_getElem (by rw [hk]; exact hm)] at hg
    rw [getElem!_pos _ _ (by rw [hk]; exact hm)]
    have := Option.some.inj hg
    simp only [List.getElem_toArray]
    exact this.symm

theorem own_holds {w : World} {base g n cap size : Nat} {e : TypeId} {xs : List Value} (h : w.ownsRow base e size (.slice (some ⟨g, 0, none⟩) n cap) n xs) :
    ∃ cur, w.heap[g]? = some (.cells cur e (0, 0)) ∧ base ≤ g ∧ n ≤ cap ∧ cap ≤ maxLen ∧ cur.size = cap * size ∧ g < w.heap.size ∧ Holds id w g 0 xs.toArray := by
  obtain ⟨hl, h | ⟨g', cap', cur, e0, hb, hg, hn, hm, hs, ht⟩⟩ := h
  · cases h.1
  · injection e0 with e1 _ e3
    injection e1 with e1
    injection e1 with e1
    subst e1; subst e3
    refine ⟨cur, hg, hb, hn, hm, hs, (Array.getElem?_eq_some_iff.1 hg).1, fun j hj => ?_⟩
    have hj' : j < xs.length := by simpa using hj
    refine ⟨?_, by simp [World.frozen?, hg]⟩
    have e2 : (cur.toList.take (n * size))[j]? = xs[j]? := by rw [ht]
    rw [List.getElem?_take, if_pos (by omega), Array.getElem?_toList, List.getElem?_eq_getElem hj'] at e2
    simp only [World.cell?, hg, Nat.zero_add]
    simp only [Option.isSome_none, Bool.false_eq_true, if_false]
    rw [e2]
    simp [getElem!_pos, hj']

theorem grownBy_row {w : World} {g n : Nat} {os : Array Obj} (d : Array Value) : w.grownBy (grow (putRow id (Sort.ahead w n) g 0 d) os) (some g) := by
  refine ⟨rfl, rfl, rfl, by simp, fun k hk hne => ?_⟩
  rw [heap_grow_old _ _ (by simpa using hk)]
  have : g ≠ k := fun e => hne (by rw [e])
  simp [putRow, mapBlock, Sort.ahead, Array.getElem?_modify, this]

theorem take_put (cur : Array Value) (ts : List Value) (h : ts.length ≤ cur.size) : (putCells id 0 ts.toArray cur).toList.take ts.length = ts := by
  apply List.ext_getElem?
  intro j
  by_cases hj : j < ts.length
  · rw [List.getElem?_take_of_lt hj, Array.getElem?_toList]
    simp [putCells, hj, show j < cur.size by omega]
  · rw [List.getElem?_take_eq_none (by omega), List.getElem?_eq_none (by omega)]

theorem own_put {w : World} {base g n cap size m : Nat} {e : TypeId} {os : Array Obj} {xs ys : List Value} (h : w.ownsRow base e size (.slice (some ⟨g, 0, none⟩) n cap) n xs) (hy : ys.length = xs.length) :
    (grow (putRow id (Sort.ahead w m) g 0 ys.toArray) os).ownsRow base e size (.slice (some ⟨g, 0, none⟩) n cap) n ys := by
  have hl := h.1
  obtain ⟨cur, hg, hb, hn, hm, hs, hlt, _⟩ := own_holds h
  refine ⟨by omega, .inr ⟨g, cap, putCells id 0 ys.toArray cur, rfl, hb, ?_, hn, hm, by simp [putCells, hs], ?_⟩⟩
  · rw [heap_grow_old _ _ (by simpa using hlt)]
    simp [putRow, mapBlock, Sort.ahead, Array.getElem?_modify, hg, onCells]
  · rw [← hl, ← hy]
    have : n * size ≤ cap * size := Nat.mul_le_mul_right _ hn
    exact take_put cur ys (by omega)

/-- The sort, over any two structs' order: what stands behind it. -/
theorem own_sorted {α : Type} [Inhabited α] {w : World} {base g n cap k m : Nat} {e : TypeId} {os : Array Obj} (enc : α → List Value) (hk0 : 0 < k) (hk : ∀ x, (enc x).length = k) {l l' : List α}
    (h : w.ownsRow base e k (.slice (some ⟨g, 0, none⟩) n cap) n (l.flatMap enc)) (hll : l'.length = l.length) :
    (sortWorldK enc k w g 0 m l'.toArray os).ownsRow base e k (.slice (some ⟨g, 0, none⟩) n cap) n (l'.flatMap enc) ∧ w.grownBy (sortWorldK enc k w g 0 m l'.toArray os) (some g) := by
  unfold sortWorldK putRowK
  rw [flatK_eq enc k hk0 hk]
  exact ⟨own_put h (by rw [flat_len enc k hk, flat_len enc k hk, hll]), grownBy_row _⟩
theorem own_holdsK {α : Type} [Inhabited α] {w : World} {base g n cap k : Nat} {e : TypeId} (enc : α → List Value) (hk0 : 0 < k) (hk : ∀ x, (enc x).length = k) {l : List α}
    (h : w.ownsRow base e k (.slice (some ⟨g, 0, none⟩) n cap) n (l.flatMap enc)) : HoldsK enc k w g 0 l.toArray := by
  unfold HoldsK
  rw [flatK_eq enc k hk0 hk]
  obtain ⟨_, _, _, _, _, _, _, hH⟩ := own_holds h
  exact hH
/-- A list sorted by an order, in the sort's words and in mine. -/
theorem sorted_list {α : Type} [Inhabited α] {cf : α → α → Int} {l : List α} {d' : Array α} (hp : PermIn 0 l.toArray.size l.toArray d') (hs : SortedIn (ltOf cf) 0 l.toArray.size d') (hanti : ∀ a b, cf b a = - cf a b) :
    d'.toList.Perm l ∧ d'.toList.Pairwise fun a b => cf a b ≤ 0 := by
  have hsz : d'.size = l.length := by simpa using hp.1
  have h1 := hp.2.2
  have e1 : d'.extract 0 l.toArray.size = d' := by rw [List.size_toArray, ← hsz, Array.extract_size]
  have e2 : l.toArray.extract 0 l.toArray.size = l.toArray := by rw [Array.extract_size]
  rw [e1, e2] at h1
  refine ⟨h1, List.pairwise_iff_getElem.2 fun i j hi hj hij => ?_⟩
  have hj' : j < d'.size := by simpa using hj
  have hi' : i < d'.size := by simpa using hi
  have h2 := hs i j (Nat.zero_le _) hij (by simp; omega)
  rw [getElem!_pos d' j hj', getElem!_pos d' i hi'] at h2
  unfold ltOf at h2
  have h3 := of_decide_eq_false h2
  have h4 := hanti d'[i] d'[j]
  simp only [Array.getElem_toList]
  omega
end Go.Proofs.YtckigoeomkphhaaGreat

namespace Go.Proofs.YtckigoeomkphhaaGreat
open Go.RowKit Go.Sort

instance : Inhabited V := ⟨⟨0, 0, [], false⟩⟩
theorem wo_swo {α : Type} {cf : α → α → Int} (h : WO cf) : SWO (ltOf cf) := by
  have hr : ∀ x, cf x x = 0 := h.refl
  refine ⟨fun x => ?_, fun x y z h1 h2 => ?_, fun x y z h1 h2 => ?_⟩
  · unfold ltOf; rw [hr]; rfl
  · unfold ltOf at *
    have a1 := of_decide_eq_true h1
    have a2 := of_decide_eq_true h2
    refine decide_eq_true ?_
    have b1 := h.trans x y z (by omega) (by omega)
    rcases Int.lt_or_eq_of_le b1 with b | b
    · exact b
    · have c1 := h.anti x z
      have c2 := h.trans z x y (by omega) (by omega)
      have c3 := h.anti y z
      omega
  · unfold ltOf at *
    have a1 := of_decide_eq_false h1
    have a2 := of_decide_eq_false h2
    refine decide_eq_false ?_
    have e1 := h.anti x y
    have e2 := h.anti y z
    have e3 := h.anti x z
    have b1 := h.trans z y x (by omega) (by omega)
    omega

theorem ent23 : ∀ args w, (callFunc 51 args).run Tryz.prog w = .ok (.enter 51 args) w := enters_of Tryz.func51 (by kernel_rfl) rfl

theorem sortV_any (w : World) (base : Nat) (v : Value) (l : List V) (ho : w.ownsRow base 49 4 v l.length (l.flatMap vC)) (hl : l.length ≤ 1000000) :
    Calls Tryz.prog 50 #[v, .func (.func 51) #[] #[]] w fun e w' => e = .returned (.tuple #[]) ∧ ∃ l' : List V, l'.Perm l ∧ (l'.Pairwise fun a b => cmpV a b ≤ 0) ∧ w'.ownsRow base 49 4 v l.length (l'.flatMap vC) ∧ w.grownBy w' v.ownBlock := by
  have ho' := ho
  rcases ho.2 with ⟨rfl, h0⟩ | ⟨g, cap, cur, rfl, hb, hg, hn, hm, hs, ht⟩
  · have hz : l = [] := List.length_eq_zero_iff.1 h0
    subst hz
    refine (AnyF.slices_SortFunc_none { Tryz.sortV with } none 0 (.func (.func 51) #[] #[]) w).mono ?_
    rintro e w' ⟨rfl, rfl⟩
    exact ⟨rfl, [], List.Perm.refl _, List.Pairwise.nil, ho, ⟨rfl, rfl, rfl, Nat.le_refl _, fun _ _ _ => rfl⟩⟩
  · have hlt : g < w.heap.size := (Array.getElem?_eq_some_iff.1 hg).1
    have hH := own_holdsK vC (by decide) vC_len ho
    have hone : ∀ x, ∀ u ∈ vC x, u.oneCell' = true := fun x u hu => vC_one [x] u (by simpa using hu)
    have hc := AnyQ.slices_SortFunc Tryz.sortV 4 (fun w => Tryz.isAgg49 w) (fun w => Tryz.sizeOf49 w) vC vC_len hone cmpV (wo_swo wo_V) 51 #[] g 0 cap l.toArray w ent23
      (fun m os dk _ x y => (cmpV_any _ x y).mono fun _ _ ⟨he, hx⟩ => ⟨he, hx.grown⟩) hH hlt (by simp; omega)
    have e1 : l.toArray.size = l.length := by simp
    rw [e1] at hc
    refine hc.mono ?_
    rintro e w' ⟨rfl, d', n, os, hp, hs', rfl⟩
    obtain ⟨p1, p2⟩ := sorted_list (by rw [e1]; exact hp) (by rw [e1]; exact hs') (wo_V.anti)
    have hll : d'.toList.length = l.length := p1.length_eq
    have hfin := own_sorted (m := n) (os := os) vC (by decide) vC_len ho hll
    exact ⟨rfl, d'.toList, p1, p2, hfin.1, hfin.2⟩
end Go.Proofs.YtckigoeomkphhaaGreat
