/- What both ask of a name: the closure of asked; may. (Printed by a program.)
As K7; and the boxes that a region makes lie apart.
As K7, where one operation (a box that is made) may come up at any time until the chain is all but done.
A range over a function: its record, its rounds (a body that may leave by a return), and what stays beside.
A block of the call's own that holds what it held, or what it is to hold: for a region that draws its order and stores there.
Regions: whole (eight bytes as a number), the closures of Some. -/
import Derived.RangeFuncNested
import Derived.RangeFuncBound
import Derived.RangeFuncCalls
import Derived.RangeFuncLeaves
import Derived.Shelf.Abstract
import Derived.Shelf.RegionOpen
import Derived.WalkKit
import Derived.OwnWalkIn
import Derived.TacticsInMore
import Derived.LoopNIn
import Derived.LoopIn
import Derived.LoopTactic
import Derived.Laws.BitsAllLaws
import Derived.Test.YtabegbelkfhbcaaGreatPk10
import Derived.Test.YtabegbelkfhbcaaGreatPk4
import Derived.Test.YtabegbelkfhbcaaGreatPk5
import Derived.Test.YtabegbelkfhbcaaGreatPk7
import Derived.Test.YtabegbelkfhbcaaGreatPk8
namespace Go.Proofs.YtabegbelkfhbcaaGreat
open Go.RowKit

theorem asked_sh {w : World} {vp : Value} {p : List C} (name : List UInt8) (hp : PredR w vp p) (hok : ∀ c ∈ p, okC c) {r : Rg} (hr : askedF p name = r) {n : Int} (hn : (if mayP p then (0 : Int) else 30) = n) :
    Calls Tryz.prog 56 #[vp, .string (strOf name)] w fun e w' => ∃ a1 a2 a3 a4 a5 a6, e = .returned (.tuple #[.agg #[.slice a1 r.i.length a2, .slice a3 r.s.length a4, .slice a5 r.b.length a6, .bool r.odd], .int .i64 n]) ∧ RgR w' (.agg #[.slice a1 r.i.length a2, .slice a3 r.s.length a4, .slice a5 r.b.length a6, .bool r.odd]) r ∧ Ext w w' := by
  refine (asked_any w vp p name hp hok).mono ?_
  rw [hr, hn]
  rintro e w' ⟨v, rfl, hv, hx⟩
  obtain ⟨a1, c1, a2, c2, a3, c3, rfl, _, _, _⟩ := hv.ex
  exact ⟨a1, c1, a2, c2, a3, c3, rfl, hv, hx⟩

set_option maxRecDepth 100000 in
set_option maxHeartbeats 8000000 in
theorem both_any (w : World) (bp bq : Nat) (vp vq : Value) (p q : List C) (name : List UInt8) (hbp : w.heap[bp]? = some (.cells #[vp] 25 (0, 0))) (hbq : w.heap[bq]? = some (.cells #[vq] 25 (0, 0)))
    (hp : PredR w vp p) (hq : PredR w vq q) (kp : ∀ c ∈ p, okC c) (kq : ∀ c ∈ q, okC c) :
    Calls Tryz.prog 55 #[.string (strOf name), .pointer (some ⟨bp, 0, none⟩), .pointer (some ⟨bq, 0, none⟩)] w fun e w' => ∃ v, e = .returned v ∧ RgR w' v ((askedF p name).and (askedF q name)) ∧ Ext w w' := by
  obtain ⟨ap, cp, rfl, _, _⟩ := hp.shape
  obtain ⟨aq, cq, rfl, _, _⟩ := hq.shape
  have f1 := few_asked p name
  have f2 := few_asked q name
  generalize hr : askedF p name = r at *
  generalize hs : askedF q name = s at *
  generalize hn : (if mayP p then (0 : Int) else 30) = n
  generalize hm : (if mayP q then (0 : Int) else 30) = m
  have HAnd := Lib.hid (fun W v1 v2 (h1 : RgR W v1 r) (h2 : RgR W v2 s) => andR_any W v1 v2 r s h1 h2 f1.1 f2.1.full (f1.2.mono (by omega)) (f2.2.mono (by omega)))
  have HR := Lib.hid hr
  have HS := Lib.hid hs
  have HN := Lib.hid hn
  have HM := Lib.hid hm
  have HP := Lib.hid hp
  have HQ := Lib.hid hq
  have Hp := Lib.hid hbp
  have Hq := Lib.hid hbq
  clear hr hs hn hm hp hq hbp hbq f1 f2
  generalize r.and s = rs at *
  generalize p.length = pl at *
  generalize q.length = ql at *
  have hw := Ext.refl w
  go_enter Tryz.func55, Tryz.ntmps55
  obtain ⟨hx1, ht⟩ := boxes1 w (.cells #[.slice none 0 0, .slice none 0 0, .slice none 0 0, .bool false] 83)
  have hw := hw.trans hx1
  have Hp := Lib.hid (block_later Hp.out hx1)
  have Hq := Lib.hid (block_later Hq.out hx1)
  have HP := Lib.hid (HP.out.ext hx1)
  have HQ := Lib.hid (HQ.out.ext hx1)
  clear hx1
  have Ht := Lib.hid ht
  clear ht
  have mp_0 := cell_of_row _ _ 0 _ _ _ Hp.out
  go_wp2_with fail
  generalize w.alloc (.cells #[.slice none 0 0, .slice none 0 0, .slice none 0 0, .bool false] 83) = w1 at *
  have HT0 : RowKit.Hid (w.heap.size ≤ w.heap.size) := Lib.hid (Nat.le_refl _)
  generalize hbt : w.heap.size = bt at *
  have HBT := Lib.hid hbt
  clear hbt HT0
  have HT0 : RowKit.Hid (w.heap.size ≤ bt) := Lib.hid (by rw [HBT.out]; exact Nat.le_refl _)
  have hof := Lib.hid (asked_sh name HP.out kp HR.out HN.out)
  refine (hof.out).mono ?_
  rintro e w2 ⟨a1, a2, a3, a4, a5, a6, rfl, hrr, hx2⟩
  have hw := hw.trans hx2
  have Hp := Lib.hid (block_later Hp.out hx2)
  have Hq := Lib.hid (block_later Hq.out hx2)
  have Ht := Lib.hid (block_later Ht.out hx2)
  have HP := Lib.hid (HP.out.ext hx2)
  have HQ := Lib.hid (HQ.out.ext hx2)
  clear hx2
  have HRR := Lib.hid hrr
  clear hrr
  clear hof mp_0
  obtain ⟨hx3, hr⟩ := boxes1 w2 (.cells #[.slice a1 r.i.length a2, .slice a3 r.s.length a4, .slice a5 r.b.length a6, .bool r.odd] 83)
  have hw := hw.trans hx3
  have Hp := Lib.hid (block_later Hp.out hx3)
  have Hq := Lib.hid (block_later Hq.out hx3)
  have Ht := Lib.hid (block_later Ht.out hx3)
  have HP := Lib.hid (HP.out.ext hx3)
  have HQ := Lib.hid (HQ.out.ext hx3)
  have HRR := Lib.hid (HRR.out.ext hx3)
  clear hx3
  have Hr := Lib.hid hr
  clear hr
  have mq_0 := cell_of_row _ _ 0 _ _ _ Hq.out
  go_wp2_with fail
  generalize w2.alloc (.cells #[.slice a1 r.i.length a2, .slice a3 r.s.length a4, .slice a5 r.b.length a6, .bool r.odd] 83) = w3 at *
  generalize w2.heap.size = br at *
  have hof := Lib.hid (asked_sh name HQ.out kq HS.out HM.out)
  refine (hof.out).mono ?_
  rintro e w4 ⟨b1, b2, b3, b4, b5, b6, rfl, hrs, hx4⟩
  have hw := hw.trans hx4
  have Hp := Lib.hid (block_later Hp.out hx4)
  have Hq := Lib.hid (block_later Hq.out hx4)
  have Ht := Lib.hid (block_later Ht.out hx4)
  have Hr := Lib.hid (block_later Hr.out hx4)
  have HP := Lib.hid (HP.out.ext hx4)
  have HQ := Lib.hid (HQ.out.ext hx4)
  have HRR := Lib.hid (HRR.out.ext hx4)
  clear hx4
  have HRS := Lib.hid hrs
  clear hrs
  clear hof mq_0
  obtain ⟨hx5, hs⟩ := boxes1 w4 (.cells #[.slice b1 s.i.length b2, .slice b3 s.s.length b4, .slice b5 s.b.length b6, .bool s.odd] 83)
  have hw := hw.trans hx5
  have Hp := Lib.hid (block_later Hp.out hx5)
  have Hq := Lib.hid (block_later Hq.out hx5)
  have Ht := Lib.hid (block_later Ht.out hx5)
  have Hr := Lib.hid (block_later Hr.out hx5)
  have HP := Lib.hid (HP.out.ext hx5)
  have HQ := Lib.hid (HQ.out.ext hx5)
  have HRR := Lib.hid (HRR.out.ext hx5)
  have HRS := Lib.hid (HRS.out.ext hx5)
  clear hx5
  have Hs := Lib.hid hs
  clear hs
  have mr_0 := cell_of_row _ _ 0 _ _ _ Hr.out
  have mr_1 := cell_of_row _ _ 1 _ _ _ Hr.out
  have mr_2 := cell_of_row _ _ 2 _ _ _ Hr.out
  have mr_3 := cell_of_row _ _ 3 _ _ _ Hr.out
  have ms_0 := cell_of_row _ _ 0 _ _ _ Hs.out
  have ms_1 := cell_of_row _ _ 1 _ _ _ Hs.out
  have ms_2 := cell_of_row _ _ 2 _ _ _ Hs.out
  have ms_3 := cell_of_row _ _ 3 _ _ _ Hs.out
  go_wp2_with fail
  generalize w4.alloc (.cells #[.slice b1 s.i.length b2, .slice b3 s.s.length b4, .slice b5 s.b.length b6, .bool s.odd] 83) = w5 at *
  generalize w4.heap.size = bs at *
  have hof := Lib.hid (HAnd.out _ _ _ HRR.out HRS.out)
  refine (hof.out).mono ?_
  rintro e w6 ⟨va, rfl, hva, hx6⟩
  have hw := hw.trans hx6
  have Hp := Lib.hid (block_later Hp.out hx6)
  have Hq := Lib.hid (block_later Hq.out hx6)
  have Ht := Lib.hid (block_later Ht.out hx6)
  have Hr := Lib.hid (block_later Hr.out hx6)
  have Hs := Lib.hid (block_later Hs.out hx6)
  have HP := Lib.hid (HP.out.ext hx6)
  have HQ := Lib.hid (HQ.out.ext hx6)
  have HRR := Lib.hid (HRR.out.ext hx6)
  have HRS := Lib.hid (HRS.out.ext hx6)
  clear hx6
  clear hof mr_0 mr_1 mr_2 mr_3 ms_0 ms_1 ms_2 ms_3
  obtain ⟨x1, y1, x2, y2, x3, y3, rfl, p1, p2, p3⟩ := hva.ex
  go_wp2_with (refine wpList_store_whole 83 (.tmp 4) (.tmp 23) rfl rfl bt rfl #[.slice x1 rs.i.length y1, .slice x2 rs.s.length y2, .slice x3 rs.b.length y3, .bool rs.odd] rfl _ 83 Ht.out rfl info83s (by simp [Value.oneCell']) ?_)
  have hq := setRow_heap _ _ _ #[.slice x1 rs.i.length y1, .slice x2 rs.s.length y2, .slice x3 rs.b.length y3, .bool rs.odd] _ _ Ht.out
  have g0 := cell_of_row _ _ 0 _ _ _ hq
  have g1 := cell_of_row _ _ 1 _ _ _ hq
  have g2 := cell_of_row _ _ 2 _ _ _ hq
  have g3 := cell_of_row _ _ 3 _ _ _ hq
  refine bodyPost_ret (v := .agg #[.slice x1 rs.i.length y1, .slice x2 rs.s.length y2, .slice x3 rs.b.length y3, .bool rs.odd]) (by simp [results, Tryz.results55, go_sem, g0, g1, g2, g3]) rfl ⟨_, rfl, ?_, hw.setRow (by have := HT0.out; omega) _⟩
  exact RgR.of (spr_setRow p1 Ht.out (by simp)) (spr_setRow p2 Ht.out (by simp)) (spr_setRow p3 Ht.out (by simp))

set_option maxRecDepth 100000 in
set_option maxHeartbeats 4000000 in
theorem may95_any (w : World) (vp vq : Value) (p q : List C) (hp : PredR w vp p) (hq : PredR w vq q) :
    Calls Tryz.prog 52 #[vp, vq] w fun e w' => e = .returned (.bool (mayP p && mayP q)) ∧ Ext w w' := by
  obtain ⟨ap, cp, rfl, _, _⟩ := hp.shape
  obtain ⟨aq, cq, rfl, _, _⟩ := hq.shape
  have h1 := pmay_any w _ p hp
  have HP := Lib.hid h1
  have HQ := Lib.hid (fun W (hx : Ext w W) => pmay_any W _ q (hq.ext hx))
  clear h1 hp hq
  generalize hm : mayP p = m at *
  generalize hm2 : mayP q = m2 at *
  clear hm hm2
  generalize p.length = pl at *
  generalize q.length = ql at *
  cases m with
  | false =>
    go_enter Tryz.func52, Tryz.ntmps52
    go_wp2_with fail
    refine HP.out.mono ?_
    rintro e w1 ⟨rfl, hx1⟩
    go_wp2_with fail
    go_ret
    exact ⟨rfl, hx1⟩
  | true =>
    go_enter Tryz.func52, Tryz.ntmps52
    go_wp2_with fail
    refine HP.out.mono ?_
    rintro e w1 ⟨rfl, hx1⟩
    have H2 := Lib.hid (HQ.out w1 hx1)
    go_wp2_with fail
    refine H2.out.mono ?_
    rintro e w2 ⟨rfl, hx2⟩
    go_wp2_with fail
    go_ret
    exact ⟨rfl, hx1.trans hx2⟩
end Go.Proofs.YtabegbelkfhbcaaGreat

namespace Go.Proofs.YtabegbelkfhbcaaGreat
open Go.RowKit

section
variable {P : Program}

/-- What stands in the slot of operation i. -/
def valOf (ops : Array Oper) (a : Act) (i : Nat) : Value := match dstOf ops i with | some d => a.tmps.getD d undef | none => undef
def Apart (ops : Array Oper) (A : List Nat) (listed : Array Bool) (a : Act) : Prop := ∀ i, i ∈ A → ∀ j, j ∈ A → i ≠ j → listed.getD i false = true → listed.getD j false = true → valOf ops a i ≠ valOf ops a j

theorem region_chain2 {ops : Array Oper} {m : Nat} {F : Nat → Value → World → Prop} {a0 : Act} {w0 : World} {D : List (List (Nat × Tmp))} {E : List (Nat × Tmp)} {Q : Exit → Act → World → Prop} {A : List Nat}
    (hok : opsOk ops a0.tmps.size 0 (ops.toList.take m) D = true) (hms : m ≤ ops.size)
    (hE : ((E.all fun p => decide (p.1 < m) && dstOf ops p.1 == some p.2) && (List.range m).all fun j => match dstOf ops j with | some _ => E.any fun p => p.1 == j | none => true) = true)
    (hc : chainOk ops m = true) (hord : ∀ i o, ops[i]? = some o → ∀ e ∈ o.after, Region.binds .any e = true → e.on < i)
    (hst : ∀ i v w w', Ext w w' → F i v w → F i v w')
    (hob : Obs P ops F a0 w0 0 (ops.toList.take m) D)
    (hAl : ∀ i o, i ∈ A → ops[i]? = some o → (∃ d, o.dst = some d) ∧ o.guard = none ∧ ∀ ev w n w', (execOp ev o).run P w = .ok n w' → n = .value (.pointer (some ⟨w.heap.size, 0, none⟩)))
    (hin : ∀ i, i ∈ A → ∀ v w, F i v w → ∃ b, v = .pointer (some ⟨b, 0, none⟩) ∧ b < w.heap.size)
    (hA : ∀ i, i ∈ A → i < m)
    (hend : ∀ w, Ext w0 w → depsThen F w E a0 (fun a => (∀ i, i ∈ A → ∀ j, j ∈ A → i ≠ j → valOf ops a i ≠ valOf ops a j) → wpList P ops Q (ops.toList.drop m) a w)) :
    ∀ (fuel : Nat) (listed : Array Bool) (a : Act) (w : World), listed.count false = fuel → (∀ j, m ≤ j → listed.getD j false = false) → Inv ops F a0 w0 listed a w → Apart ops A listed a → wpAny P .any ops Q fuel listed a w := by
  have hget : ∀ {i o}, i < m → ops[i]? = some o → (ops.toList.take m)[i]? = some o := fun {i o} hi h => by
    rw [List.getElem?_take, if_pos hi]; simpa using h
  have hall : ∀ {i o}, i < m → ops[i]? = some o → opOk ops a0.tmps.size i o (D.getD i []) = true := fun {i o} hi h => by
    have := opsOk_get hok i o (hget hi h); simpa using this
  have hobs : ∀ {i o}, i < m → ops[i]? = some o → Ob P ops F a0 w0 i o (D.getD i []) := fun {i o} hi h => by
    have := Obs_get hob i o (hget hi h); simpa using this
  -- all ahead of the chain are listed: the chain
  have fin : ∀ (fuel : Nat) (listed : Array Bool) (a : Act) (w : World), m + fuel = ops.size → (∀ j, j < m → listed.getD j false = true) → (∀ j, m ≤ j → listed.getD j false = false) → Inv ops F a0 w0 listed a w → Apart ops A listed a → wpAny P .any ops Q fuel listed a w := by
    intro fuel listed a w hf hl hno hI hP
    simp only [Bool.and_eq_true] at hE
    obtain ⟨c, hk, hc1, hc2, hc3⟩ := depsThen_at a _ E a0 hI.ts.symm (fun p hp => by
      have hd := List.all_eq_true.1 hE.1 p hp
      simp only [Bool.and_eq_true, decide_eq_true_eq, beq_iff_eq] at hd
      have := hI.fact p.1 (by omega) (hl p.1 hd.1)
      simp only [hd.2] at this
      exact this) (hend w hI.ext)
    have : c = a := by
      obtain ⟨ct, cd⟩ := c
      obtain ⟨at', ad⟩ := a
      have e2 : cd = ad := hc2.trans hI.df.symm
      have e1 : ct = at' := by
        apply Array.ext_getElem?
        intro s
        refine tmps_ext (a := ⟨ct, cd⟩) (b := ⟨at', ad⟩) hc1 ?_
        rw [hc3]
        split
        · rfl
        · rename_i hn
          refine (hI.old s fun j hj => ?_).symm
          rcases Nat.lt_or_ge j m with hjm | hjm
          · exfalso
            have h2 := List.all_eq_true.1 hE.2 j (List.mem_range.2 hjm)
            simp only [hj, List.any_eq_true, beq_iff_eq] at h2
            obtain ⟨p, hp, hpj⟩ := h2
            have hd := List.all_eq_true.1 hE.1 p hp
            simp only [Bool.and_eq_true, decide_eq_true_eq, beq_iff_eq] at hd
            have hd2 := hd.2
            rw [hpj, hj] at hd2
            exact hn ⟨p, hp, (Option.some.inj hd2).symm⟩
          · exact hno j hjm
      rw [e1, e2]
    rw [← this]
    exact chain_any hc hord fuel m listed c w (Nat.le_refl _) hf hI.size hl hno hI.down (hk (by rw [this]; exact fun i hi j hj hne => hP i hi j hj hne (hl i (hA i hi)) (hl j (hA j hj))))
  have hready_lt : ∀ (listed : Array Bool) (a : Act) (w : World), (∀ j, m ≤ j → listed.getD j false = false) → Inv ops F a0 w0 listed a w → (¬ ∀ j, j < m → listed.getD j false = true) → ∀ i ∈ Region.ready .any ops listed, i < m := by
    intro listed a w hno hI hnot i hi
    obtain ⟨_, o, ho, _⟩ := mem_ready.1 hi
    have his : i < ops.size := (Array.getElem?_eq_some_iff.1 ho).1
    rcases Nat.lt_or_ge i m with h' | h'
    · exact h'
    · exfalso
      have hr := chain_reach hc hI.down his h' (waits_of_ready hi)
      exact hnot fun j hj => hr j (by omega)
  have hcount : ∀ (listed : Array Bool), listed.size = ops.size → (∀ j, j < m → listed.getD j false = true) → (∀ j, m ≤ j → listed.getD j false = false) → m + listed.count false = ops.size := by
    intro listed hs hl hno
    have e : listed = (List.replicate m true ++ List.replicate (ops.size - m) false).toArray := by
      apply Array.ext
      · simp; omega
      · intro j h1 h2
        have hj : j < listed.size := h1
        rcases Nat.lt_or_ge j m with hjm | hjm
        · have := hl j hjm
          simp [hj] at this
          rw [this]
          simp [hjm]
        · have := hno j hjm
          simp [hj] at this
          rw [this]
          have : ¬ j < m := by omega
          simp [List.getElem_append, this]
    rw [e]
    simp [List.count_append, List.count_replicate]
    omega
  intro fuel
  induction fuel with
  | zero =>
    intro listed a w hc0 hno hI hP
    by_cases hl : ∀ j, j < m → listed.getD j false = true
    · exact fin 0 listed a w (by have := hcount listed hI.size hl hno; omega) hl hno hI hP
    · exfalso
      apply hl
      intro j hj
      have hj' : j < listed.size := by rw [hI.size]; omega
      have := Array.count_eq_zero.1 hc0
      have h2 : listed[j] ≠ false := fun e => this (e ▸ Array.getElem_mem hj')
      simp [hj']; simpa using h2
  | succ fuel ih =>
    intro listed a w hcn hno hI hP
    by_cases hl : ∀ j, j < m → listed.getD j false = true
    · exact fin (fuel + 1) listed a w (by have := hcount listed hI.size hl hno; omega) hl hno hI hP
    refine ⟨fun hr => ?_, fun i hi => ?_⟩
    · exfalso
      apply hl
      intro j
      induction j using Nat.strongRecOn with
      | _ j ihj =>
        intro hjm
        have hj : j < ops.size := by omega
        cases hlj : listed.getD j false with
        | true => rfl
        | false =>
          exfalso
          have ho : ops[j]? = some ops[j] := by simp [hj]
          have hmem : j ∈ Region.ready .any ops listed := by
            refine mem_ready.2 ⟨?_, ops[j], ho, fun e he hb => ?_⟩
            · have : j < listed.size := by rw [hI.size]; exact hj
              simp [this] at hlj ⊢; exact hlj
            · have := hord j _ ho e he hb
              exact ihj e.on this (by omega)
          rw [hr] at hmem
          cases hmem
    have him := hready_lt listed a w hno hI hl i hi
    obtain ⟨h0, o, ho, hafter⟩ := mem_ready.1 hi
    have hil : i < ops.size := (Array.getElem?_eq_some_iff.1 ho).1
    have hil' : i < listed.size := hI.size ▸ hil
    have h0' : listed.getD i false = false := by simp [hil'] at h0 ⊢; exact h0
    have hopk := hall him ho
    simp only [opOk, Bool.and_eq_true] at hopk
    obtain ⟨⟨⟨⟨hk1, hk2⟩, hk3⟩, hk4⟩, hk5⟩ := hopk
    have hdep2 : ∀ p ∈ D.getD i [], waits ops i p.1 = true ∧ dstOf ops p.1 = some p.2 := fun p hp => by
      have := List.all_eq_true.1 hk3 p hp
      simpa using this
    have hdeps : ∀ p ∈ D.getD i [], listed.getD p.1 false = true := fun p hp => waits_of_ready hi p.1 (hdep2 p hp).1
    have hsel : ∀ cs b, o.op ≠ .select cs b := by intro cs b e; rw [e] at hk2; cases hk2
    have hjlt : ∀ j, listed.getD j false = true → j < ops.size := fun j hj => by
      rcases Nat.lt_or_ge j listed.size with h' | h'
      · exact hI.size ▸ h'
      · simp [Array.getElem?_eq_none h'] at hj
    obtain ⟨c, hk, hc1, hc2, hc3⟩ := depsThen_at a _ (D.getD i []) a0 hI.ts.symm (fun p hp => by
      have := hI.fact p.1 (hjlt p.1 (hdeps p hp)) (hdeps p hp)
      simp only [(hdep2 p hp).2] at this
      exact this) (hobs him ho w hI.ext)
    have same : ∀ s ∈ o.looksAt ops, c.tmps[s]? = a.tmps[s]? := by
      intro s hs
      refine tmps_ext hc1 ?_
      rw [hc3]
      split
      · rfl
      · rename_i hn
        refine (hI.old s fun j hj => ?_).symm
        have hjl : j < ops.size := by
          unfold dstOf at hj
          rcases Nat.lt_or_ge j ops.size with h' | h'
          · exact h'
          · rw [Array.getElem?_eq_none h'] at hj; cases hj
        have h1 := List.all_eq_true.1 (List.all_eq_true.1 hk5 s hs) j (List.mem_range.2 hjl)
        simp only [Bool.or_eq_true, bne_iff_ne, ne_eq, beq_iff_eq] at h1
        rcases h1 with ((h1 | h1) | h1) | h1
        · exact absurd hj h1
        · exfalso
          rw [List.any_eq_true] at h1
          obtain ⟨p, hp, hpj⟩ := h1
          have hd := (hdep2 p hp).2
          rw [eq_of_beq hpj, hj] at hd
          exact hn ⟨p, hp, (Option.some.inj hd).symm⟩
        · rw [h1]; exact h0'
        · cases hlj : listed.getD j false with
          | false => rfl
          | true => have := hI.down j hlj i h1; rw [h0'] at this; cases this
    have heval : execOp c.eval o = execOp a.eval o := execOp_congr o hsel fun x hx => by
      cases x with
      | tmp t =>
        have := same t (List.mem_append_left _ (List.mem_filterMap.2 ⟨.tmp t, by simpa using hx, rfl⟩))
        simp [Act.eval, this]
      | _ => rfl
    have hwant : Region.wanted o (yielded ops c.tmps) = Region.wanted o (yielded ops a.tmps) := by
      unfold Region.wanted
      cases hg : o.guard with
      | none => rfl
      | some gw =>
        obtain ⟨g, want⟩ := gw
        have hy : yielded ops c.tmps g = yielded ops a.tmps g := by
          unfold yielded
          cases ht : (ops[g]?).bind (·.dst) with
          | none => rfl
          | some t =>
            have := same t (by simp [Oper.looksAt, hg, ht])
            simp [this]
        simp only [hy]
    have next : ∀ v w', Ext w w' → (i ∈ A → v = .pointer (some ⟨w.heap.size, 0, none⟩)) → F i (match o.dst with | some d => (c.put o.dst v).tmps.getD d undef | none => undef) w' →
        wpAny P .any ops Q fuel (listed.setIfInBounds i true) (a.put o.dst v) w' := by
      intro v w' hx hal hF
      have hdst : dstOf ops i = o.dst := by simp [dstOf, ho]
      have hkeep : ∀ k, i ≠ k → listed.getD k false = true → valOf ops (a.put o.dst v) k = valOf ops a k := by
        intro k hne hlk
        unfold valOf
        cases hdk : dstOf ops k with
        | none => rfl
        | some d =>
          have hne2 : o.dst ≠ some d := fun e => by
            rw [e] at hk1
            simp only [Bool.and_eq_true] at hk1
            have := List.all_eq_true.1 hk1.2 k (List.mem_range.2 (hjlt k hlk))
            simp [hdk, Ne.symm hne] at this
          exact put_getD_ne _ hne2
      have hnew : i ∈ A → valOf ops (a.put o.dst v) i = .pointer (some ⟨w.heap.size, 0, none⟩) := by
        intro hiA
        obtain ⟨⟨d, hd⟩, _, _⟩ := hAl i o hiA ho
        have hds : d < a0.tmps.size := by
          rw [hd] at hk1
          simp only [Bool.and_eq_true, decide_eq_true_eq] at hk1
          exact hk1.1
        unfold valOf
        rw [hdst, hd]
        show (a.put (some d) v).tmps.getD d undef = _
        rw [put_getD_eq _ (by rw [hI.ts]; exact hds)]
        exact hal hiA
      have hold : ∀ k, k ∈ A → listed.getD k false = true → valOf ops a k ≠ .pointer (some ⟨w.heap.size, 0, none⟩) := by
        intro k hkA hlk e
        obtain ⟨b, hb, hlt⟩ := hin k hkA _ _ (hI.fact k (hjlt k hlk) hlk)
        have : valOf ops a k = .pointer (some ⟨b, 0, none⟩) := hb
        rw [this] at e
        simp only [Value.pointer.injEq, Option.some.injEq, Addr.mk.injEq] at e
        omega
      have hP2 : Apart ops A (listed.setIfInBounds i true) (a.put o.dst v) := by
        intro x hx y hy hxy hlx hly
        by_cases e1 : i = x
        · subst e1
          have hly' : listed.getD y false = true := by rwa [getD_set_ne false hxy] at hly
          rw [hnew hx, hkeep y hxy hly']
          exact Ne.symm (hold y hy hly')
        · have hlx' : listed.getD x false = true := by rwa [getD_set_ne false e1] at hlx
          rw [hkeep x e1 hlx']
          by_cases e2 : i = y
          · subst e2
            rw [hnew hy]
            exact hold x hx hlx'
          · have hly' : listed.getD y false = true := by rwa [getD_set_ne false e2] at hly
            rw [hkeep y e2 hly']
            exact hP x hx y hy hxy hlx' hly'
      refine ih _ _ _ ?_ ?_ ⟨by simpa using hI.size, by rw [put_size]; exact hI.ts, by rw [put_defers]; exact hI.df, ?_, ?_, ?_, hI.ext.trans hx⟩ hP2
      · have hset : listed.setIfInBounds i true = listed.set i true hil' := by simp [Array.setIfInBounds, hil']
        rw [hset, Array.count_set]
        have : listed[i] = false := by simpa [hil'] using h0'
        simp [this]; omega
      · intro j hj
        rw [getD_set_ne false (by omega)]; exact hno j hj
      · intro s hs
        have hne : o.dst ≠ some s := fun e => by
          have := hs i (hdst.trans e)
          simp [hil'] at this
        rw [put_getD_ne _ hne]
        refine hI.old s fun j hj => ?_
        by_cases hji : i = j
        · rw [← hji]; exact h0'
        · have := hs j hj
          rwa [getD_set_ne false hji] at this
      · intro j hj hlj
        by_cases hji : i = j
        · subst hji
          rw [hdst]
          cases hd : o.dst with
          | none => simp only [hd] at hF; exact hF
          | some d =>
            simp only [hd] at hF hk1
            simp only [Bool.and_eq_true, decide_eq_true_eq] at hk1
            rw [put_getD_eq _ (by rw [hc1, hI.ts]; exact hk1.1)] at hF
            show F i ((a.put (some d) v).tmps.getD d undef) w'
            rw [put_getD_eq _ (by rw [hI.ts]; exact hk1.1)]
            exact hF
        · rw [getD_set_ne false hji] at hlj
          have hfj := hst _ _ _ _ hx (hI.fact j hj hlj)
          cases hdj : dstOf ops j with
          | none => simp only [hdj] at hfj; exact hfj
          | some d =>
            simp only [hdj] at hfj
            have hne : o.dst ≠ some d := fun e => by
              rw [e] at hk1
              simp only [Bool.and_eq_true] at hk1
              have := List.all_eq_true.1 hk1.2 j (List.mem_range.2 hj)
              simp [hdj, Ne.symm hji] at this
            show F j ((a.put o.dst v).tmps.getD d undef) w'
            rw [put_getD_ne _ hne]
            exact hfj
      · intro j hlj k hw
        by_cases hji : i = j
        · subst hji; exact getD_set_true (waits_of_ready hi k hw)
        · rw [getD_set_ne false hji] at hlj
          exact getD_set_true (hI.down j hlj k hw)
    unfold wpOp
    rw [ho]
    simp only []
    rw [← hwant]
    simp only [wpList] at hk
    split
    · rename_i hw
      rw [if_pos hw] at hk
      rcases hk with hk | ⟨_, x, y, hxy⟩
      · refine .inl ?_
        unfold Oper.wp at hk ⊢
        rw [heval] at hk
        have hGo : i ∈ A → ∀ n w', (execOp a.eval o).run P w = .ok n w' → n = .value (.pointer (some ⟨w.heap.size, 0, none⟩)) := fun hiA => (hAl i o hiA ho).2.2 a.eval w
        generalize (execOp a.eval o).run P w = r at *
        cases r with
        | ok n w' =>
          cases n <;> simp only [Oper.upon] at hk ⊢
          case value u => exact next u w' hk.2.1 (fun hiA => by have := hGo hiA _ _ rfl; simpa using this) hk.2.2.2
          case skip => exact next undef w' hk.2.1 (fun hiA => by have := hGo hiA _ _ rfl; cases this) hk.2.2.2
          case defer d =>
            have := hk.2.2.1
            rw [put_defers] at this
            exact absurd this (by simp)
          case enter f args =>
            refine Calls.mono hk fun e w'' he => ?_
            cases e with
            | returned u => exact next u w'' he.2.1 (fun hiA => by have := hGo hiA _ _ rfl; cases this) he.2.2.2
            | panicked c => exact absurd he.1 (by simp)
            | outgrown => obtain ⟨_, _, h⟩ := he; exact absurd h.1 (by simp)
          case row row args => exact Rows.mono hk fun u w'' he => next u w'' he.2.1 (fun hiA => by have := hGo hiA _ _ rfl; cases this) he.2.2.2
        | halt x w' =>
          cases x <;> simp only [Oper.upon] at hk ⊢
          case panic u => exact absurd hk.1 (by simp)
      · exact absurd hxy.1 (by simp)
    · rename_i hw
      rw [if_neg hw] at hk
      exact next undef w hk.2.1 (fun hiA => by obtain ⟨_, hg, _⟩ := hAl i o hiA ho; exact absurd (by simp [Region.wanted, hg]) hw) hk.2.2.2
/-- THE BOXES OF A (operations that make one each) LIE APART. A REGION THAT DRAWS ITS ORDER AND ENDS IN A CHAIN: the first m operations by facts, the others as they stand. -/
theorem wp_region_boxes {id : Nat} {l : List Oper} (m : Nat) (A : List Nat) (Fs : List Fact) (D : List (List (Nat × Tmp))) (E : List (Nat × Tmp)) {a0 : Act} {w0 : World} {Q : Exit → Act → World → Prop}
    (hm : P.follows .mixedOrders = true)
    (hok : (opsOk l.toArray a0.tmps.size 0 (l.take m) D && decide (m ≤ l.length) && ((E.all fun p => decide (p.1 < m) && dstOf l.toArray p.1 == some p.2) && (List.range m).all fun j => match dstOf l.toArray j with | some _ => E.any fun p => p.1 == j | none => true) && chainOk l.toArray m && ordOk l.toArray) = true)
    (hob : Obs P l.toArray (factAt Fs) a0 w0 0 (l.take m) D)
    (hAl : ∀ i, i ∈ A → ∃ o t z, l[i]? = some o ∧ o.op = .alloc t ∧ (∃ d, o.dst = some d) ∧ o.guard = none ∧ (∀ w, Sem.run P (zeroValue t) w = .ok z w) ∧ i < m)
    (hin : ∀ i, i ∈ A → ∀ v w, (Fs.getD i Fact.any).p v w → ∃ b, v = .pointer (some ⟨b, 0, none⟩) ∧ b < w.heap.size)
    (hend : ∀ w, Ext w0 w → depsThen (factAt Fs) w E a0 (fun a => (∀ i, i ∈ A → ∀ j, j ∈ A → i ≠ j → valOf l.toArray a i ≠ valOf l.toArray a j) → wpList P l.toArray Q (l.drop m) a w)) :
    (Code.region id l.toArray true).wp P Q a0 w0 := by
  simp only [Bool.and_eq_true] at hok
  obtain ⟨⟨⟨⟨k1, k2⟩, k3⟩, k4⟩, k5⟩ := hok
  have hno : ∀ j, (Array.replicate l.toArray.size false).getD j false = false := fun j => by
    simp only [Array.getD_eq_getD_getElem?, Array.getElem?_replicate]; split <;> rfl
  refine wp_region_any hm (region_chain2 (m := m) (A := A) (F := factAt Fs) (D := D) (E := E) (w0 := w0) k1 (by simpa using k2) (by simp only [Bool.and_eq_true]; exact k3) k4 ?_ (fun i v w w' hx h => (Fs.getD i Fact.any).st v w w' hx h) hob ?_ hin (fun i hi => by obtain ⟨_, _, _, _, _, _, _, _, h⟩ := hAl i hi; exact h) hend _ _ _ _ ?_ (fun j _ => hno j) ?_ (fun i _ j _ _ h => by rw [hno] at h; cases h))
  · intro i o ho e he hb
    have hi : i < l.toArray.size := (Array.getElem?_eq_some_iff.1 ho).1
    have h1 := List.all_eq_true.1 k5 i (List.mem_range.2 hi)
    simp only [ho] at h1
    have h2 := (Array.all_eq_true_iff_forall_mem.1 h1) e he
    simpa [hb] using h2
  · intro i o hi ho
    obtain ⟨o', t, z, h1, h2, h3, h4, h5, _⟩ := hAl i hi
    have e : o' = o := by simpa [h1] using ho
    subst e
    refine ⟨h3, h4, fun ev w n w' hr => ?_⟩
    simp only [execOp, h2] at hr
    have := hr
    simp [go_sem, h5] at this
    exact this.1.symm
  · simp
  · exact ⟨by simp, rfl, rfl, fun _ _ => rfl, fun j _ h => (by rw [hno] at h; cases h), fun j h => (by rw [hno] at h; cases h), (Ext.refl w0).drew⟩

/-- As depsThen; the values are gathered. -/
def depsThenV (F : Nat → Value → World → Prop) (w : World) : List (Nat × Tmp) → Act → List (Nat × Value) → (Act → List (Nat × Value) → Prop) → Prop
  | [], a, vs, k => k a vs
  | p :: js, a, vs, k => ∀ v, F p.1 v w → depsThenV F w js (a.put (some p.2) v) ((p.1, v) :: vs) k
theorem depsThenV_nil {F : Nat → Value → World → Prop} {w : World} {a : Act} {vs : List (Nat × Value)} {k : Act → List (Nat × Value) → Prop} (h : k a vs) : depsThenV F w [] a vs k := h

theorem deps_of_V {F : Nat → Value → World → Prop} {w : World} {sl : Nat → Option Tmp} {k : Act → List (Nat × Value) → Prop} : ∀ (E : List (Nat × Tmp)) (b : Act) (vs : List (Nat × Value)), (E.map (·.2)).Nodup → (∀ p ∈ E, p.2 < b.tmps.size) → (∀ p ∈ E, sl p.1 = some p.2) →
    (∀ x ∈ vs, ∃ s, sl x.1 = some s ∧ s ∉ E.map (·.2) ∧ b.tmps.getD s undef = x.2) → depsThenV F w E b vs k →
    depsThen F w E b fun a => ∃ vs', (∀ x ∈ vs', ∃ s, sl x.1 = some s ∧ a.tmps.getD s undef = x.2) ∧ k a vs'
  | [], b, vs, _, _, _, hv, h => ⟨vs, fun x hx => by obtain ⟨s, h1, _, h3⟩ := hv x hx; exact ⟨s, h1, h3⟩, h⟩
  | p :: js, b, vs, hn, hb, hs, hv, h => by
    intro v hF
    rw [List.map_cons, List.nodup_cons] at hn
    refine deps_of_V js _ _ hn.2 (fun q hq => by rw [put_size]; exact hb q (List.mem_cons_of_mem _ hq)) (fun q hq => hs q (List.mem_cons_of_mem _ hq)) (fun x hx => ?_) (h v hF)
    rcases List.mem_cons.1 hx with e | hx
    · subst e
      exact ⟨p.2, hs p List.mem_cons_self, hn.1, put_getD_eq _ (hb p List.mem_cons_self)⟩
    · obtain ⟨s, h1, h2, h3⟩ := hv x hx
      rw [List.map_cons, List.mem_cons, not_or] at h2
      refine ⟨s, h1, h2.2, ?_⟩
      rw [put_getD_ne _ (fun e => h2.1 (Option.some.inj e).symm)]
      exact h3
theorem deps_mono {F : Nat → Value → World → Prop} {w : World} {k k' : Act → Prop} (hk : ∀ a, k a → k' a) : ∀ (E : List (Nat × Tmp)) (b : Act), depsThen F w E b k → depsThen F w E b k'
  | [], _, h => hk _ h
  | _ :: js, _, h => fun v hF => deps_mono hk js _ (h v hF)

def slotsOk (ops : Array Oper) (n : Nat) (E : List (Nat × Tmp)) : Bool := decide ((E.map (·.2)).Nodup) && E.all fun p => decide (p.2 < n) && dstOf ops p.1 == some p.2

/-- The same, the values gathered: so that what is said of the boxes is said of those values. -/
theorem wp_region_boxesV {id : Nat} {l : List Oper} (m : Nat) (A : List Nat) (Fs : List Fact) (D : List (List (Nat × Tmp))) (E : List (Nat × Tmp)) {a0 : Act} {w0 : World} {Q : Exit → Act → World → Prop}
    (hm : P.follows .mixedOrders = true)
    (hok : (opsOk l.toArray a0.tmps.size 0 (l.take m) D && decide (m ≤ l.length) && ((E.all fun p => decide (p.1 < m) && dstOf l.toArray p.1 == some p.2) && (List.range m).all fun j => match dstOf l.toArray j with | some _ => E.any fun p => p.1 == j | none => true) && chainOk l.toArray m && ordOk l.toArray) = true)
    (hsl : slotsOk l.toArray a0.tmps.size E = true)
    (hob : Obs P l.toArray (factAt Fs) a0 w0 0 (l.take m) D)
    (hAl : ∀ i, i ∈ A → ∃ o t z, l[i]? = some o ∧ o.op = .alloc t ∧ (∃ d, o.dst = some d) ∧ o.guard = none ∧ (∀ w, Sem.run P (zeroValue t) w = .ok z w) ∧ i < m)
    (hin : ∀ i, i ∈ A → ∀ v w, (Fs.getD i Fact.any).p v w → ∃ b, v = .pointer (some ⟨b, 0, none⟩) ∧ b < w.heap.size)
    (hend : ∀ w, Ext w0 w → depsThenV (factAt Fs) w E a0 [] (fun a vs => (∀ x, x ∈ vs → ∀ y, y ∈ vs → x.1 ∈ A → y.1 ∈ A → x.1 ≠ y.1 → x.2 ≠ y.2) → wpList P l.toArray Q (l.drop m) a w)) :
    (Code.region id l.toArray true).wp P Q a0 w0 := by
  simp only [slotsOk, Bool.and_eq_true, decide_eq_true_eq, List.all_eq_true, beq_iff_eq] at hsl
  refine wp_region_boxes m A Fs D E hm hok hob hAl hin fun w hx => ?_
  refine deps_mono (fun a h hap => ?_) E a0 (deps_of_V (sl := dstOf l.toArray) E a0 [] hsl.1 (fun p hp => (hsl.2 p hp).1) (fun p hp => (hsl.2 p hp).2) (fun x hx => by cases hx) (hend w hx))
  obtain ⟨vs', hvs, hk⟩ := h
  have val : ∀ x ∈ vs', valOf l.toArray a x.1 = x.2 := fun x hx => by
    obtain ⟨s, h1, h2⟩ := hvs x hx
    unfold valOf
    rw [h1]; exact h2
  exact hk fun x hx y hy hxA hyA hne => by rw [← val x hx, ← val y hy]; exact hap x.1 hxA y.1 hyA hne

end
end Go.Proofs.YtabegbelkfhbcaaGreat

namespace Go.Proofs.YtabegbelkfhbcaaGreat
open Go.RowKit

section
variable {P : Program}

theorem s_step {ops : Array Oper} {F : Nat → Value → World → Prop} {a0 : Act} {w0 : World} {Q : Exit → Act → World → Prop} {fuel : Nat} {listed : Array Bool} {a : Act} {w : World} {i : Nat} {o : Oper} (Di : List (Nat × Tmp))
    (hi : i ∈ Region.ready .any ops listed) (ho : ops[i]? = some o) (hopk : opOk ops a0.tmps.size i o Di = true) (hob : Ob P ops F a0 w0 i o Di)
    (hst : ∀ i v w w', Ext w w' → F i v w → F i v w') (hI : Inv ops F a0 w0 listed a w)
    (next' : ∀ v w', Inv ops F a0 w0 (listed.setIfInBounds i true) (a.put o.dst v) w' → wpAny P .any ops Q fuel (listed.setIfInBounds i true) (a.put o.dst v) w') :
    wpOp P ops Q i (wpAny P .any ops Q fuel (listed.setIfInBounds i true)) a w := by
  obtain ⟨h0, o', ho', hafter⟩ := mem_ready.1 hi
  obtain rfl : o = o' := by rw [ho] at ho'; exact Option.some.inj ho'
  have hil : i < ops.size := (Array.getElem?_eq_some_iff.1 ho).1
  have hil' : i < listed.size := hI.size ▸ hil
  have h0' : listed.getD i false = false := by simp [hil'] at h0 ⊢; exact h0
  simp only [opOk, Bool.and_eq_true] at hopk
  obtain ⟨⟨⟨⟨hk1, hk2⟩, hk3⟩, hk4⟩, hk5⟩ := hopk
  have hdep2 : ∀ p ∈ Di, waits ops i p.1 = true ∧ dstOf ops p.1 = some p.2 := fun p hp => by
    have := List.all_eq_true.1 hk3 p hp
    simpa using this
  have hdeps : ∀ p ∈ Di, listed.getD p.1 false = true := fun p hp => waits_of_ready hi p.1 (hdep2 p hp).1
  have hsel : ∀ cs b, o.op ≠ .select cs b := by intro cs b e; rw [e] at hk2; cases hk2
  have hjlt : ∀ j, listed.getD j false = true → j < ops.size := fun j hj => by
    rcases Nat.lt_or_ge j listed.size with h' | h'
    · exact hI.size ▸ h'
    · simp [Array.getElem?_eq_none h'] at hj
  obtain ⟨c, hk, hc1, hc2, hc3⟩ := depsThen_at a _ (Di) a0 hI.ts.symm (fun p hp => by
    have := hI.fact p.1 (hjlt p.1 (hdeps p hp)) (hdeps p hp)
    simp only [(hdep2 p hp).2] at this
    exact this) (hob w hI.ext)
  have same : ∀ s ∈ o.looksAt ops, c.tmps[s]? = a.tmps[s]? := by
    intro s hs
    refine tmps_ext hc1 ?_
    rw [hc3]
    split
    · rfl
    · rename_i hn
      refine (hI.old s fun j hj => ?_).symm
      have hjl : j < ops.size := by
        unfold dstOf at hj
        rcases Nat.lt_or_ge j ops.size with h' | h'
        · exact h'
        · rw [Array.getElem?_eq_none h'] at hj; cases hj
      have h1 := List.all_eq_true.1 (List.all_eq_true.1 hk5 s hs) j (List.mem_range.2 hjl)
      simp only [Bool.or_eq_true, bne_iff_ne, ne_eq, beq_iff_eq] at h1
      rcases h1 with ((h1 | h1) | h1) | h1
      · exact absurd hj h1
      · exfalso
        rw [List.any_eq_true] at h1
        obtain ⟨p, hp, hpj⟩ := h1
        have hd := (hdep2 p hp).2
        rw [eq_of_beq hpj, hj] at hd
        exact hn ⟨p, hp, (Option.some.inj hd).symm⟩
      · rw [h1]; exact h0'
      · cases hlj : listed.getD j false with
        | false => rfl
        | true => have := hI.down j hlj i h1; rw [h0'] at this; cases this
  have heval : execOp c.eval o = execOp a.eval o := execOp_congr o hsel fun x hx => by
    cases x with
    | tmp t =>
      have := same t (List.mem_append_left _ (List.mem_filterMap.2 ⟨.tmp t, by simpa using hx, rfl⟩))
      simp [Act.eval, this]
    | _ => rfl
  have hwant : Region.wanted o (yielded ops c.tmps) = Region.wanted o (yielded ops a.tmps) := by
    unfold Region.wanted
    cases hg : o.guard with
    | none => rfl
    | some gw =>
      obtain ⟨g, want⟩ := gw
      have hy : yielded ops c.tmps g = yielded ops a.tmps g := by
        unfold yielded
        cases ht : (ops[g]?).bind (·.dst) with
        | none => rfl
        | some t =>
          have := same t (by simp [Oper.looksAt, hg, ht])
          simp [this]
      simp only [hy]
  have next : ∀ v w', Ext w w' → F i (match o.dst with | some d => (c.put o.dst v).tmps.getD d undef | none => undef) w' →
      wpAny P .any ops Q fuel (listed.setIfInBounds i true) (a.put o.dst v) w' := by
    intro v w' hx hF
    have hdst : dstOf ops i = o.dst := by simp [dstOf, ho]
    refine next' v w' ⟨by simpa using hI.size, by rw [put_size]; exact hI.ts, by rw [put_defers]; exact hI.df, ?_, ?_, ?_, hI.ext.trans hx⟩
    · intro s hs
      have hne : o.dst ≠ some s := fun e => by
        have := hs i (hdst.trans e)
        simp [hil'] at this
      rw [put_getD_ne _ hne]
      refine hI.old s fun j hj => ?_
      by_cases hji : i = j
      · rw [← hji]; exact h0'
      · have := hs j hj
        rwa [getD_set_ne false hji] at this
    · intro j hj hlj
      by_cases hji : i = j
      · subst hji
        rw [hdst]
        cases hd : o.dst with
        | none => simp only [hd] at hF; exact hF
        | some d =>
          simp only [hd] at hF hk1
          simp only [Bool.and_eq_true, decide_eq_true_eq] at hk1
          rw [put_getD_eq _ (by rw [hc1, hI.ts]; exact hk1.1)] at hF
          show F i ((a.put (some d) v).tmps.getD d undef) w'
          rw [put_getD_eq _ (by rw [hI.ts]; exact hk1.1)]
          exact hF
      · rw [getD_set_ne false hji] at hlj
        have hfj := hst _ _ _ _ hx (hI.fact j hj hlj)
        cases hdj : dstOf ops j with
        | none => simp only [hdj] at hfj; exact hfj
        | some d =>
          simp only [hdj] at hfj
          have hne : o.dst ≠ some d := fun e => by
            rw [e] at hk1
            simp only [Bool.and_eq_true] at hk1
            have := List.all_eq_true.1 hk1.2 j (List.mem_range.2 hj)
            simp [hdj, Ne.symm hji] at this
          show F j ((a.put o.dst v).tmps.getD d undef) w'
          rw [put_getD_ne _ hne]
          exact hfj
    · intro j hlj k hw
      by_cases hji : i = j
      · subst hji; exact getD_set_true (waits_of_ready hi k hw)
      · rw [getD_set_ne false hji] at hlj
        exact getD_set_true (hI.down j hlj k hw)
  unfold wpOp
  rw [ho]
  simp only []
  rw [← hwant]
  simp only [wpList] at hk
  split
  · rename_i hw
    rw [if_pos hw] at hk
    rcases hk with hk | ⟨_, x, y, hxy⟩
    · refine .inl ?_
      unfold Oper.wp at hk ⊢
      rw [heval] at hk
      generalize (execOp a.eval o).run P w = r at *
      cases r with
      | ok n w' =>
        cases n <;> simp only [Oper.upon] at hk ⊢
        case value u => exact next u w' hk.2.1 hk.2.2.2
        case skip => exact next undef w' hk.2.1 hk.2.2.2
        case defer d =>
          have := hk.2.2.1
          rw [put_defers] at this
          exact absurd this (by simp)
        case enter f args =>
          refine Calls.mono hk fun e w'' he => ?_
          cases e with
          | returned u => exact next u w'' he.2.1 he.2.2.2
          | panicked c => exact absurd he.1 (by simp)
          | outgrown => obtain ⟨_, _, h⟩ := he; exact absurd h.1 (by simp)
        case row row args => exact Rows.mono hk fun u w'' he => next u w'' he.2.1 he.2.2.2
      | halt x w' =>
        cases x <;> simp only [Oper.upon] at hk ⊢
        case panic u => exact absurd hk.1 (by simp)
    · exact absurd hxy.1 (by simp)
  · rename_i hw
    rw [if_neg hw] at hk
    exact next undef w hk.2.1 hk.2.2.2

theorem count_put {listed : Array Bool} {i n : Nat} (h : i < listed.size) (h0 : listed.getD i false = false) (hn : listed.count false = n + 1) : (listed.setIfInBounds i true).count false = n := by
  have hset : listed.setIfInBounds i true = listed.set i true h := by simp [Array.setIfInBounds, h]
  rw [hset, Array.count_set]
  have : listed[i] = false := by simpa [h] using h0
  simp [this]; omega

theorem count_upto {listed : Array Bool} {m : Nat} (hms : m ≤ listed.size) (hl : ∀ j, j < m → listed.getD j false = true) (hno : ∀ j, m ≤ j → listed.getD j false = false) : m + listed.count false = listed.size := by
  have e : listed = (List.replicate m true ++ List.replicate (listed.size - m) false).toArray := by
    apply Array.ext
    · simp; omega
    · intro j h1 h2
      have hj : j < listed.size := h1
      rcases Nat.lt_or_ge j m with hjm | hjm
      · have := hl j hjm
        simp [hj] at this
        rw [this]
        simp [hjm]
      · have := hno j hjm
        simp [hj] at this
        rw [this]
        have : ¬ j < m := by omega
        simp [List.getElem_append, this]
  conv => lhs; rw [e]
  simp [List.count_append, List.count_replicate]
  omega

theorem step_op {ops : Array Oper} {Q : Exit → Act → World → Prop} {fuel : Nat} {listed : Array Bool} {a : Act} {w : World} {k : Nat} {o : Oper} {rest : List Oper} (ho : ops[k]? = some o) (h : wpList P ops Q (o :: rest) a w)
    (next : ∀ a w, wpList P ops Q rest a w → wpAny P .any ops Q fuel (listed.setIfInBounds k true) a w) : wpOp P ops Q k (wpAny P .any ops Q fuel (listed.setIfInBounds k true)) a w := by
  unfold wpOp
  rw [ho]
  simp only []
  simp only [wpList] at h
  split
  · rename_i hw
    rw [if_pos hw] at h
    exact h.imp (Oper.wp_mono next) id
  · rename_i hw
    rw [if_neg hw] at h
    exact next _ _ h

theorem deps_act {ops : Array Oper} {F : Nat → Value → World → Prop} {a0 : Act} {w0 : World} {listed : Array Bool} {a : Act} {w : World} {E : List (Nat × Tmp)} {k : Act → Prop} (hI : Inv ops F a0 w0 listed a w)
    (hE : ∀ p ∈ E, p.1 < ops.size ∧ dstOf ops p.1 = some p.2 ∧ listed.getD p.1 false = true) (hn : ∀ j s, dstOf ops j = some s → (∀ p ∈ E, p.1 ≠ j) → listed.getD j false = false)
    (h : depsThen F w E a0 k) : k a := by
  obtain ⟨c, hk, hc1, hc2, hc3⟩ := depsThen_at a _ E a0 hI.ts.symm (fun p hp => by
    have hd := hE p hp
    have := hI.fact p.1 hd.1 hd.2.2
    simp only [hd.2.1] at this
    exact this) h
  have : c = a := by
    obtain ⟨ct, cd⟩ := c
    obtain ⟨at', ad⟩ := a
    have e2 : cd = ad := hc2.trans hI.df.symm
    have e1 : ct = at' := by
      apply Array.ext_getElem?
      intro s
      refine tmps_ext (a := ⟨ct, cd⟩) (b := ⟨at', ad⟩) hc1 ?_
      rw [hc3]
      split
      · rfl
      · rename_i hne
        refine (hI.old s fun j hj => hn j s hj fun p hp e => hne ⟨p, hp, ?_⟩).symm
        have := (hE p hp).2.1
        rw [e, hj] at this
        exact (Option.some.inj this).symm
    rw [e1, e2]
  rw [← this]; exact hk

/-- From m on each operation but m + 1 waits for all ahead of it (m + 1 aside, as to m); those behind m + 1 for that one too. -/
def lateOk (ops : Array Oper) (m : Nat) : Bool :=
  ((List.range m).all fun j => (List.range (m + 1)).any fun k => decide (j < k) && waits ops k j) &&
  ((List.range ops.size).all fun i => i < m + 2 || (waits ops i (m + 1) && waits ops i m))

theorem region_late {ops : Array Oper} {m dx : Nat} {om ox : Oper} {F : Nat → Value → World → Prop} {a0 : Act} {w0 : World} {D : List (List (Nat × Tmp))} {E : List (Nat × Tmp)} {Q : Exit → Act → World → Prop}
    (hok : opsOk ops a0.tmps.size 0 (ops.toList.take m) D = true) (hms : m + 2 ≤ ops.size) (hom : ops[m]? = some om) (hox : ops[m + 1]? = some ox) (hokx : opOk ops a0.tmps.size (m + 1) ox [] = true) (hdx : dstOf ops (m + 1) = some dx)
    (hE : ((E.all fun p => decide (p.1 < m) && dstOf ops p.1 == some p.2) && (List.range m).all fun j => match dstOf ops j with | some _ => E.any fun p => p.1 == j | none => true) = true)
    (hc : chainOk ops (m + 2) = true) (hlate : lateOk ops m = true) (hord : ∀ i o, ops[i]? = some o → ∀ e ∈ o.after, Region.binds .any e = true → e.on < i) (hordm : ∀ o, ops[m + 1]? = some o → ∀ e ∈ o.after, Region.binds .any e = true → False) (hordn : waits ops m (m + 1) = false)
    (hst : ∀ i v w w', Ext w w' → F i v w → F i v w')
    (hob : Obs P ops F a0 w0 0 (ops.toList.take m) D) (hobx : Ob P ops F a0 w0 (m + 1) ox [])
    (hendA : ∀ w, Ext w0 w → depsThen F w (E ++ [(m + 1, dx)]) a0 (fun a => wpList P ops Q (om :: ops.toList.drop (m + 2)) a w))
    (hendB : ∀ w, Ext w0 w → depsThen F w E a0 (fun a => wpList P ops Q (om :: ox :: ops.toList.drop (m + 2)) a w)) :
    ∀ (fuel : Nat) (listed : Array Bool) (a : Act) (w : World), listed.count false = fuel → (∀ j, m ≤ j → j ≠ m + 1 → listed.getD j false = false) → Inv ops F a0 w0 listed a w → wpAny P .any ops Q fuel listed a w := by
  have hget : ∀ {i o}, i < m → ops[i]? = some o → (ops.toList.take m)[i]? = some o := fun {i o} hi h => by
    rw [List.getElem?_take, if_pos hi]; simpa using h
  have hall : ∀ {i o}, i < m → ops[i]? = some o → opOk ops a0.tmps.size i o (D.getD i []) = true := fun {i o} hi h => by
    have := opsOk_get hok i o (hget hi h); simpa using this
  have hobs : ∀ {i o}, i < m → ops[i]? = some o → Ob P ops F a0 w0 i o (D.getD i []) := fun {i o} hi h => by
    have := Obs_get hob i o (hget hi h); simpa using this
  simp only [lateOk, Bool.and_eq_true] at hlate
  have hEE : ∀ p ∈ E, p.1 < m ∧ dstOf ops p.1 = some p.2 := fun p hp => by
    simp only [Bool.and_eq_true] at hE
    have hd := List.all_eq_true.1 hE.1 p hp
    simpa using hd
  have hEn : ∀ j s, j < m → dstOf ops j = some s → ∃ p ∈ E, p.1 = j := fun j s hj hd => by
    simp only [Bool.and_eq_true] at hE
    have h2 := List.all_eq_true.1 hE.2 j (List.mem_range.2 hj)
    simp only [hd, List.any_eq_true, beq_iff_eq] at h2
    exact h2
  have hlate1 : ∀ i, m + 2 ≤ i → i < ops.size → waits ops i (m + 1) = true ∧ waits ops i m = true := fun i h1 h2 => by
    have := List.all_eq_true.1 hlate.2 i (List.mem_range.2 h2)
    simp only [Bool.or_eq_true, decide_eq_true_eq, Bool.and_eq_true] at this
    rcases this with h | h
    · omega
    · exact h
  -- m waits, by way of others, for all ahead
  have hreach : ∀ (listed : Array Bool), (∀ j, listed.getD j false = true → ∀ i, waits ops j i = true → listed.getD i false = true) → (∀ j, waits ops m j = true → listed.getD j false = true) → ∀ j, j < m → listed.getD j false = true := by
    intro listed down hd
    have key : ∀ d j, m - j = d → j < m → listed.getD j false = true := by
      intro d
      induction d using Nat.strongRecOn with
      | _ d ih =>
        intro j hd' hj
        have h1 := List.all_eq_true.1 hlate.1 j (List.mem_range.2 hj)
        obtain ⟨k, hk, hk2⟩ := List.any_eq_true.1 h1
        simp only [Bool.and_eq_true, decide_eq_true_eq] at hk2
        have hki := List.mem_range.1 hk
        by_cases he : k = m
        · subst he; exact hd j hk2.2
        · exact down k (ih (m - k) (by omega) k rfl (by omega)) j hk2.2
    intro j hj
    exact key _ j rfl hj
  have hready_of : ∀ (listed : Array Bool) (a : Act) (w : World) (i : Nat) (o : Oper), Inv ops F a0 w0 listed a w → ops[i]? = some o → listed.getD i false = false → (∀ e ∈ o.after, Region.binds .any e = true → listed.getD e.on false = true) → i ∈ Region.ready .any ops listed := by
    intro listed a w i o hI ho h0 hall
    have hi : i < ops.size := (Array.getElem?_eq_some_iff.1 ho).1
    have : i < listed.size := by rw [hI.size]; exact hi
    refine mem_ready.2 ⟨?_, o, ho, hall⟩
    simp [this] at h0 ⊢; exact h0
  -- behind m + 1: the chain
  have tail : ∀ (fuel : Nat) (listed : Array Bool) (a : Act) (w : World), listed.size = ops.size → listed.count false = fuel → (∀ j, j < m + 2 → listed.getD j false = true) → (∀ j, m + 2 ≤ j → listed.getD j false = false) →
      (∀ j, listed.getD j false = true → ∀ i, waits ops j i = true → listed.getD i false = true) → wpList P ops Q (ops.toList.drop (m + 2)) a w → wpAny P .any ops Q fuel listed a w := by
    intro fuel listed a w hs hcn hl hno hdn h
    refine chain_any hc hord fuel (m + 2) listed a w (Nat.le_refl _) ?_ hs hl hno hdn h
    have := count_upto (by rw [hs]; exact hms) hl hno
    omega
  have hput : ∀ (listed : Array Bool) (i j : Nat), i < listed.size → (listed.setIfInBounds i true).getD j false = if i = j then true else listed.getD j false := by
    intro listed i j hi
    by_cases e : i = j
    · subst e; simp [hi]
    · rw [getD_set_ne false e, if_neg e]
  have hdown : ∀ (listed : Array Bool) (i : Nat), i < listed.size → (∀ j, listed.getD j false = true → ∀ i, waits ops j i = true → listed.getD i false = true) → (∀ j, waits ops i j = true → listed.getD j false = true) → ∀ j, (listed.setIfInBounds i true).getD j false = true → ∀ k, waits ops j k = true → (listed.setIfInBounds i true).getD k false = true := by
    intro listed i hi hdn hw j hj k hk
    rw [hput _ _ _ hi] at hj ⊢
    split
    · rfl
    · by_cases e : i = j
      · subst e; exact hw k hk
      · rw [if_neg e] at hj; exact hdn j hj k hk
  intro fuel
  induction fuel with
  | zero =>
    intro listed a w hc0 hno hI
    exfalso
    have h1 := hno m (Nat.le_refl _) (by omega)
    have hm' : m < listed.size := by rw [hI.size]; omega
    have := Array.count_eq_zero.1 hc0
    simp [hm'] at h1
    exact this (h1 ▸ Array.getElem_mem hm')
  | succ fuel ih =>
    intro listed a w hcn hno hI
    have hm' : m < listed.size := by rw [hI.size]; omega
    have hx' : m + 1 < listed.size := by rw [hI.size]; omega
    -- an operation by its facts
    have facts : ∀ i, i ∈ Region.ready .any ops listed → (i < m ∨ i = m + 1) → wpOp P ops Q i (wpAny P .any ops Q fuel (listed.setIfInBounds i true)) a w := by
      intro i hi him
      obtain ⟨h0, o, ho, _⟩ := mem_ready.1 hi
      have his : i < listed.size := by rw [hI.size]; exact (Array.getElem?_eq_some_iff.1 ho).1
      have h0' : listed.getD i false = false := by simp [his] at h0 ⊢; exact h0
      have nx : ∀ v w', Inv ops F a0 w0 (listed.setIfInBounds i true) (a.put o.dst v) w' → wpAny P .any ops Q fuel (listed.setIfInBounds i true) (a.put o.dst v) w' := fun v w' hI' => by
        refine ih _ _ _ (count_put his h0' hcn) (fun j hj hjx => ?_) hI'
        rw [hput _ _ _ his, if_neg (by omega)]; exact hno j hj hjx
      rcases him with him | him
      · exact s_step _ hi ho (hall him ho) (hobs him ho) hst hI nx
      · subst him
        obtain rfl : ox = o := by rw [hox] at ho; exact Option.some.inj ho
        exact s_step _ hi ho hokx hobx hst hI nx
    by_cases hl : ∀ j, j < m → listed.getD j false = true
    · have hmr : m ∈ Region.ready .any ops listed := hready_of listed a w m om hI hom (hno m (Nat.le_refl _) (by omega)) fun e he hb => hl _ (hord m _ hom e he hb)
      refine ⟨fun hr => absurd hmr (by rw [hr]; exact List.not_mem_nil), fun i hi => ?_⟩
      obtain ⟨h0, o, ho, _⟩ := mem_ready.1 hi
      have his : i < ops.size := (Array.getElem?_eq_some_iff.1 ho).1
      have hil : i < listed.size := by rw [hI.size]; exact his
      have h0' : listed.getD i false = false := by simp [hil] at h0 ⊢; exact h0
      by_cases hix : i = m + 1
      · exact facts i hi (.inr hix)
      · have him : i = m := by
          rcases Nat.lt_trichotomy i m with h | h | h
          · rw [hl i h] at h0'; cases h0'
          · exact h
          · exfalso
            have := waits_of_ready hi m (hlate1 i (by omega) his).2
            rw [hno m (Nat.le_refl _) (by omega)] at this; cases this
        subst him
        obtain rfl : om = o := by rw [hom] at ho; exact Option.some.inj ho
        have hdn1 := hdown listed i hil hI.down (waits_of_ready hi)
        cases hx : listed.getD (i + 1) false with
        | true =>
          have h := deps_act hI (E := E ++ [(i + 1, dx)]) (fun p hp => by
            rcases List.mem_append.1 hp with hp | hp
            · have := hEE p hp; exact ⟨by omega, this.2, hl p.1 this.1⟩
            · rw [List.mem_singleton.1 hp]; exact ⟨by show i + 1 < _; omega, hdx, hx⟩) (fun j s hj hne => by
            rcases Nat.lt_or_ge j i with h | h
            · obtain ⟨p, hp, e⟩ := hEn j s h hj
              exact absurd e (hne p (List.mem_append_left _ hp))
            · refine hno j h fun e => ?_
              exact hne (i + 1, dx) (List.mem_append_right _ (List.mem_singleton.2 rfl)) e.symm) (hendA w hI.ext)
          refine step_op ho h fun a' w' h' => tail fuel _ a' w' (by simpa using hI.size) (count_put hil h0' hcn) (fun j hj => ?_) (fun j hj => ?_) hdn1 h'
          · rw [hput _ _ _ hil]; split
            · rfl
            · by_cases e : j = i + 1
              · subst e; exact hx
              · exact hl j (by omega)
          · rw [hput _ _ _ hil, if_neg (by omega)]; exact hno j (by omega) (by omega)
        | false =>
          have h := deps_act hI (E := E) (fun p hp => by have := hEE p hp; exact ⟨by omega, this.2, hl p.1 this.1⟩) (fun j s hj hne => by
            rcases Nat.lt_or_ge j i with h | h
            · obtain ⟨p, hp, e⟩ := hEn j s h hj
              exact absurd e (hne p hp)
            · by_cases e : j = i + 1
              · subst e; exact hx
              · exact hno j h e) (hendB w hI.ext)
          refine step_op ho h fun a' w' h' => ?_
          have hcn1 := count_put hil h0' hcn
          cases fuel with
          | zero =>
            exfalso
            have h1 : (listed.setIfInBounds i true).getD (i + 1) false = false := by rw [hput _ _ _ hil, if_neg (by omega)]; exact hx
            have hs1 : i + 1 < (listed.setIfInBounds i true).size := by simpa using hx'
            have := Array.count_eq_zero.1 hcn1
            have h2 : (listed.setIfInBounds i true)[i + 1] = false := by simp only [Array.getD_eq_getD_getElem?, Array.getElem?_eq_getElem hs1, Option.getD_some] at h1; exact h1
            exact this (h2 ▸ Array.getElem_mem hs1)
          | succ fuel =>
            have hs1 : (listed.setIfInBounds i true).size = ops.size := by simpa using hI.size
            have hx1 : (listed.setIfInBounds i true).getD (i + 1) false = false := by rw [hput _ _ _ hil, if_neg (by omega)]; exact hx
            have hil1 : i + 1 < (listed.setIfInBounds i true).size := by rw [hs1]; omega
            have hmr1 : i + 1 ∈ Region.ready .any ops (listed.setIfInBounds i true) := by
              refine mem_ready.2 ⟨?_, ox, hox, fun e he hb => (hordm ox hox e he hb).elim⟩
              have h2 := hx1
              simp only [Array.getD_eq_getD_getElem?, Array.getElem?_eq_getElem hil1, Option.getD_some] at h2
              simpa [hx'] using h2
            refine ⟨fun hr => absurd hmr1 (by rw [hr]; exact List.not_mem_nil), fun k hk => ?_⟩
            obtain ⟨k0, o, hok2, _⟩ := mem_ready.1 hk
            have hks : k < ops.size := (Array.getElem?_eq_some_iff.1 hok2).1
            have hkl : k < (listed.setIfInBounds i true).size := by rw [hs1]; exact hks
            have k0' : (listed.setIfInBounds i true).getD k false = false := by
              simp only [Array.getD_eq_getD_getElem?, Array.getElem?_eq_getElem hkl, Option.getD_some]
              simpa [hkl, hks, hI.size] using k0
            have hki : k = i + 1 := by
              rw [hput _ _ _ hil] at k0'
              split at k0'
              · cases k0'
              · rcases Nat.lt_trichotomy k (i + 1) with h | h | h
                · rw [hl k (by omega)] at k0'; cases k0'
                · exact h
                · exfalso
                  have := waits_of_ready hk (i + 1) (hlate1 k (by omega) hks).1
                  rw [hx1] at this; cases this
            subst hki
            have hdn2 := hdown _ (i + 1) hil1 hdn1 (waits_of_ready hk)
            refine step_op hox h' fun a'' w'' h'' => tail fuel _ a'' w'' (by simpa using hI.size) (count_put hil1 hx1 hcn1) (fun j hj => ?_) (fun j hj => ?_) hdn2 h''
            · rw [hput _ _ _ hil1]; split
              · rfl
              · rw [hput _ _ _ hil]; split
                · rfl
                · exact hl j (by omega)
            · rw [hput _ _ _ hil1, if_neg (by omega), hput _ _ _ hil, if_neg (by omega)]; exact hno j (by omega) (by omega)
    · refine ⟨fun hr => ?_, fun i hi => ?_⟩
      · exfalso
        apply hl
        intro j
        induction j using Nat.strongRecOn with
        | _ j ihj =>
          intro hjm
          have hj : j < ops.size := by omega
          cases hlj : listed.getD j false with
          | true => rfl
          | false =>
            exfalso
            have ho : ops[j]? = some ops[j] := by simp [hj]
            have hmem := hready_of listed a w j _ hI ho hlj fun e he hb => by
              have := hord j _ ho e he hb
              exact ihj e.on this (by omega)
            rw [hr] at hmem
            cases hmem
      · refine facts i hi ?_
        obtain ⟨_, o, ho, _⟩ := mem_ready.1 hi
        have his : i < ops.size := (Array.getElem?_eq_some_iff.1 ho).1
        rcases Nat.lt_trichotomy i m with h | h | h
        · exact .inl h
        · exfalso; subst h; exact hl (hreach listed hI.down (waits_of_ready hi))
        · by_cases e : i = m + 1
          · exact .inr e
          · exfalso
            have := waits_of_ready hi m (hlate1 i (by omega) his).2
            rw [hno m (Nat.le_refl _) (by omega)] at this; cases this

/-- A REGION THAT DRAWS ITS ORDER AND ENDS IN A CHAIN, whose second operation (a box that is made) may come up at any time ahead. -/
theorem wp_region_late {id : Nat} {l : List Oper} (m dx : Nat) (om ox : Oper) (Fs : List Fact) (D : List (List (Nat × Tmp))) (E : List (Nat × Tmp)) {a0 : Act} {w0 : World} {Q : Exit → Act → World → Prop}
    (hm : P.follows .mixedOrders = true) (hom : l[m]? = some om) (hox : l[m + 1]? = some ox) (hdx : ox.dst = some dx)
    (hok : (opsOk l.toArray a0.tmps.size 0 (l.take m) D && decide (m + 2 ≤ l.length) && opOk l.toArray a0.tmps.size (m + 1) ox [] && ((E.all fun p => decide (p.1 < m) && dstOf l.toArray p.1 == some p.2) && (List.range m).all fun j => match dstOf l.toArray j with | some _ => E.any fun p => p.1 == j | none => true) && chainOk l.toArray (m + 2) && lateOk l.toArray m && ordOk l.toArray && (ox.after.all fun e => !Region.binds .any e) && !waits l.toArray m (m + 1)) = true)
    (hob : Obs P l.toArray (factAt Fs) a0 w0 0 (l.take m) D) (hobx : Ob P l.toArray (factAt Fs) a0 w0 (m + 1) ox [])
    (hendA : ∀ w, Ext w0 w → depsThen (factAt Fs) w (E ++ [(m + 1, dx)]) a0 (fun a => wpList P l.toArray Q (om :: l.drop (m + 2)) a w))
    (hendB : ∀ w, Ext w0 w → depsThen (factAt Fs) w E a0 (fun a => wpList P l.toArray Q (om :: ox :: l.drop (m + 2)) a w)) :
    (Code.region id l.toArray true).wp P Q a0 w0 := by
  simp only [Bool.and_eq_true] at hok
  obtain ⟨⟨⟨⟨⟨⟨⟨⟨k1, k2⟩, k3⟩, k4⟩, k5⟩, k6⟩, k7⟩, k8⟩, k9⟩ := hok
  have hno : ∀ j, (Array.replicate l.toArray.size false).getD j false = false := fun j => by
    simp only [Array.getD_eq_getD_getElem?, Array.getElem?_replicate]; split <;> rfl
  refine wp_region_any hm (region_late (m := m) (dx := dx) (om := om) (ox := ox) (F := factAt Fs) (D := D) (E := E) (w0 := w0) k1 (by simpa using k2) (by simpa using hom) (by simpa using hox) k3 (by simp [dstOf, hox, hdx]) (by simp only [Bool.and_eq_true]; exact k4) k5 k6 ?_ ?_ (by simpa using k9) (fun i v w w' hx h => (Fs.getD i Fact.any).st v w w' hx h) hob hobx hendA hendB _ _ _ _ ?_ (fun j _ _ => hno j) ?_)
  · intro i o ho e he hb
    have hi : i < l.toArray.size := (Array.getElem?_eq_some_iff.1 ho).1
    have h1 := List.all_eq_true.1 k7 i (List.mem_range.2 hi)
    simp only [ho] at h1
    have h2 := (Array.all_eq_true_iff_forall_mem.1 h1) e he
    simpa [hb] using h2
  · intro o ho e he hb
    obtain rfl : ox = o := by
      have : l[m + 1]? = some o := by simpa using ho
      rw [hox] at this; exact Option.some.inj this
    have h2 := (Array.all_eq_true_iff_forall_mem.1 k8) e he
    simp [hb] at h2
  · simp
  · exact ⟨by simp, rfl, rfl, fun _ _ => rfl, fun j _ h => (by rw [hno] at h; cases h), fun j h => (by rw [hno] at h; cases h), (Ext.refl w0).drew⟩

end
end Go.Proofs.YtabegbelkfhbcaaGreat

namespace Go.Proofs.YtabegbelkfhbcaaGreat
open Go.RowKit Go.Shelf
attribute [local go_sem] Oper.semAt_some

/-- The blocks of S alone may turn. -/
structure Keeps (S : Nat → Prop) (W W' : World) : Prop where
  os : W'.os = W.os
  tape : W'.tape = W.tape
  output : W'.output = W.output
  size : W.heap.size ≤ W'.heap.size
  block : ∀ k, k < W.heap.size → ¬ S k → W'.heap[k]? = W.heap[k]?
theorem Keeps.refl (S : Nat → Prop) (W : World) : Keeps S W W := ⟨rfl, rfl, rfl, Nat.le_refl _, fun _ _ _ => rfl⟩
theorem Keeps.trans {S : Nat → Prop} {A B C : World} (h : Keeps S A B) (k : Keeps S B C) : Keeps S A C :=
  ⟨k.os.trans h.os, k.tape.trans h.tape, k.output.trans h.output, Nat.le_trans h.size k.size, fun i hi hs => (k.block i (Nat.lt_of_lt_of_le hi h.size) hs).trans (h.block i hi hs)⟩
theorem Keeps.of_grown {S : Nat → Prop} {W W' : World} {row : Option Nat} (hg : W.grownBy W' row) (h : ∀ k, row = some k → S k) : Keeps S W W' :=
  ⟨hg.os, hg.tape, hg.output, hg.size, fun k hk hs => hg.block k hk (fun e => hs (h k e.symm))⟩
theorem Keeps.of_ext {S : Nat → Prop} {W W' : World} (h : Ext W W') : Keeps S W W' := ⟨h.os, h.tape, h.output, h.size, fun k hk _ => h.block k hk⟩
theorem Keeps.ext {S : Nat → Prop} {w W W' : World} (h : Keeps S W W') (hx : Ext w W) (hS : ∀ k, S k → w.heap.size ≤ k) : Ext w W' :=
  ⟨h.os.trans hx.os, h.tape.trans hx.tape, h.output.trans hx.output, Nat.le_trans hx.size h.size, fun k hk => (h.block k (Nat.lt_of_lt_of_le hk hx.size) (fun e => by have := hS k e; omega)).trans (hx.block k hk)⟩
theorem Keeps.heap {S : Nat → Prop} {W W' : World} (h : Keeps S W W') {k : Nat} {o : Obj} (ho : W.heap[k]? = some o) (hS : ¬ S k) : W'.heap[k]? = some o :=
  (h.block k (Array.getElem?_eq_some_iff.1 ho).1 hS).trans ho
theorem Keeps.mono {S T : Nat → Prop} {W W' : World} (h : Keeps S W W') (hST : ∀ k, S k → T k) : Keeps T W W' :=
  ⟨h.os, h.tape, h.output, h.size, fun k hk hs => h.block k hk (fun e => hs (hST k e))⟩
theorem own_mono {W : World} {base base' : Nat} {e : TypeId} {size n : Nat} {v : Value} {xs : List Value} (h : W.ownsRow base e size v n xs) (hb : base' ≤ base) : W.ownsRow base' e size v n xs := by
  obtain ⟨h1, h2⟩ := h
  refine ⟨h1, ?_⟩
  rcases h2 with h2 | ⟨g, cap, cur, hv, hg, r⟩
  · exact .inl h2
  · exact .inr ⟨g, cap, cur, hv, Nat.le_trans hb hg, r⟩
theorem own_keeps {S : Nat → Prop} {W W' : World} {base : Nat} {e : TypeId} {size n : Nat} {v : Value} {xs : List Value} (h : W.ownsRow base e size v n xs) (hk : Keeps S W W') (hS : ∀ k, S k → v.ownBlock ≠ some k) : W'.ownsRow base e size v n xs := by
  obtain ⟨h1, h2⟩ := h
  refine ⟨h1, ?_⟩
  rcases h2 with h2 | ⟨g, cap, cur, hv, hg, hh, r⟩
  · exact .inl h2
  · exact .inr ⟨g, cap, cur, hv, hg, hk.heap hh (fun e => hS g e (by rw [hv]; rfl)), r⟩
theorem Keeps.put (S : Nat → Prop) (W : World) (l : Nat) (o : Obj) (h : S l) : Keeps S W (W.putObj l o) := Keeps.of_grown (grownBy_putObj' W l o) (fun k e => by cases e; exact h)
theorem Keeps.cell (S : Nat → Prop) (W : World) (l : Nat) (x : Value) (h : S l) : Keeps S W (W.setCell ⟨l, 0, none⟩ x) := Keeps.of_grown (grownBy_setCell' W l x) (fun k e => by cases e; exact h)
theorem Keeps.row (S : Nat → Prop) (W : World) (l : Nat) (cs : Array Value) (h : S l) : Keeps S W (W.setRow l cs) :=
  ⟨rfl, rfl, rfl, by unfold World.setRow; simp, fun k _ hs => setRow_other W l k cs (fun e => hs (e ▸ h))⟩

/-- The record of a range over a function, in a state, no jump pending. -/
def recOf (fn : FuncId) (tmps : Array Value) (ps : Array Tmp) (assign body : Code) (D : Nat) (st : LoopState) : Loop :=
  { state := st, pending := none, fn, tmps, params := ps, assign, body, defers := D }
/-- The same, to return. -/
def recRet (rc : LoopState → Loop) (st : LoopState) : Loop := { rc st with pending := some .ret }

/-- A range over a function whose body may leave by a return. -/
theorem range_law {n : Nat} {P : Program} {g : Operand} {ps : Array Tmp} {assign body : Code} {Q : Exit → Act → World → Prop} {a : Act} {w : World} {gf : Nat} {lb : Array Value}
    (hg : a.eval g = .func (.func gf) #[] lb) (eg : ∀ args w, (callFunc gf args).run P w = .ok (.enter gf args) w)
    (h : ∀ fn rc, rc = recOf fn a.tmps ps assign body w.heap.size → CallsIn Fence.wide (n - 1) P gf (#[.func (.yield (w.heap.size + 1)) #[] #[]] ++ lb) ((w.alloc (.deferred (some []))).alloc (.loop (rc .ready))) fun e W =>
      (∃ v, e = .returned v) ∧ ((W.heap[w.heap.size + 1]? = some (.loop (rc .ready)) ∧
        Q .normal { a with defers := { target := .collected w.heap.size, args := #[] } :: a.defers } (W.putObj (w.heap.size + 1) (.loop (rc .exhausted)))) ∨
        (W.heap[w.heap.size + 1]? = some (.loop (recRet rc .done)) ∧
        Q .ret { a with defers := { target := .collected w.heap.size, args := #[] } :: a.defers } (W.putObj (w.heap.size + 1) (.loop (recRet rc .exhausted)))))) :
    (Code.rangeFunc g ps assign body).wpIn Fence.wide n P Q a w := by
  refine wpIn_rangeFunc ?_
  intro fn hfn
  have h := h fn _ rfl
  refine ⟨w.heap.size + 1, [{ target := .collected w.heap.size, args := #[] }], (w.alloc (.deferred (some []))).alloc (.loop (recOf fn a.tmps ps assign body w.heap.size .ready)), { target := .fn (.func gf) lb, args := #[.func (.yield (w.heap.size + 1)) #[] #[]] }, (w.alloc (.deferred (some []))).alloc (.loop (recOf fn a.tmps ps assign body w.heap.size .ready)), gf,
    #[.func (.yield (w.heap.size + 1)) #[] #[]] ++ lb, (w.alloc (.deferred (some []))).alloc (.loop (recOf fn a.tmps ps assign body w.heap.size .ready)), ?_, ?_, ?_, ?_, (fun h => by cases h), ?_⟩
  · exact run_enterLoop_outer _ _ _ _ _
  · simp only [resolve, hg]
    simp [go_sem]
  · intro f' hf'; trivial
  · simp [invoke, go_sem, eg]
  · refine h.mono ?_
    rintro e W ⟨⟨v, rfl⟩, ⟨hl, hq⟩ | ⟨hl, hq⟩⟩
    · exact ⟨none, _, run_endLoop hl (by simp [recOf]), hq⟩
    · exact ⟨some .ret, _, run_endLoop hl (by simp [recOf, recRet]), wpIn_ret hq⟩

/-- How a body ends that may leave by a return. -/
def bodyEnd (l : Nat) (r : LoopState → Loop) (R : Ending → World → Prop) : Exit → Act → World → Prop
  | .normal, _, W2 => W2.heap[l]? = some (.loop (r .busy)) ∧ R (.returned (.bool true)) (W2.putObj l (.loop (r .ready)))
  | .ret, _, W2 => W2.heap[l]? = some (.loop (r .busy)) ∧ R (.returned (.bool false)) (W2.putObj l (.loop (recRet r .done)))
  | _, _, _ => False

theorem round_law {n l : Nat} {P : Program} {args : Array Value} {W : World} {R : Ending → World → Prop} {fn : FuncId} {tmps : Array Value} {ps : Array Tmp} {assign body : Code} {D : Nat} {rc : LoopState → Loop} (hrc : rc = recOf fn tmps ps assign body D)
    (hl : W.heap[l]? = some (.loop (rc .ready))) (hs : args.size = ps.size)
    (h : assign.wpIn (Fence.wide.inRound l) n P (Exit.then (fun a₁ w₁ => w₁.heap[l]? = some (.loop (rc .ready)) ∧
      body.wpIn (Fence.wide.inRound l) n P (bodyEnd l rc R) a₁ (w₁.putObj l (.loop (rc .busy)))) (fun _ _ _ => False))
      { tmps := (ps.zip args).foldl (fun tmps (t, a) => tmps.setIfInBounds t a) tmps, defers := [] } W) :
    YieldAt Fence.wide n P l args W R := by
  subst hrc
  refine ⟨fn, _, assign, body, run_yield hl hs, roundIn_of_wpIn trivial (wpIn_mono h ?_)⟩
  rintro e a1 w1 hp
  cases e with
  | normal =>
    obtain ⟨hl1, hb⟩ := hp
    refine ⟨_, run_beginRound hl1 rfl, wpIn_mono hb ?_⟩
    rintro e2 a2 w2 hq
    cases e2 with
    | normal => exact ⟨_, _, run_endRound none hq.1, hq.2⟩
    | ret => exact ⟨_, _, run_endRound (some .ret) hq.1, hq.2⟩
    | exit id => exact hq.elim
    | goto t => exact hq.elim
    | panic c => exact hq.elim
    | outgrown => exact hq.elim
  | ret => exact hp.elim
  | exit id => exact hp.elim
  | goto t => exact hp.elim
  | panic c => exact hp.elim
  | outgrown => exact hp.elim
end Go.Proofs.YtabegbelkfhbcaaGreat

namespace Go.Proofs.YtabegbelkfhbcaaGreat
open Go.RowKit

structure St1 (b : Nat) (X : Obj) (w w' : World) : Prop where
  os : w'.os = w.os
  tape : w'.tape = w.tape
  output : w'.output = w.output
  size : w.heap.size ≤ w'.heap.size
  block : ∀ k, k < w.heap.size → k ≠ b → w'.heap[k]? = w.heap[k]?
  hb : b < w.heap.size → w'.heap[b]? = w.heap[b]? ∨ w'.heap[b]? = some X
theorem St1.of_ext {b : Nat} {X : Obj} {w w' : World} (h : Ext w w') : St1 b X w w' :=
  ⟨h.os, h.tape, h.output, h.size, fun k hk _ => h.block k hk, fun hk => .inl (h.block b hk)⟩
theorem St1.trans {b : Nat} {X : Obj} {x y z : World} (h : St1 b X x y) (k : St1 b X y z) : St1 b X x z := by
  refine ⟨k.os.trans h.os, k.tape.trans h.tape, k.output.trans h.output, Nat.le_trans h.size k.size, fun i hi h1 => (k.block i (Nat.lt_of_lt_of_le hi h.size) h1).trans (h.block i hi h1), fun hb => ?_⟩
  rcases k.hb (Nat.lt_of_lt_of_le hb h.size) with e | e
  · rw [e]; exact h.hb hb
  · exact .inr e
def Step1 (b : Nat) (X : Obj) : Rg.Step := ⟨St1 b X, fun w => St1.of_ext (Ext.refl w), fun h k => h.trans k, fun w => St1.of_ext (Ext.refl w).drew⟩
theorem St1.cell {b : Nat} {X : Obj} {w w' : World} (h : St1 b X w w') {p : Addr} {v : Value} (hc : w.cell? p = some v) (h1 : p.block ≠ b) : w'.cell? p = some v := by
  rw [World.cell?_of_block (a := p) (h.block p.block (World.block_lt_of_cell? w p hc) h1)]; exact hc
theorem St1.ext {b : Nat} {X : Obj} {a w w' : World} (hx : Ext a w) (h : St1 b X w w') (hb : a.heap.size ≤ b) : Ext a w' :=
  ⟨h.os.trans hx.os, h.tape.trans hx.tape, h.output.trans hx.output, Nat.le_trans hx.size h.size, fun k hk => (h.block k (Nat.lt_of_lt_of_le hk hx.size) (by omega)).trans (hx.block k hk)⟩
theorem St1.put {b : Nat} {X : Obj} {w : World} {cs : Array Value} {t : TypeId} {r : Nat × Nat} {c0 : Array Value} (hg : w.heap[b]? = some (.cells c0 t r)) (hX : X = .cells cs t r) : St1 b X w (w.setRow b cs) := by
  have h := setRow_heap w b c0 cs t r hg
  exact ⟨rfl, rfl, rfl, by simp, fun k hk h1 => setRow_other w b k cs h1, fun _ => .inr (by rw [h, hX])⟩
theorem St1.was {b : Nat} {X : Obj} {w w' : World} (h : St1 b X w w') {t : TypeId} {c0 cs : Array Value} (hg : w.heap[b]? = some (.cells c0 t (0, 0))) (hX : X = .cells cs t (0, 0)) (hs : c0.size = cs.size) : ∃ c1 : Array Value, w'.heap[b]? = some (.cells c1 t (0, 0)) ∧ c1.size = cs.size := by
  rcases h.hb (Array.getElem?_eq_some_iff.1 hg).1 with e | e
  · exact ⟨c0, e.trans hg, hs⟩
  · exact ⟨cs, e.trans (by rw [hX]), rfl⟩
def fact1 (b : Nat) (X : Obj) : Rs.Fact (Step1 b X) := ⟨fun _ w => b < w.heap.size ∧ w.heap[b]? = some X, fun _ _ _ hx h => ⟨Nat.lt_of_lt_of_le h.1 hx.size, by rcases hx.hb h.1 with e | e; exact e.trans h.2; exact e⟩⟩
theorem ob_put {P : Program} {ops : Array Oper} {F : Value → World → Prop} {a : Act} {w w0 : World} {o : Oper} {b : Nat} {X : Obj} (ty : TypeId) (x y : Operand) (cs c0 : Array Value) (t : TypeId)
    (ho : o.op = .store ty x y) (hw : Region.wanted o (yielded ops a.tmps) = true) (hd : o.dst = none) (hx : a.eval x = .pointer (some ⟨b, 0, none⟩)) (hy : a.eval y = .agg cs) (hX : X = .cells cs t (0, 0))
    (hr : St1 b X w0 w) (hg : w0.heap[b]? = some (.cells c0 t (0, 0))) (hs : c0.size = cs.size) (hi : (P.info? ty).map (·.size) = some cs.size) (h1 : ∀ v ∈ cs.toList, v.oneCell' = true)
    (hF : ∀ w', b < w'.heap.size → w'.heap[b]? = some X → F undef w') : wpList P ops (Rs.endQ (Step1 b X) F o a w) [o] a w := by
  obtain ⟨c1, hg1, hs1⟩ := hr.was hg hX hs
  refine wpList_store_whole ty x y ho hw b hx cs hy c1 t hg1 hs1 hi h1 (wpList_nil ⟨rfl, St1.put hg1 hX, put_defers _ _ _, ?_⟩)
  rw [hd]
  refine hF _ ?_ ?_
  · have := (Array.getElem?_eq_some_iff.1 hg1).1
    simpa using this
  · rw [setRow_heap w b c1 cs t (0, 0) hg1, hX]
end Go.Proofs.YtabegbelkfhbcaaGreat

namespace Go.Proofs.YtabegbelkfhbcaaGreat
open Go.RowKit

theorem take_ba (b : ByteArray) (k : Nat) (h : k < b.size) : b.data.toList.take (k + 1) = b.data.toList.take k ++ [b[k]] := by
  rw [List.take_succ_eq_append_getElem (by simpa using h)]; rfl
theorem whole_step (l : List UInt8) (c : UInt8) (h : l.length ≤ 7) : wholeF l < 72057594037927936 ∧ wholeF (l ++ [c]) = wholeF l * 256 + c.toNat ∧ bits .or .u64 ((wholeF l : Int) * 256) (c.toNat : Int) = ((wholeF (l ++ [c]) : Nat) : Int) := by
  have h0 := wholeF_lt l.length l rfl
  have hp : 256 ^ l.length ≤ 256 ^ 7 := Nat.pow_le_pow_right (by decide) h
  have h1 : wholeF l < 72057594037927936 := by have : (256 : Nat) ^ 7 = 72057594037927936 := by decide
                                               omega
  have h2 := wholeF_snoc l c
  have hc : c.toNat < 256 := c.toNat_lt
  refine ⟨h1, h2, ?_⟩
  have e : ((wholeF l : Int) * 256) = ((wholeF l * 256 : Nat) : Int) := by omega
  rw [e, u64_or_nat _ _ (by omega) (by omega), h2]
  have h3 := Nat.two_pow_add_eq_or_of_lt (i := 8) (b := c.toNat) hc (wholeF l)
  have h4 : (2 : Nat) ^ 8 = 256 := by decide
  rw [h4, Nat.mul_comm] at h3
  rw [← h3]

theorem u64_byte (c : UInt8) : IntKind.u64.wrap (c.toNat : Int) = (c.toNat : Int) := by
  have : c.toNat < 256 := c.toNat_lt
  simp [IntKind.wrap, IntKind.bits, IntKind.signed]; omega

set_option maxRecDepth 100000 in
set_option maxHeartbeats 2000000 in
theorem whole_ba (w : World) (b : ByteArray) (hs : b.size = 8) : Calls Tryz.prog 61 #[.string b] w fun e w' => e = .returned (.int .u64 (wholeF b.data.toList : Nat)) ∧ w' = w := by
  have hl : b.data.toList.length = 8 := by rw [ba_len]; exact hs
  have HL := Lib.hid hl
  have hle : b.size ≤ 8 := by omega
  have hge : 8 ≤ b.size := by omega
  clear hl hs
  go_enter Tryz.func61, Tryz.ntmps61
  go_wp2_with fail
  go_loop [3, 4, 7] (fun n _ i => ∃ k : Nat, k ≤ b.size ∧ i = .int .i64 k ∧ n = .int .u64 (wholeF (b.data.toList.take k) : Nat)) (fun _ _ i => b.size - (intOf i).toNat)
  case atStart => exact ⟨0, Nat.zero_le _, rfl, rfl⟩
  case round =>
    obtain ⟨k, hk, rfl, rfl⟩ := hrel
    by_cases hlt : k < b.size
    · have hst := whole_step (b.data.toList.take k) b[k] (by rw [List.length_take, HL.out]; omega)
      rw [← take_ba b k hlt] at hst
      have HST := Lib.hid hst
      have hb := hst.1
      clear hst
      generalize wholeF (b.data.toList.take k) = N at *
      generalize hM : wholeF (b.data.toList.take (k + 1)) = M at *
      have HM := Lib.hid hM
      clear hM
      go_wp2_with fail
      go_round
      case rel => exact ⟨k + 1, by omega, by go_num, by rw [u64_byte, HST.out.2.2, HM.out]⟩
      case measure => simp [intOf]; omega
    · obtain rfl : k = b.size := by omega
      go_wp2_with fail
      go_ret
      refine ⟨?_, rfl⟩
      have he : b.data.toList.take b.size = b.data.toList := List.take_of_length_le (by rw [ba_len]; omega)
      show Ending.returned (.int .u64 (wholeF (b.data.toList.take b.size) : Nat)) = _
      rw [he]
theorem whole83_any (w : World) (s : List UInt8) (hs : s.length = 8) : Calls Tryz.prog 61 #[.string (strOf s)] w fun e w' => e = .returned (.int .u64 (wholeF s : Nat)) ∧ w' = w :=
  whole_ba w (strOf s) (by rw [← ba_len]; exact hs)

theorem sign_back {N : Nat} (h : N < 18446744073709551616) : wrap64 (bits .xor .u64 (N : Int) 9223372036854775808) = (N : Int) - 9223372036854775808 := by
  have e1 : (9223372036854775808 : Int) = ((2 ^ 63 : Nat) : Int) := by decide
  rw [e1, u64_xor_nat _ _ (by omega) (by decide)]
  by_cases hn : N < 2 ^ 63
  · rw [xor_top N hn]
    unfold wrap64; omega
  · obtain ⟨m, rfl⟩ : ∃ m, N = m + 2 ^ 63 := ⟨N - 2 ^ 63, by omega⟩
    rw [xor_top2 m (by omega)]
    unfold wrap64; omega

def vCells (v : V) : Array Value := #[.int .i64 v.k, .int .i64 v.n, .string (strOf v.s), .bool v.b]
set_option maxRecDepth 100000 in
set_option maxHeartbeats 2000000 in
theorem some82_any (w : World) (s : List UInt8) (hs : s.length = 8) : Calls Tryz.prog 60 #[.string (strOf s)] w fun e w' => e = .returned (.agg #[.int .i64 1, .int .i64 ((wholeF s : Int) - 9223372036854775808), .string ⟨#[]⟩, .bool false]) ∧ Ext w w' := by
  have hw := fun W => whole83_any W s hs
  have hlt : wholeF s < 18446744073709551616 := wholeF_lt 8 s hs
  have hsb := sign_back hlt
  obtain ⟨hx0, hR⟩ := boxes1 w (.cells #[.int .i64 0, .int .i64 0, .string ⟨#[]⟩, .bool false] 50)
  have HW := Lib.hid hw
  have HSB := Lib.hid hsb
  have HR := Lib.hid hR
  clear hw hsb hR
  generalize wholeF s = N at *
  go_enter Tryz.func60, Tryz.ntmps60
  go_wp2_with fail
  refine (HW.out _).mono ?_
  rintro e w2 ⟨rfl, rfl⟩
  go_wp2_with fail
  rw [show wrap64 (bits .xor .u64 (N : Int) 9223372036854775808) = _ from HSB.out]
  generalize (N : Int) - 9223372036854775808 = M at *
  obtain ⟨hx1, hQ⟩ := boxes1 w (.cells #[.int .i64 1, .int .i64 M, .string ⟨#[]⟩, .bool false] 50)
  have r0 := cell_of_row _ _ 0 _ _ _ hQ
  have r1 := cell_of_row _ _ 1 _ _ _ hQ
  have r2 := cell_of_row _ _ 2 _ _ _ hQ
  have r3 := cell_of_row _ _ 3 _ _ _ hQ
  refine bodyPost_ret (v := .agg #[.int .i64 1, .int .i64 M, .string ⟨#[]⟩, .bool false]) (by simp [results, Tryz.results60, go_sem, r0, r1, r2, r3]) rfl ⟨rfl, hx1⟩
set_option maxRecDepth 100000 in
theorem some84_any (w : World) (s : List UInt8) : Calls Tryz.prog 62 #[.string (strOf s)] w fun e w' => e = .returned (.agg #[.int .i64 2, .int .i64 0, .string (strOf s), .bool false]) ∧ Ext w w' := by
  obtain ⟨hx1, hQ⟩ := boxes1 w (.cells #[.int .i64 2, .int .i64 0, .string (strOf s), .bool false] 50)
  have r0 := cell_of_row _ _ 0 _ _ _ hQ
  have r1 := cell_of_row _ _ 1 _ _ _ hQ
  have r2 := cell_of_row _ _ 2 _ _ _ hQ
  have r3 := cell_of_row _ _ 3 _ _ _ hQ
  clear hQ
  go_enter Tryz.func62, Tryz.ntmps62
  go_wp2_with fail
  refine bodyPost_ret (v := .agg #[.int .i64 2, .int .i64 0, .string (strOf s), .bool false]) (by simp [results, Tryz.results62, go_sem, r0, r1, r2, r3]) rfl ⟨rfl, hx1⟩
set_option maxRecDepth 100000 in
theorem some85_any (w : World) (s : List UInt8) : Calls Tryz.prog 63 #[.string (strOf s)] w fun e w' => e = .returned (.agg #[.int .i64 3, .int .i64 0, .string ⟨#[]⟩, .bool (!s.isEmpty)]) ∧ Ext w w' := by
  obtain ⟨hx1, hQ⟩ := boxes1 w (.cells #[.int .i64 3, .int .i64 0, .string ⟨#[]⟩, .bool (!s.isEmpty)] 50)
  have r0 := cell_of_row _ _ 0 _ _ _ hQ
  have r1 := cell_of_row _ _ 1 _ _ _ hQ
  have r2 := cell_of_row _ _ 2 _ _ _ hQ
  have r3 := cell_of_row _ _ 3 _ _ _ hQ
  clear hQ
  go_enter Tryz.func63, Tryz.ntmps63
  go_wp2_with fail
  refine bodyPost_ret (v := .agg #[.int .i64 3, .int .i64 0, .string ⟨#[]⟩, .bool (!s.isEmpty)]) (by simp [results, Tryz.results63, go_sem, r0, r1, r2, r3]) rfl ⟨rfl, hx1⟩
end Go.Proofs.YtabegbelkfhbcaaGreat
