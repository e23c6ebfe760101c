/- MayCons, May: which constraints, which predicates may be. -/
import Derived.Test.YtkefppdacigbmaaA11
import Derived.Deep.CutBlock
namespace Go.Proofs.Ytkefppdacigbmaa
open Go.RowKit

theorem ent72 : ∀ args w, (callFunc 72 args).run Try.prog w = .ok (.enter 72 args) w := enters_of Try.func72 (by kernel_rfl) rfl
theorem ent63 : ∀ args w, (callFunc 63 args).run Try.prog w = .ok (.enter 63 args) w := enters_of Try.func63 (by kernel_rfl) rfl

set_option maxRecDepth 100000 in
set_option maxHeartbeats 2000000 in
theorem may72_any (w : World) (v : V) : Calls Try.prog 72 #[.agg #[.int .i64 v.k, .int .i64 v.n, .string (strOf v.s), .bool v.b]] w fun e w' => e = .returned (.bool (!mayV v)) ∧ Ext w w' := by
  have hx0 : Ext w (w.alloc (.cells #[.int .i64 v.k, .int .i64 v.n, .string (strOf v.s), .bool v.b] 28)) := (Ext.refl w).alloc _
  go_enter Try.func72, Try.ntmps72
  go_wp2_with (go_at_call 73; refine (vmay_any _ v).mono ?_; rintro e w2 ⟨rfl, hx2⟩)
  go_ret
  exact ⟨rfl, hx0.trans hx2⟩

theorem bareV_eq (v : V) : bareV v = ((v.k == 0) && ((v.n == 0) && ((v.s == []) && (v.b == false)))) := by
  obtain ⟨k, n, s, b⟩ := v
  unfold bareV
  rw [Bool.eq_iff_iff]
  simp

/-- MayCons's answer, by its tests. -/
def mayT (len op vk : Int) (sl : Nat) (B M S : Bool) : Bool :=
  if decide (len < 1) || decide (16 < len) then false
  else if op = 1 then B && decide (sl = 0)
  else if 2 ≤ op ∧ op ≤ 7 then M && decide (sl = 0)
  else if op = 8 then M && decide (vk = 2) && decide (sl = 0)
  else if op = 9 then B && decide (1 ≤ sl) && decide (sl ≤ 6) && S
  else false
theorem mayC_T (c : C) : mayC c = mayT (strOf c.name).size c.op c.v.k c.set.length (bareV c.v) (mayV c.v) (!(c.set.any fun x => !mayV x)) := by
  have hS : (!(c.set.any fun x => !mayV x)) = c.set.all mayV := by
    generalize c.set = l
    induction l with
    | nil => rfl
    | cons x l ih => rw [List.any_cons, List.all_cons, ← ih]; cases mayV x <;> simp
  have hE : c.set.isEmpty = decide (c.set.length = 0) := by cases c.set <;> simp
  unfold mayC mayT
  rw [hS, hE, strOf_size]
  have hI : (decide (((c.name.length : Nat) : Int) < 1) || decide ((16 : Int) < ((c.name.length : Nat) : Int))) = decide (c.name.length < 1 ∨ 16 < c.name.length) := by
    rw [Bool.eq_iff_iff]
    simp only [Bool.or_eq_true, decide_eq_true_eq]; omega
  rw [hI]
  by_cases h : c.name.length < 1 ∨ 16 < c.name.length
  · rw [if_pos h, decide_eq_true h]; rfl
  · rw [if_neg h, decide_eq_false h]; rfl

set_option maxRecDepth 100000 in
set_option maxHeartbeats 8000000 in
theorem maycons_any (w : World) (c : C) (sa : Option Addr) (sc : Nat) (hs : SetR w (.slice sa c.set.length sc) c.set) :
    Calls Try.prog 25 #[.agg #[.string (strOf c.name), .int .i64 c.op, .int .i64 c.v.k, .int .i64 c.v.n, .string (strOf c.v.s), .bool c.v.b, .slice sa c.set.length sc]] w
      fun e w' => e = .returned (.bool (mayC c)) ∧ Ext w w' := by
  have hx0 : Ext w (w.alloc (.cells #[.string (strOf c.name), .int .i64 c.op, .int .i64 c.v.k, .int .i64 c.v.n, .string (strOf c.v.s), .bool c.v.b, .slice sa c.set.length sc] 31)) := (Ext.refl w).alloc _
  have hB : CBox (w.alloc (.cells #[.string (strOf c.name), .int .i64 c.op, .int .i64 c.v.k, .int .i64 c.v.n, .string (strOf c.v.s), .bool c.v.b, .slice sa c.set.length sc] 31)) w.heap.size c sa sc := ⟨heap_alloc_new _ _, hs.ext hx0⟩
  rw [mayC_T]
  have hbare := Lib.hid (bareV_eq c.v)
  obtain ⟨_, _, es, hcs, hms⟩ := Row.shape hs
  simp only [Value.slice.injEq] at es
  obtain ⟨rfl, -, rfl⟩ := es
  unfold maxLen at hms
  clear hs
  by_cases hn1 : ((strOf c.name).size : Int) < 1
  · have hT : mayT (strOf c.name).size c.op c.v.k c.set.length (bareV c.v) (mayV c.v) (!(c.set.any fun x => !mayV x)) = false := by
      unfold mayT; rw [decide_eq_true hn1]; rfl
    rw [hT]
    have d1 : decide (((strOf c.name).size : Int) < 1) = true := decide_eq_true hn1
    clear hT hn1
    go_enter Try.func25, Try.ntmps25
    go_wp2_with fail
    go_ret
    exact ⟨rfl, hx0⟩
  have d1 : decide (((strOf c.name).size : Int) < 1) = false := decide_eq_false hn1
  by_cases hn2 : (16 : Int) < ((strOf c.name).size : Int)
  · have hT : mayT (strOf c.name).size c.op c.v.k c.set.length (bareV c.v) (mayV c.v) (!(c.set.any fun x => !mayV x)) = false := by
      unfold mayT; rw [decide_eq_true hn2, Bool.or_true]; rfl
    rw [hT]
    have d2 : decide ((16 : Int) < ((strOf c.name).size : Int)) = true := decide_eq_true hn2
    have d3 : ¬ ((strOf c.name).size < 1) := by omega
    have d4 : 16 < (strOf c.name).size := by omega
    clear hT hn2 hn1
    go_enter Try.func25, Try.ntmps25
    go_wp2_with fail
    go_ret
    exact ⟨rfl, hx0⟩
  have d2 : decide ((16 : Int) < ((strOf c.name).size : Int)) = false := decide_eq_false hn2
  have hT : mayT (strOf c.name).size c.op c.v.k c.set.length (bareV c.v) (mayV c.v) (!(c.set.any fun x => !mayV x)) = 
      (if c.op = 1 then bareV c.v && decide (c.set.length = 0)
       else if 2 ≤ c.op ∧ c.op ≤ 7 then mayV c.v && decide (c.set.length = 0)
       else if c.op = 8 then mayV c.v && decide (c.v.k = 2) && decide (c.set.length = 0)
       else if c.op = 9 then bareV c.v && decide (1 ≤ c.set.length) && decide (c.set.length ≤ 6) && (!(c.set.any fun x => !mayV x))
       else false) := by
    unfold mayT; rw [d1, d2]; rfl
  rw [hT]
  clear hT
  generalize hbv : bareV c.v = B at *
  clear hbv
  have HT : ∃ R : Bool, R = (if c.op = 1 then B && decide (c.set.length = 0)
       else if 2 ≤ c.op ∧ c.op ≤ 7 then mayV c.v && decide (c.set.length = 0)
       else if c.op = 8 then mayV c.v && decide (c.v.k = 2) && decide (c.set.length = 0)
       else if c.op = 9 then B && decide (1 ≤ c.set.length) && decide (c.set.length ≤ 6) && (!(c.set.any fun x => !mayV x))
       else false) := ⟨_, rfl⟩
  obtain ⟨R, hR⟩ := HT
  rw [← hR]
  have HR := Lib.hid hR
  clear hR
  have hcon := fun W h => hasV_any W (.slice sa c.set.length sc) c.set h 72 #[] (fun x => !mayV x) ent72 (fun W x hx _ => may72_any W x)
  have HM := fun W => vmay_any W c.v
  have hxa := hB.cell
  go_enter Try.func25, Try.ntmps25
  go_upto_region 3 with fail
  generalize w.alloc (.cells #[.string (strOf c.name), .int .i64 c.op, .int .i64 c.v.k, .int .i64 c.v.n, .string (strOf c.v.s), .bool c.v.b, .slice sa c.set.length sc] 31) = wa at *
  obtain ⟨c0, c1, c2, c3, c4, c5, c6⟩ := hxa
  go_cut [3] from 15 to 18 (fun v3 wx => v3 = .bool B ∧ wx = wa)
  case first =>
    clear hcon HM
    cases b1 : (c.v.k == 0)
    · go_wp2_with fail
      go_meet
      exact ⟨by rw [hbare.out, b1]; rfl, rfl⟩
    · cases b2 : (c.v.n == 0)
      · go_wp2_with fail
        go_meet
        exact ⟨by rw [hbare.out, b1, b2]; rfl, rfl⟩
      · cases b3 : (c.v.s == [])
        · go_wp2_with fail
          go_meet
          exact ⟨by rw [hbare.out, b1, b2, b3]; rfl, rfl⟩
        · cases b4 : (c.v.b == false)
          · go_wp2_with fail
            go_meet
            exact ⟨by rw [hbare.out, b1, b2, b3, b4]; rfl, rfl⟩
          · go_wp2_with fail
            go_meet
            exact ⟨by rw [hbare.out, b1, b2, b3, b4]; rfl, rfl⟩
  case rest =>
    obtain ⟨rfl, rfl⟩ := hcut
    clear hbare
    generalize (c.set.any fun x => !mayV x) = S at *
    generalize mayV c.v = M at *
    have hsl := hB.s
    have HB := Lib.hid hB
    clear hB
    go_upto_region 5 with (go_at_call 71; refine (hcon _ hsl).mono ?_; rintro e w2 ⟨rfl, hx2⟩; have m1 := hx2.cell c1; have m2 := hx2.cell c2; have m3 := hx2.cell c3; have m4 := hx2.cell c4; have m5 := hx2.cell c5; have m6 := hx2.cell c6)
    clear hcon c0 c1 c2 c3 c4 c5 c6 d1 d2 hn1 hn2
    have hxw := hx0.trans hx2
    by_cases h1 : c.op = 1
    · have d1 : (c.op == 1) = true := beq_iff_eq.2 h1
      have hr : Hid (R = (B && decide (c.set.length = 0))) := by show _ = _; rw [HR.out, if_pos h1]
      clear HR h1
      generalize c.set.length = n at *
      cases B
      · go_wp2_with fail
        go_ret
        exact ⟨by rw [hr.out]; rfl, hxw⟩
      · by_cases hz : n = 0
        · have z1 : ((n : Int) == 0) = true := beq_iff_eq.2 (by omega)
          go_wp2_with fail
          go_ret
          exact ⟨by rw [hr.out, decide_eq_true hz]; rfl, hxw⟩
        · have z1 : ((n : Int) == 0) = false := beq_eq_false_iff_ne.2 (by omega)
          go_wp2_with fail
          go_ret
          exact ⟨by rw [hr.out, decide_eq_false hz]; rfl, hxw⟩
    have e1 := beq_int_ne h1
    by_cases h27 : 2 ≤ c.op ∧ c.op ≤ 7
    · have d1 : decide (2 ≤ c.op) = true := decide_eq_true h27.1
      have d2 : decide (c.op ≤ 7) = true := decide_eq_true h27.2
      have hr : Hid (R = (M && decide (c.set.length = 0))) := by show _ = _; rw [HR.out, if_neg h1, if_pos h27]
      clear HR h1 h27
      generalize c.set.length = n at *
      cases M
      · go_wp2_with (go_at_call 73; refine (HM _).mono ?_; rintro e w3 ⟨rfl, hx3⟩; have m6 := hx3.cell m6)
        go_ret
        exact ⟨by rw [hr.out]; rfl, hxw.trans hx3⟩
      · by_cases hz : n = 0
        · have z1 : ((n : Int) == 0) = true := beq_iff_eq.2 (by omega)
          go_wp2_with (go_at_call 73; refine (HM _).mono ?_; rintro e w3 ⟨rfl, hx3⟩; have m6 := hx3.cell m6)
          go_ret
          exact ⟨by rw [hr.out, decide_eq_true hz]; rfl, hxw.trans hx3⟩
        · have z1 : ((n : Int) == 0) = false := beq_eq_false_iff_ne.2 (by omega)
          go_wp2_with (go_at_call 73; refine (HM _).mono ?_; rintro e w3 ⟨rfl, hx3⟩; have m6 := hx3.cell m6)
          go_ret
          exact ⟨by rw [hr.out, decide_eq_false hz]; rfl, hxw.trans hx3⟩
    by_cases h8 : c.op = 8
    · have d1 : (c.op == 8) = true := beq_iff_eq.2 h8
      have d2 : decide (2 ≤ c.op) = true := decide_eq_true (by omega)
      have d3 : decide (c.op ≤ 7) = false := decide_eq_false (by omega)
      have hr : Hid (R = (M && decide (c.v.k = 2) && decide (c.set.length = 0))) := by show _ = _; rw [HR.out, if_neg h1, if_neg h27, if_pos h8]
      clear HR h1 h27 h8
      generalize c.set.length = n at *
      cases M
      · go_wp2_with (go_at_call 73; refine (HM _).mono ?_; rintro e w3 ⟨rfl, hx3⟩; have m6 := hx3.cell m6; have m2 := hx3.cell m2)
        go_ret
        exact ⟨by rw [hr.out]; rfl, hxw.trans hx3⟩
      · by_cases hk : c.v.k = 2
        · have k1 : (c.v.k == 2) = true := beq_iff_eq.2 hk
          replace hk := Lib.hid hk
          by_cases hz : n = 0
          · have z1 : ((n : Int) == 0) = true := beq_iff_eq.2 (by omega)
            replace hz := Lib.hid hz
            go_wp2_with (go_at_call 73; refine (HM _).mono ?_; rintro e w3 ⟨rfl, hx3⟩; have m6 := hx3.cell m6; have m2 := hx3.cell m2)
            go_ret
            exact ⟨by rw [hr.out, decide_eq_true hk.out, decide_eq_true hz.out]; rfl, hxw.trans hx3⟩
          · have z1 : ((n : Int) == 0) = false := beq_eq_false_iff_ne.2 (by omega)
            replace hz := Lib.hid hz
            go_wp2_with (go_at_call 73; refine (HM _).mono ?_; rintro e w3 ⟨rfl, hx3⟩; have m6 := hx3.cell m6; have m2 := hx3.cell m2)
            go_ret
            exact ⟨by rw [hr.out, decide_eq_true hk.out, decide_eq_false hz.out]; rfl, hxw.trans hx3⟩
        · have k1 := beq_int_ne hk
          replace hk := Lib.hid hk
          go_wp2_with (go_at_call 73; refine (HM _).mono ?_; rintro e w3 ⟨rfl, hx3⟩; have m6 := hx3.cell m6; have m2 := hx3.cell m2)
          go_ret
          exact ⟨by rw [hr.out, decide_eq_false hk.out]; rfl, hxw.trans hx3⟩
    have e8 := beq_int_ne h8
    have e27 : (decide (2 ≤ c.op) = false) ∨ (decide (2 ≤ c.op) = true ∧ decide (c.op ≤ 7) = false) := by
      by_cases h2 : 2 ≤ c.op
      · exact Or.inr ⟨decide_eq_true h2, decide_eq_false fun h => h27 ⟨h2, h⟩⟩
      · exact Or.inl (decide_eq_false h2)
    by_cases h9 : c.op = 9
    · have d1 : (c.op == 9) = true := beq_iff_eq.2 h9
      have d2 : decide (2 ≤ c.op) = true := decide_eq_true (by omega)
      have d3 : decide (c.op ≤ 7) = false := decide_eq_false (by omega)
      have hr : Hid (R = (B && decide (1 ≤ c.set.length) && decide (c.set.length ≤ 6) && (!S))) := by show _ = _; rw [HR.out, if_neg h1, if_neg h27, if_neg h8, if_pos h9]
      clear HR h1 h27 h8 h9 e27
      generalize c.set.length = n at *
      cases B
      · go_wp2_with fail
        go_ret
        exact ⟨by rw [hr.out]; rfl, hxw⟩
      · by_cases hz : 1 ≤ n
        · have z1 : decide ((1 : Int) ≤ (n : Int)) = true := decide_eq_true (by omega)
          have z2 : 1 ≤ n := hz
          by_cases hy : n ≤ 6
          · have y1 : decide ((n : Int) ≤ 6) = true := decide_eq_true (by omega)
            have y2 : n ≤ 6 := hy
            go_wp2_with fail
            go_ret
            exact ⟨by rw [hr.out, decide_eq_true hz, decide_eq_true hy]; rfl, hxw⟩
          · have y1 : decide ((n : Int) ≤ 6) = false := decide_eq_false (by omega)
            have y2 : ¬ n ≤ 6 := hy
            go_wp2_with fail
            go_ret
            exact ⟨by rw [hr.out, decide_eq_true hz, decide_eq_false hy]; rfl, hxw⟩
        · have z1 : decide ((1 : Int) ≤ (n : Int)) = false := decide_eq_false (by omega)
          have z2 : ¬ 1 ≤ n := hz
          have z3 : n = 0 := by omega
          go_wp2_with fail
          go_ret
          exact ⟨by rw [hr.out, decide_eq_false hz]; cases S <;> rfl, hxw⟩
    have e9 := beq_int_ne h9
    have hr : Hid (R = false) := by show _ = _; rw [HR.out, if_neg h1, if_neg h27, if_neg h8, if_neg h9]
    clear HR h1 h27 h8 h9
    rcases e27 with e2 | ⟨e2, e7⟩
    · go_wp2_with fail
      go_ret
      exact ⟨by rw [hr.out]; rfl, hxw⟩
    · go_wp2_with fail
      go_ret
      exact ⟨by rw [hr.out]; rfl, hxw⟩

set_option maxRecDepth 100000 in
set_option maxHeartbeats 2000000 in
theorem may63_any (w : World) (c : C) (sa : Option Addr) (sc : Nat) (hs : SetR w (.slice sa c.set.length sc) c.set) :
    Calls Try.prog 63 #[.agg #[.string (strOf c.name), .int .i64 c.op, .int .i64 c.v.k, .int .i64 c.v.n, .string (strOf c.v.s), .bool c.v.b, .slice sa c.set.length sc]] w
      fun e w' => e = .returned (.bool (!mayC c)) ∧ Ext w w' := by
  have hx0 : Ext w (w.alloc (.cells #[.string (strOf c.name), .int .i64 c.op, .int .i64 c.v.k, .int .i64 c.v.n, .string (strOf c.v.s), .bool c.v.b, .slice sa c.set.length sc] 31)) := (Ext.refl w).alloc _
  have hs0 := hs.ext hx0
  go_enter Try.func63, Try.ntmps63
  go_wp2_with (go_at_call 25; refine (maycons_any _ c sa sc hs0).mono ?_; rintro e w2 ⟨rfl, hx2⟩)
  go_ret
  exact ⟨rfl, hx0.trans hx2⟩

set_option maxRecDepth 100000 in
set_option maxHeartbeats 2000000 in
theorem pmay_any (w : World) (v : Value) (p : List C) (hp : PredR w v p) :
    Calls Try.prog 19 #[v] w fun e w' => e = .returned (.bool (mayP p)) ∧ Ext w w' := by
  have hcon := fun W (hx : Ext w W) => hasC_any W v p (hp.ext hx) 63 #[] (fun c => !mayC c) ent63 (fun W' x sa sc _ _ hs => may63_any W' x sa sc hs)
  have hres : mayP p = (decide (p.length ≤ 6) && !(p.any fun c => !mayC c)) := by
    unfold mayP
    congr 1
    clear hp hcon
    induction p with
    | nil => rfl
    | cons c p ih => rw [List.all_cons, List.any_cons, ih]; cases mayC c <;> simp
  rw [hres]
  obtain ⟨ap, cp, rfl, hcp, hmp⟩ := hp.shape
  unfold maxLen at hmp
  clear hres hp
  generalize (p.any fun c => !mayC c) = S at *
  by_cases hl : p.length ≤ 6
  · have d1 : decide ((p.length : Int) ≤ 6) = true := decide_eq_true (by omega)
    rw [decide_eq_true hl]
    go_enter Try.func19, Try.ntmps19
    go_wp2_with (go_at_call 55; refine (hcon _ (Ext.refl _)).mono ?_; rintro e w' ⟨rfl, hx⟩)
    go_ret
    exact ⟨rfl, hx⟩
  · have d1 : decide ((p.length : Int) ≤ 6) = false := decide_eq_false (by omega)
    rw [decide_eq_false hl]
    go_enter Try.func19, Try.ntmps19
    go_wp2_with fail
    go_ret
    exact ⟨rfl, Ext.refl w⟩
end Go.Proofs.Ytkefppdacigbmaa
