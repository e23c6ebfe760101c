/- The walk through MatchKnown. -/
import Derived.Laws.OwnMore
import Derived.Test.YtckigoeomkphhaaGreatPk12
namespace Go.Proofs.YtckigoeomkphhaaGreat
open Go.RowKit Go.MapKept
variable {w w1 w2 w' : World} {base b bp bq : Nat} {R : SP}

def zC0 : C := ⟨[], 0, ⟨0, 0, [], false⟩, []⟩
theorem info_con : (Tryz.prog.info? 52).map (fun i => (i.zero, i.size, i.bytes)) = some (some (.agg #[.string ⟨#[]⟩, .int .i64 0, .int .i64 0, .int .i64 0, .string ⟨#[]⟩, .bool false, .slice none 0 0]), 7, 88) := by kernel_rfl
theorem makeP {ops : Array Oper} {Q : Exit → Act → World → Prop} {a : Act} {w : World} {rest : List Oper} {o : Oper}
    (l c : Operand) (ho : o.op = .makeSlice 28 l c) (hw : Region.wanted o (yielded ops a.tmps) = true) (hl : a.eval l = .int .i64 1) (hc : a.eval c = .int .i64 1)
    (h : ∀ w', PredR w' (.slice (some ⟨w.heap.size, 0, none⟩) 1 1) [zC0] → Ext w w' → wpList Tryz.prog ops Q rest (a.put o.dst (.slice (some ⟨w.heap.size, 0, none⟩) 1 1)) w') : wpList Tryz.prog ops Q (o :: rest) a w := by
  obtain ⟨i5, hi5, z5, s5, b5⟩ := info_parts info_con
  obtain ⟨w', hr, h1, h2⟩ := run_makeSlice_full (P := Tryz.prog) (w := w) w.heap.size 28 52 i5 _ 7 Tryz.underlying28 hi5 z5 s5 .i64 .i64 1 (by omega) (by rw [b5]; omega) (by simp only [maxLen]; omega) (Nat.le_refl _)
  have hr' : (Instr.makeSlice 28 (.int .i64 1) (.int .i64 1)).run Tryz.prog w = .ok (.slice (some ⟨w.heap.size, 0, none⟩) 1 1) w' := hr
  refine wpList_val hw (by simp [execOp, ho, hl, hc, hr']) (h w' ?_ ((Ext.refl w).grown_none (v := .slice none 0 0) h2 (fun q hq => by cases hq)))
  have h3 := Row.of_own h1
  have e : (madeCells (Value.agg #[.string ⟨#[]⟩, .int .i64 0, .int .i64 0, .int .i64 0, .string ⟨#[]⟩, .bool false, .slice none 0 0]).cells (1 * 7)).toList = [(⟨zC0, .slice none 0 0⟩ : CS)].flatMap csC := by kernel_rfl
  rw [e] at h3
  exact PredR.mk [⟨zC0, .slice none 0 0⟩] h3 fun x hx => by rw [List.mem_singleton.1 hx]; exact SetR.nil _

theorem wf_small {n : Int} (h0 : 0 ≤ n) (h1 : n ≤ 1000000) : (Lit.int .i64 n).wf = true := by
  have e1 : IntKind.i64.min = -9223372036854775808 := by decide
  have e2 : IntKind.i64.max = 9223372036854775807 := by decide
  simp only [Lit.wf, e1, e2, Bool.and_eq_true, decide_eq_true_eq]
  omega
/-- What the loop has added. -/
def kR : Nat → SP
  | 0 => [(5, [])]
  | n + 1 => kR n ++ [(((100 + n : Nat) : Int), [])]
theorem kR_len (n : Nat) : (kR n).length = n + 1 := by
  induction n with
  | zero => rfl
  | succ n ih => rw [kR, List.length_append, ih]; rfl
theorem kR_mem {n : Nat} {k : Int × List C} (h : k ∈ kR n) : k = (5, []) ∨ ∃ j, j < n ∧ k = (((100 + j : Nat) : Int), []) := by
  induction n with
  | zero => exact .inl (List.mem_singleton.1 h)
  | succ n ih =>
    rcases List.mem_append.1 h with h | h
    · rcases ih h with h | ⟨j, hj, h⟩
      · exact .inl h
      · exact .inr ⟨j, by omega, h⟩
    · exact .inr ⟨n, by omega, List.mem_singleton.1 h⟩
theorem kR_no {n : Nat} {id : Int} (h5 : id ≠ 5) (h : ∀ j, j < n → id ≠ ((100 + j : Nat) : Int)) : hasS (kR n) id = false := by
  rw [Bool.eq_false_iff]
  intro hh
  obtain ⟨k, hk, e⟩ := hasS_iff.1 hh
  rcases kR_mem hk with rfl | ⟨j, hj, rfl⟩
  · exact h5 e.symm
  · exact h j hj e.symm
theorem kR_add {n : Nat} (hn : n < 255) : addE (kR n) ((100 + n : Nat) : Int) [] = 0 ∧ addS (kR n) ((100 + n : Nat) : Int) [] = kR (n + 1) := by
  have h0 : addE (kR n) ((100 + n : Nat) : Int) [] = 0 := by
    unfold addE
    rw [if_neg (by omega), if_neg (by decide), if_neg (by rw [kR_no (by omega) (fun j hj => by omega)]; decide), if_neg (by rw [kR_len]; omega)]
  refine ⟨h0, ?_⟩
  unfold addS
  rw [if_pos h0]
  rfl
theorem kR_rel (n : Nat) : RelSL (kR n) (kR n) := by
  refine ⟨List.Perm.refl _, ?_⟩
  induction n with
  | zero => exact List.pairwise_singleton _ _
  | succ n ih =>
    refine List.pairwise_append.2 ⟨ih, List.pairwise_singleton _ _, fun a ha c hc => ?_⟩
    rw [List.mem_singleton.1 hc]
    rcases kR_mem ha with rfl | ⟨j, hj, rfl⟩
    · show (5 : Int) < _; omega
    · show ((100 + j : Nat) : Int) < ((100 + n : Nat) : Int); omega
theorem kR_all (n : Nat) : ((kR n).filter fun k => matchP k.2 []).map (·.1) = (kR n).map (·.1) := by
  rw [List.filter_eq_self.2]
  intro k hk
  rcases kR_mem hk with rfl | ⟨j, hj, rfl⟩ <;> rfl
theorem k1 : addE [] 5 [] = 0 ∧ addS [] 5 [] = kR 0 := by constructor <;> kernel_rfl
theorem k2 : addE (kR 0) 5 [] = 9 ∧ addS (kR 0) 5 [] = kR 0 := by constructor <;> kernel_rfl
theorem k3 : addE (kR 0) (-1) [] = 1 ∧ addS (kR 0) (-1) [] = kR 0 := by constructor <;> kernel_rfl
theorem k4 : addE (kR 0) 6 [zC0] = 30 ∧ addS (kR 0) 6 [zC0] = kR 0 := by constructor <;> kernel_rfl
theorem k5 : delE (kR 0) 7 = 6 ∧ delS (kR 0) 7 = kR 0 := by constructor <;> kernel_rfl
theorem k6 : addE (kR 255) 7 [] = 7 ∧ addS (kR 255) 7 [] = kR 255 := by
  have h : addE (kR 255) 7 [] = 7 := by
    unfold addE
    rw [if_neg (by omega), if_neg (by decide), if_neg (by rw [kR_no (by omega) (fun j hj => by omega)]; decide), if_pos (by rw [kR_len]; omega)]
  exact ⟨h, by unfold addS; rw [h, if_neg (by decide)]⟩
theorem k7 : hasS (kR 255) 8 = false := kR_no (by omega) (fun j hj => by omega)
/-- An Add of nothing. -/
theorem kadd {R' : SP} {E id : Int} (h : Ix w base b bp bq R) (hid : (Lit.int .i64 id).wf = true) (he : addE R id [] = E ∧ addS R id [] = R') :
    Calls Tryz.prog 8 #[.pointer (some ⟨b, 0, none⟩), .int .i64 id, .slice none 0 0] w fun e w' => e = .returned (.int .i64 E) ∧ Ix w' base b bp bq R' ∧ TurnX base bp bq w w' := by
  have := ix_add h id hid (.slice none 0 0) [] (PredR.nil w)
  rwa [he.1, he.2] at this

set_option maxRecDepth 100000 in
set_option maxHeartbeats 16000000 in
theorem matchKnown_walk (W : World) : Calls Tryz.prog 3 #[] W fun e W' => e = .returned (.bool true) ∧ Ext W W' := by
  go_enter Tryz.func3, Tryz.ntmps3
  go_upto_region 4 with (first
    | (go_at_call 6; (with_reducible refine (awake08_any W).mono ?_); rintro e w0 ⟨rfl, hx⟩; have HX0 := Lib.hid hx; clear hx)
    | (go_at_call 7; (with_reducible refine (ix_new w0).mono ?_); rintro e w1 ⟨b, bp, bq, rfl, hi, hx⟩; have HI := Lib.hid hi; have HX := Lib.hid (HX0.out.trans hx); clear hi hx))
  have HLO : Hid (W.heap.size ≤ w0.heap.size ∧ w0.heap.size ≤ bp ∧ w0.heap.size ≤ bq) := ⟨HX0.out.size, HI.out.lo.1, HI.out.lo.2⟩
  have HW : Hid (∀ w w', TurnX w0.heap.size bp bq w w' → Ext W w → Ext W w') := fun w w' h hx => turnX_ext h hx HLO.out.1 ⟨HLO.out.2.1, HLO.out.2.2⟩
  have HC1 := Lib.hid (kadd HI.out (by decide) k1)
  go_wp2_with fail
  (with_reducible refine HC1.out.mono ?_); rintro e w2 ⟨rfl, hi, ht⟩
  have HI2 := Lib.hid hi; have HX2 := Lib.hid (HW.out _ _ ht HX.out); clear hi ht HI HX HC1
  have HC2 := Lib.hid (kadd HI2.out (by decide) k2)
  go_wp2_with fail
  (with_reducible refine HC2.out.mono ?_); rintro e w3 ⟨rfl, hi, ht⟩
  have HI3 := Lib.hid hi; have HX3 := Lib.hid (HW.out _ _ ht HX2.out); clear hi ht HI2 HX2 HC2
  have HC3 := Lib.hid (kadd HI3.out (by decide) k3)
  go_wp2_with fail
  (with_reducible refine HC3.out.mono ?_); rintro e w4 ⟨rfl, hi, ht⟩
  have HI4 := Lib.hid hi; have HX4 := Lib.hid (HW.out _ _ ht HX3.out); clear hi ht HI3 HX3 HC3
  go_upto_region 5 with fail
  go_wp2_with (at_make; refine makeP _ _ rfl rfl rfl rfl ?_; intro w5 hp hx; have HP := Lib.hid hp; have HI5 := Lib.hid (HI4.out.ext hx); have HX5 := Lib.hid (HX4.out.trans hx); clear hp hx)
  have hc4 := ix_add HI5.out 6 (by decide) _ _ HP.out
  rw [k4.1, k4.2] at hc4
  have HC4 := Lib.hid hc4
  clear hc4 HI4 HX4
  (with_reducible refine HC4.out.mono ?_); rintro e w6 ⟨rfl, hi, ht⟩
  have HI6 := Lib.hid hi; have HX6 := Lib.hid (HW.out _ _ ht HX5.out); clear hi ht HI5 HX5 HC4 HP
  have hc5 := ix_del HI6.out 7
  rw [k5.1, k5.2] at hc5
  have HC5 := Lib.hid hc5
  clear hc5
  go_wp2_with fail
  (with_reducible refine HC5.out.mono ?_); rintro e w7 ⟨rfl, hi, ht⟩
  have HI7 := Lib.hid hi; have HX7 := Lib.hid (HW.out _ _ ht HX6.out); clear hi ht HI6 HX6 HC5
  go_wp2_with fail
  go_loopw [31] (fun i wr => ∃ n : Nat, n ≤ 255 ∧ i = .int .i64 n ∧ Hid (Ix wr w0.heap.size b bp bq (kR n)) ∧ Hid (Ext W wr)) (fun i _ => 255 - (intOf i).toNat)
  case atStart => exact ⟨0, by omega, rfl, HI7.out, HX7.out⟩
  case round =>
    clear HI7 HX7
    obtain ⟨n, hn, rfl, hI, hX⟩ := hrel
    by_cases hlt : n < 255
    · have hd : decide ((n : Int) < 255) = true := decide_eq_true (by omega)
      have hcall := kadd hI.out (id := ((100 + n : Nat) : Int)) (wf_small (by omega) (by omega)) (kR_add hlt)
      rw [show ((100 + n : Nat) : Int) = (100 : Int) + (n : Int) by omega] at hcall
      have HCALL := Lib.hid hcall
      clear hcall
      go_wp2_with (go_at_call 8; (with_reducible refine HCALL.out.mono ?_); rintro e w8 ⟨rfl, hi, ht⟩; have HI8 := Lib.hid hi; have HX8 := Lib.hid (HW.out _ _ ht hX.out); clear hi ht)
      go_roundw
      case rel => exact ⟨n + 1, by omega, by go_num, HI8.out, HX8.out⟩
      case measure => simp [intOf]; omega
    · obtain rfl : n = 255 := by omega
      have HCA := Lib.hid (kadd hI.out (by decide) k6)
      go_wp2_with (go_at_call 8; (with_reducible refine HCA.out.mono ?_); rintro e w9 ⟨rfl, hi, ht⟩; have HI9 := Lib.hid hi; have HX9 := Lib.hid (HW.out _ _ ht hX.out); clear hi ht)
      have hm := ix_match HI9.out (kR 255) (kR_rel 255) [] (.slice none 0 0) [] (AttrR.nil _)
      rw [kR_all, show strOf [] = ⟨#[]⟩ from rfl] at hm
      simp only [show ((kR 255).map (·.1)).length = 256 by rw [List.length_map, kR_len]] at hm
      have HM := Lib.hid hm
      clear hm HCA hI hX
      go_upto_region 14 with (go_at_call 10; (with_reducible refine HM.out.mono ?_); rintro e wA ⟨am, cm, rfl, ho, hx⟩; have HIA := Lib.hid (HI9.out.ext hx); have HXA := Lib.hid (HX9.out.trans hx); clear ho hx)
      have HG := Lib.hid (ix_get_no HIA.out 8 k7)
      clear HM HI9 HX9
      go_upto_region 15 with (go_at_call 11; (with_reducible refine HG.out.mono ?_); rintro e wB ⟨rfl, hx⟩; have HXB := Lib.hid (HXA.out.trans hx); clear hx)
      clear HIA HXA HG
      go_upto_region 17 with (go_at_call 11; (with_reducible refine (nget_any _ _).mono ?_); rintro e wC ⟨rfl, hx⟩; have HXC := Lib.hid (HXB.out.trans hx); clear hx)
      go_wp2_with (first
        | (go_at_call 8; (with_reducible refine (nadd_any _ _).mono ?_); rintro e wD ⟨rfl, hx⟩; have HXD := Lib.hid (HXC.out.trans hx); clear hx)
        | (go_at_call 9; (with_reducible refine (ndel_any _ _).mono ?_); rintro e wE ⟨rfl, hx⟩; have HXE := Lib.hid (HXD.out.trans hx); clear hx)
        | (go_at_call 10; (with_reducible refine (nmatch_any _ _ _ _ _).mono ?_); rintro e wF ⟨rfl, hx⟩; have HXF := Lib.hid (HXE.out.trans hx); clear hx)
        | (go_at_call 12; (with_reducible refine (nids_any _).mono ?_); rintro e wG ⟨rfl, hx⟩; have HXG := Lib.hid (HXF.out.trans hx); clear hx)
        | (go_at_call 13; (with_reducible refine (nlooks_any _ _ _ _ _).mono ?_); rintro e wH ⟨rfl, hx⟩; have HXH := Lib.hid (HXG.out.trans hx); clear hx))
      go_ret
      exact ⟨rfl, HXH.out⟩
end Go.Proofs.YtckigoeomkphhaaGreat
