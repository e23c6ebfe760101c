/- Between (33). -/
import Derived.Test.YtlgopjfnknjgjaaN9
namespace Go.Proofs.Ytlgopjfnknjgjaa
open Go.RowKit Go.MapKept

def WR (w : World) (v : Value) (l : List WY) : Prop := Row w 3 v l.length (l.flatMap wC)
theorem WR.ext {w w' : World} {v : Value} {l : List WY} (h : WR w v l) (hx : Ext w w') : WR w' v l := Row.ext h hx
theorem WaysO.row {w : World} {base : Nat} {v : Value} {l : List WY} (h : WaysO w base v l) : WR w v l := Row.of_own h
theorem WR.at {w : World} {a : Option Addr} {n cap : Nat} {l : List WY} (h : WR w (.slice a n cap) l) {k : Nat} (hk : k < l.length) :
    ∃ B o, a = some ⟨B, o, none⟩ ∧ w.cell? ⟨B, o + k * 3, none⟩ = some (.int .u64 l[k].i) ∧ w.cell? ⟨B, o + k * 3 + 1, none⟩ = some (.int .i64 l[k].f) ∧ w.cell? ⟨B, o + k * 3 + 2, none⟩ = some (.int .i64 l[k].d) := by
  obtain ⟨B, o, rfl⟩ := Row.base h (by omega) (by decide)
  have g := fun j hj => flat_get wC 3 wC_len l k hk j hj
  exact ⟨B, o, rfl, Row.cellAt h (g 0 (by decide)) (by omega), Row.cellAt h (g 1 (by decide)) (by omega), Row.cellAt h (g 2 (by decide)) (by omega)⟩
def nC (n : Nat) : Value := .int .u64 n
theorem info28n : (Try.prog.info? 28).map (fun i => (i.zero, i.size, i.bytes)) = some (some (.int .u64 0), 1, 8) := by kernel_rfl
theorem n_row (w : World) (n : Nat) : Row (w.alloc (.cells #[.int .u64 n] 28)) 1 (.slice (some ⟨w.heap.size, 0, none⟩) 1 1) 1 [nC n] :=
  Row.of_own (World.ownsRow_lit (base := w.heap.size) (e := 28) (size := 1) w #[.int .u64 n] 1 (Nat.le_refl _) (by decide) rfl)
theorem n_one (l : List Nat) : ∀ u ∈ l.map nC, u.oneCell' = true := by
  intro u hu
  obtain ⟨n, _, rfl⟩ := List.mem_map.1 hu
  rfl
/-- Numbers of the call's own. -/
def NumO (w : World) (base : Nat) (v : Value) (l : List Nat) : Prop := w.ownsRow base 28 1 v l.length (l.map nC)
def isB (p q : Int) (x : WY) : Bool := decide ((x.f : Int) = p) && decide ((x.d : Int) = q)
/-- The numbers of those between two, rising. -/
def betw (p q : Int) (l : List WY) : List Nat := (l.filter (isB p q)).map (·.i)
theorem betw_yes {p q : Int} {l : List WY} {k : Nat} (hk : k < l.length) (h : isB p q l[k] = true) : betw p q (l.take (k + 1)) = betw p q (l.take k) ++ [l[k].i] := by
  unfold betw; rw [List.take_succ_eq_append_getElem hk, List.filter_append, List.filter_cons_of_pos h, List.map_append]; rfl
theorem betw_no {p q : Int} {l : List WY} {k : Nat} (hk : k < l.length) (h : isB p q l[k] = false) : betw p q (l.take (k + 1)) = betw p q (l.take k) := by
  unfold betw; rw [List.take_succ_eq_append_getElem hk, List.filter_append, List.filter_cons_of_neg (by rw [h]; decide)]; simp
theorem betw_le (p q : Int) (l : List WY) (k : Nat) : (betw p q (l.take k)).length ≤ k := by
  unfold betw
  rw [List.length_map]
  have := List.length_filter_le (isB p q) (l.take k)
  have := List.length_take_le k l
  omega

set_option maxRecDepth 100000 in
set_option maxHeartbeats 8000000 in
theorem between_any (w : World) (base bn bm k last : Nat) (L : List PK) (h : NetR w base bn bm k last L) (p q : Int) : Calls Try.prog 33 #[.pointer (some ⟨bn, 0, none⟩), .int .i64 p, .int .i64 q] w fun e w' => ∃ v, e = .returned v ∧ NumO w' w.heap.size v (betw p q (L.map wOf)) ∧ Ext w w' := by
  have HA := Lib.hid (ways_any w base bn bm k last L h)
  have hlen : (L.map wOf).length ≤ 4096 := by rw [List.length_map]; exact h.max.2.1
  clear h
  generalize L.map wOf = W at *
  generalize hN : W.length = N at *
  have HN := Lib.hid hN
  clear hN
  go_enter Try.func33, Try.ntmps33
  go_wp2_with ((with_reducible refine HA.out.mono ?_); rintro e w2 ⟨v, rfl, ho, hx⟩; obtain ⟨aw, cw, rfl, _, hcm⟩ := own_shape ho; rw [HN.out]; have HW := Lib.hid (WaysO.row ho); have HX := Lib.hid hx; clear ho hx)
  rw [HN.out] at HW
  unfold maxLen at hcm
  go_loopw [7, 13] (fun v i wr => ∃ k : Nat, k ≤ N ∧ i = .int .i64 k ∧ Hid (NumO wr w2.heap.size v (betw p q (W.take k))) ∧ Hid (Ext w2 wr)) (fun _ i _ => N - (intOf i).toNat)
  case atStart => exact ⟨0, Nat.zero_le _, rfl, own_none _ _ _ _, Ext.refl _⟩
  case round =>
    obtain ⟨k, hk, rfl, hown, hxr⟩ := hrel
    by_cases hlt : k < N
    · have hI : decide ((k : Int) < (N : Int)) = true := decide_eq_true (by omega)
      have hkN : (k : Int) < (N : Int) := by omega
      have hkl : k < W.length := by rw [HN.out]; exact hlt
      obtain ⟨B, o, ea, f0, f1, f2⟩ := (HW.out.ext hxr.out).at hkl
      subst ea
      have hpl := betw_le p q W k
      have hye := betw_yes (p := p) (q := q) hkl
      have hno := betw_no (p := p) (q := q) hkl
      have HYE := Lib.hid hye
      have HNO := Lib.hid hno
      clear hye hno
      obtain ⟨x, hx⟩ : ∃ x, x = W[k] := ⟨_, rfl⟩
      rw [← hx] at f0 f1 f2 HYE HNO
      clear hx hkl
      obtain ⟨hxa, hbx⟩ := boxes1 wr (.cells #[.int .u64 x.i, .int .i64 x.f, .int .i64 x.d] 64)
      have b0 := cell_of_row _ _ 0 _ _ _ hbx
      have b1 := cell_of_row _ _ 1 _ _ _ hbx
      have b2 := cell_of_row _ _ 2 _ _ _ hbx
      have HO7 := Lib.hid (own_ext hown.out hxa)
      have HX7 := Lib.hid (hxr.out.trans hxa)
      clear hxa hbx hown hxr
      generalize betw p q (W.take k) = pr at *
      go_upto_region 5 with fail
      clear f0 f1 f2
      generalize wr.alloc (.cells #[.int .u64 x.i, .int .i64 x.f, .int .i64 x.d] 64) = w7 at *
      generalize wr.heap.size = bx at *
      by_cases hp : (x.f : Int) = p
      · by_cases hq : (x.d : Int) = q
        · have e1 : decide ((x.f : Int) = p) = true := decide_eq_true hp
          have e2 : decide ((x.d : Int) = q) = true := decide_eq_true hq
          have HST := Lib.hid (HYE.out (by unfold isB; rw [e1, e2]; rfl))
          have hrow := n_row w7 x.i
          have hxb : Ext w7 (w7.alloc (.cells #[.int .u64 x.i] 28)) := (Ext.refl w7).alloc _
          have HROW := Lib.hid hrow
          have HO8 := Lib.hid (own_ext HO7.out hxb)
          have HX8 := Lib.hid (HX7.out.trans hxb)
          have HBS : Hid (w2.heap.size ≤ (w7.alloc (.cells #[.int .u64 x.i] 28)).heap.size) := HX8.out.size
          have hb1 : (pr.length + 1) * 8 ≤ 140737488355328 := by omega
          have hb2 : pr.length + 1 ≤ maxLen := by unfold maxLen; omega
          have e3 : ((x.f : Int) == p) = true := beq_iff_eq.2 hp
          have e4 : ((x.d : Int) == q) = true := beq_iff_eq.2 hq
          clear hrow hxb HO7 HX7 hp hq
          go_wp2_with (at_builtin; (refine wpList_append_row 23 28 (.tmp 27) (.tmp 30) rfl w2.heap.size _ 1 8 Try.underlying23 info28n rfl (by decide) rfl u7 pr.length (pr.map nC) rfl HO8.out 1 [nC x.i] HROW.out (n_one [x.i]) hb1 hb2 HBS.out ?_); intro v' w9 hown2 hg; have HO9 := Lib.hid hown2; have HX9 := Lib.hid (HX8.out.grown_none hg (own_base HO8.out)); clear hown2 hg)
          go_roundw
          case rel =>
            refine ⟨k + 1, hlt, by go_num, ?_, HX9.out⟩
            show World.ownsRow _ _ _ _ _ _ _
            rw [HST.out]
            have := HO9.out
            simpa using this
          case measure => simp [intOf]; omega
        · have e1 : decide ((x.f : Int) = p) = true := decide_eq_true hp
          have e2 : decide ((x.d : Int) = q) = false := decide_eq_false hq
          have e3 : ((x.f : Int) == p) = true := beq_iff_eq.2 hp
          have e4 : ((x.d : Int) == q) = false := beq_eq_false_iff_ne.2 hq
          have HST := Lib.hid (HNO.out (by unfold isB; rw [e1, e2]; rfl))
          clear hp hq
          go_wp2_with fail
          go_roundw
          case rel =>
            refine ⟨k + 1, hlt, by go_num, ?_, HX7.out⟩
            show NumO _ _ _ _
            rw [HST.out]; exact HO7.out
          case measure => simp [intOf]; omega
      · have e1 : decide ((x.f : Int) = p) = false := decide_eq_false hp
        have e3 : ((x.f : Int) == p) = false := beq_eq_false_iff_ne.2 hp
        have HST := Lib.hid (HNO.out (by unfold isB; rw [e1]; rfl))
        clear hp
        go_wp2_with fail
        go_roundw
        case rel =>
          refine ⟨k + 1, hlt, by go_num, ?_, HX7.out⟩
          show NumO _ _ _ _
          rw [HST.out]; exact HO7.out
        case measure => simp [intOf]; omega
    · obtain rfl : N = k := by omega
      have hI : decide ((N : Int) < (N : Int)) = false := decide_eq_false (by omega)
      have ho := hown.out
      rw [List.take_of_length_le (by rw [HN.out]; exact Nat.le_refl _)] at ho
      have HO := Lib.hid ho
      clear ho hown
      go_wp2_with fail
      go_ret
      exact ⟨_, rfl, own_low HO.out HX.out.size, HX.out.trans hxr.out⟩
end Go.Proofs.Ytlgopjfnknjgjaa
