/- Ways (26), walked; Between (33). -/
import Derived.Test.YtlgopjfnknjgjaaN8
namespace Go.Proofs.Ytlgopjfnknjgjaa
open Go.RowKit Go.MapKept

theorem info64t : (Try.prog.info? 64).map (fun i => (i.zero, i.size, i.bytes)) = some (some (.agg #[.int .u64 0, .int .i64 0, .int .i64 0]), 3, 24) := by kernel_rfl
theorem w_row (w : World) (x : WY) : Row (w.alloc (.cells #[.int .u64 x.i, .int .i64 x.f, .int .i64 x.d] 64)) 3 (.slice (some ⟨w.heap.size, 0, none⟩) 1 1) 1 (wC x) :=
  Row.of_own (World.ownsRow_lit (base := w.heap.size) (e := 64) (size := 3) w #[.int .u64 x.i, .int .i64 x.f, .int .i64 x.d] 1 (Nat.le_refl _) (by decide) rfl)
theorem own_not_iter {w : World} {base size n r b : Nat} {e : TypeId} {v : Value} {xs : List Value} {d : TypeDesc} {E left : List (Value × Value)} (ho : w.ownsRow base e size v n xs) (hr : RangeE w r b d E left) : v.ownBlock ≠ some r := by
  intro hv
  obtain ⟨es, clock, since, seen, c0, _, _, _, _, h5, _⟩ := hr
  rcases ho.2 with ⟨rfl, _⟩ | ⟨g, cap, cur, rfl, _, hg, _⟩
  · simp [Value.ownBlock] at hv
  · simp only [Value.ownBlock, Option.some.injEq] at hv
    subst hv
    rw [h5] at hg
    cases hg
/-- Ways as they lie: a row of the call's own. -/
def WaysO (w : World) (base : Nat) (v : Value) (l : List WY) : Prop := w.ownsRow base 64 3 v l.length (l.flatMap wC)

set_option maxRecDepth 100000 in
set_option maxHeartbeats 8000000 in
theorem ways_any (w : World) (base bn bm k last : Nat) (L : List PK) (h : NetR w base bn bm k last L) : Calls Try.prog 26 #[.pointer (some ⟨bn, 0, none⟩)] w fun e w' => ∃ v, e = .returned v ∧ WaysO w' w.heap.size v (L.map wOf) ∧ Ext w w' := by
  obtain ⟨c0, c1, c2⟩ := h.cell
  have hE : ∃ E, E = L.map pE := ⟨_, rfl⟩
  obtain ⟨E, hE⟩ := hE
  have hm := h.map
  rw [← hE] at hm
  have hlen : E.length ≤ 4096 := by rw [hE, List.length_map]; exact h.max.2.1
  have hrise : (L.map wOf).Pairwise fun a b => a.i < b.i := by rw [List.pairwise_map]; exact h.rise
  have HE := Lib.hid hE
  have HM := Lib.hid hm
  have H0 := Lib.hid h
  have HR := Lib.hid hrise
  have HLEN := Lib.hid hlen
  clear h hE hm hrise hlen c0 c1
  go_enter Try.func26, Try.ntmps26
  go_wp2_with (first
    | (go_at_call 38; (with_reducible refine (none_same _ _ _ _ _ _ _ H0.out).mono ?_); rintro e w2 ⟨rfl, rfl⟩)
    | (at_range; refine wpList_rangeE rfl (.tmp 11) 85 rfl Try.underlying85 rfl HM.out ?_; intro w5 hrg hx; have HRG := Lib.hid hrg; have HX5 := Lib.hid hx; clear hrg hx))
  go_frame
  clear c2
  go_loopw [3] (fun v wr => ∃ (done : List PK) (left : List (Value × Value)), Hid (RangeE wr w.heap.size bm (.int .u64) E left) ∧ Hid (E.Perm (done.map pE ++ left)) ∧ Hid (WaysO wr w.heap.size v (done.map wOf)) ∧ Hid (Ext w wr)) (fun _ wr => wr.rangeLeft bm w.heap.size)
  case atStart => exact ⟨[], _, HRG.out, List.Perm.refl _, own_none _ _ _ _, HX5.out⟩
  case round =>
    clear HRG HX5
    obtain ⟨done, left, hrg, hpm, hown, hxr⟩ := hrel
    go_wp2_with (at_next; refine wpList_nextE rfl (.tmp 12) rfl rfl hrg.out ?_ ?_)
    · intro hl0
      have hp := hpm.out
      rw [hl0, List.append_nil, HE.out] at hp
      have hp2 := ways_perm hp
      have hdl : (done.map wOf).length ≤ 1000000 := by
        have h1 := hp2.length_eq
        have h2 := HLEN.out
        rw [HE.out, List.length_map] at h2
        rw [h1, List.length_map]; omega
      have HP2 := Lib.hid hp2
      have HDL := Lib.hid hdl
      have HOWN := Lib.hid (show wr.ownsRow w.heap.size 64 3 u3 (done.map wOf).length ((done.map wOf).flatMap wC) from hown.out)
      clear hl0 hp hp2 hdl hrg hpm
      go_wp2_with (go_at_call 41; (with_reducible refine (sortW_any _ _ _ (done.map wOf) HOWN.out HDL.out).mono ?_); rintro e w6 ⟨rfl, l', h1, h2, h3, h4⟩; have HS := Lib.hid (And.intro h1 (And.intro h2 (And.intro h3 h4))); clear h1 h2 h3 h4)
      go_ret
      obtain ⟨h1, h2, h3, h4⟩ := HS.out
      have e := ways_same (h1.trans HP2.out) h2 HR.out
      subst e
      refine ⟨_, rfl, ?_, hxr.out.grown_none h4 (own_base hown.out)⟩
      unfold WaysO
      rw [HP2.out.length_eq] at h3
      exact h3
    · intro kv vv left' w6 hperm hin hrg6 hbut hen
      rw [HE.out] at hin
      obtain ⟨x, hx, ex⟩ := List.mem_map.1 hin
      obtain ⟨ax, cx, hh⟩ := OwnB.slice (H0.out.own x hx)
      have hx6 : Ext w w6 := hbut.ext hxr.out (Nat.le_refl _)
      have hpm2 : E.Perm ((done ++ [x]).map pE ++ left') := by
        refine hpm.out.trans ?_
        rw [List.map_append, List.append_assoc]
        refine List.Perm.append_left _ ?_
        rw [← ex] at hperm
        exact hperm
      have hll := hperm.length_eq
      rw [List.length_cons] at hll
      have HML := Lib.hid hrg.out.left_eq
      have hdl : (done.map wOf).length + 1 ≤ 4097 := by
        have h1 := hpm2.length_eq
        have h2 := HLEN.out
        rw [List.length_append, List.length_map, List.length_append, List.length_singleton] at h1
        rw [List.length_map]; omega
      unfold pE pV at ex
      rw [hh] at ex
      simp only [Prod.mk.injEq] at ex
      obtain ⟨rfl, rfl⟩ := ex
      have howw := own_keep hown.out hbut.grown (fun g hg e => own_not_iter hown.out hrg.out (hg.trans e.symm))
      have HOW := Lib.hid howw
      have HRG6 := Lib.hid hrg6
      have HX6 := Lib.hid hx6
      have HPM2 := Lib.hid hpm2
      have HBL := Lib.hid hll
      clear hperm hin hx hpm hrg hown hxr hx6 hpm2 howw hrg6 hbut hh hll
      generalize hbl : x.b.length = nx at *
      clear hbl
      go_upto_region 7 with fail
      obtain ⟨hxa, hbx⟩ := boxes1 w6 (.cells #[.int .u64 x.id, .int .i64 x.fr, .int .i64 x.dst, .slice ax nx cx] 94)
      have b0 := cell_of_row _ _ 0 _ _ _ hbx
      have b1 := cell_of_row _ _ 1 _ _ _ hbx
      have b2 := cell_of_row _ _ 2 _ _ _ hbx
      have HO7 := Lib.hid (own_ext HOW.out hxa)
      have HX7 := Lib.hid (HX6.out.trans hxa)
      have HR7 := Lib.hid (HRG6.out.ext hxa)
      clear HOW HX6 HRG6 hxa hbx hen
      generalize w6.alloc (.cells #[.int .u64 x.id, .int .i64 x.fr, .int .i64 x.dst, .slice ax nx cx] 94) = w7 at *
      generalize w6.heap.size = bx at *
      have hrow := w_row w7 (wOf x)
      have hxb : Ext w7 (w7.alloc (.cells #[.int .u64 x.id, .int .i64 x.fr, .int .i64 x.dst] 64)) := (Ext.refl w7).alloc _
      have HROW := Lib.hid hrow
      have HO8 := Lib.hid (own_ext HO7.out hxb)
      have HX8 := Lib.hid (HX7.out.trans hxb)
      have HR8 := Lib.hid (HR7.out.ext hxb)
      have HBS : Hid (w.heap.size ≤ (w7.alloc (.cells #[.int .u64 x.id, .int .i64 x.fr, .int .i64 x.dst] 64)).heap.size) := HX8.out.size
      have hb1 : ((done.map wOf).length + 1) * 24 ≤ 140737488355328 := by omega
      have hb2 : (done.map wOf).length + 1 ≤ maxLen := by unfold maxLen; omega
      clear hrow hxb HO7 HX7 HR7 hdl
      go_wp2_with (at_builtin; (refine wpList_append_row 61 64 (.tmp 17) (.tmp 20) rfl w.heap.size _ 3 24 Try.underlying61 info64t rfl (by decide) rfl u3 (done.map wOf).length ((done.map wOf).flatMap wC) rfl HO8.out 1 (wC (wOf x)) HROW.out (wC_one _) hb1 hb2 HBS.out ?_); intro v' w9 hown2 hg; have HO9 := Lib.hid hown2; have HG9 := Lib.hid hg; clear hown2 hg)
      go_roundw
      case rel =>
        refine ⟨done ++ [x], left', HR8.out.grown HG9.out (own_not_map HO8.out HR8.out.map) (own_not_iter HO8.out HR8.out), HPM2.out, ?_, HX8.out.grown_none HG9.out (own_base HO8.out)⟩
        show World.ownsRow _ _ _ _ _ _ _
        have := HO9.out
        simpa using this
      case measure =>
        have h1 := HR8.out.grown HG9.out (own_not_map HO8.out HR8.out.map) (own_not_iter HO8.out HR8.out)
        rw [h1.left_eq, HML.out]
        have := HBL.out
        omega
end Go.Proofs.Ytlgopjfnknjgjaa
