/- Deliver (23), Drop (24), Double (25). -/
import Derived.Test.YtlgopjfnknjgjaaN6
namespace Go.Proofs.Ytlgopjfnknjgjaa
open Go.RowKit Go.MapKept

theorem NetR.del {w wa w' : World} {base bn bm k last : Nat} {L1 L2 : List PK} {x : PK} (h : NetR w base bn bm k last (L1 ++ x :: L2)) (hx : Ext w wa) (hb : But bm wa w')
    (hd : ((∀ p ∈ (L1 ++ x :: L2).map pE, p.1 ≠ Value.int .u64 (x.id : Nat)) ∧ MapE w' bm (.int .u64) ((L1 ++ x :: L2).map pE)) ∨ ∃ (j : Nat) (u : Value), ((L1 ++ x :: L2).map pE)[j]? = some (Value.int .u64 (x.id : Nat), u) ∧ MapE w' bm (.int .u64) (((L1 ++ x :: L2).map pE).eraseIdx j)) :
    NetR w' base bn bm k last (L1 ++ L2) ∧ Net2 bn bm w w' ∧ OwnB w' base x.h x.b := by
  have h2 : Net2 bn bm w w' := (Net2.of hx).trans (Net2.but hb)
  have hat : ((L1 ++ x :: L2).map pE)[L1.length]? = some (pE x) := by rw [List.getElem?_map, List.getElem?_append_right (Nat.le_refl _), Nat.sub_self]; rfl
  have hm : MapE w' bm (.int .u64) ((L1 ++ L2).map pE) := by
    rcases hd with ⟨h1, _⟩ | ⟨j, u, hj, hm⟩
    · exact absurd rfl (h1 _ (List.mem_of_getElem? hat))
    · have e1 : (((L1 ++ x :: L2).map pE).map (·.1))[j]? = some (Value.int .u64 (x.id : Nat)) := by rw [List.getElem?_map, hj]; rfl
      have e2 : (((L1 ++ x :: L2).map pE).map (·.1))[L1.length]? = some (Value.int .u64 (x.id : Nat)) := by rw [List.getElem?_map, hat]; rfl
      have : j = L1.length := (List.getElem?_inj (List.getElem?_eq_some_iff.1 e1).1 h.map.keys.2).1 (e1.trans e2.symm)
      subst this
      have e3 : ((L1 ++ x :: L2).map pE).eraseIdx L1.length = (L1 ++ L2).map pE := by
        rw [List.map_append, List.map_append, List.map_cons]
        have hl : L1.length = (L1.map pE).length := by rw [List.length_map]
        rw [hl, List.eraseIdx_append_of_length_le (Nat.le_refl _), Nat.sub_self]
        rfl
      rw [e3] at hm
      exact hm
  have ho : ∀ y ∈ L1 ++ x :: L2, OwnB w' base y.h y.b := fun y hy => h.row h2 (h.own y hy) (by decide)
  refine ⟨h.sub ?_ ?_ hm ho, h2, ho x (by simp)⟩
  · exact List.Sublist.append (List.Sublist.refl _) (List.sublist_cons_self _ _)
  · rw [hb.block bn h.ne]; exact block_later h.net hx

set_option maxRecDepth 100000 in
set_option maxHeartbeats 4000000 in
theorem deliver_no (w : World) (base bn bm k last : Nat) (L : List PK) (h : NetR w base bn bm k last L) (id : Nat) (hno : ∀ x ∈ L, x.id ≠ id) : Calls Try.prog 23 #[.pointer (some ⟨bn, 0, none⟩), .int .u64 id] w fun e w' => e = .returned (.tuple #[.int .i64 0, .int .i64 0, .slice none 0 0, .int .i64 6]) ∧ Ext w w' := by
  have HA := Lib.hid (at_no w base bn bm k last L h id hno)
  clear h hno
  go_enter Try.func23, Try.ntmps23
  go_wp2_with ((with_reducible refine HA.out.mono ?_); rintro e w2 ⟨rfl, hx⟩; have HX := Lib.hid hx; clear hx)
  exact bodyPost_ret (v := .tuple #[.int .i64 0, .int .i64 0, .slice none 0 0, .int .i64 6]) (by simp [results, Try.results23, go_sem]) rfl ⟨rfl, HX.out.alloc _⟩
set_option maxRecDepth 100000 in
set_option maxHeartbeats 4000000 in
theorem deliver_yes (w : World) (base bn bm k last : Nat) (L1 L2 : List PK) (x : PK) (h : NetR w base bn bm k last (L1 ++ x :: L2)) : Calls Try.prog 23 #[.pointer (some ⟨bn, 0, none⟩), .int .u64 x.id] w fun e w' => e = .returned (.tuple #[.int .i64 x.fr, .int .i64 x.dst, x.h, .int .i64 0]) ∧ NetR w' base bn bm k last (L1 ++ L2) ∧ Net2 bn bm w w' ∧ OwnB w' base x.h x.b := by
  have hxm : x ∈ L1 ++ x :: L2 := by simp
  obtain ⟨ax, cx, hh⟩ := OwnB.slice (h.own x hxm)
  have HA := Lib.hid (at_yes w base bn bm k last _ h x hxm ax _ cx hh)
  have HH := Lib.hid hh
  have HN := Lib.hid h
  rw [hh]
  generalize x.b.length = nx at *
  clear hh h hxm
  go_enter Try.func23, Try.ntmps23
  go_upto_region 4 with ((with_reducible refine HA.out.mono ?_); rintro e w2 ⟨rfl, hx⟩; have HX := Lib.hid hx; clear hx)
  obtain ⟨hxa, hbx⟩ := boxes1 w2 (.cells #[.int .u64 x.id, .int .i64 x.fr, .int .i64 x.dst, .slice ax nx cx] 94)
  have b1 := cell_of_row _ _ 1 _ _ _ hbx
  have b2 := cell_of_row _ _ 2 _ _ _ hbx
  have b3 := cell_of_row _ _ 3 _ _ _ hbx
  have HXA := Lib.hid (HX.out.trans hxa)
  have HM := Lib.hid (HN.out.ext HXA.out).map
  have c2 := (HN.out.ext HXA.out).cell.2.2
  have hlt : w2.heap.size ≠ bm := by have h1 := HN.out.bmlt; have h2 := HX.out.size; omega
  have HLT := Lib.hid hlt
  clear HX HA hxa hbx hlt
  generalize w2.alloc (.cells #[.int .u64 x.id, .int .i64 x.fr, .int .i64 x.dst, .slice ax nx cx] 94) = wa at *
  generalize w2.heap.size = bx at *
  go_upto_region 5 with (refine wpList_del rfl (.tmp 22) (.tmp 23) 85 28 rfl Try.underlying85 Try.underlying28 rfl HM.out rfl ?_; intro w3 hbut hdel; have HB := Lib.hid hbut; have HD := Lib.hid (HN.out.del HXA.out hbut hdel); have g1 := (World.cell?_of_block (hbut.block bx HLT.out) : w3.cell? ⟨bx, 1, none⟩ = _).trans b1; have g2 := (World.cell?_of_block (hbut.block bx HLT.out) : w3.cell? ⟨bx, 2, none⟩ = _).trans b2; have g3 := (World.cell?_of_block (hbut.block bx HLT.out) : w3.cell? ⟨bx, 3, none⟩ = _).trans b3; clear hbut hdel b1 b2 b3 c2)
  refine wp_region_facts [Fact.eq (.pointer (some ⟨bx, 0, none⟩)),
      Fact.eq (.pointer (some ⟨bx, 1, none⟩)),
      Fact.eq (.int .i64 x.fr),
      Fact.eq (.pointer (some ⟨bx, 0, none⟩)),
      Fact.eq (.pointer (some ⟨bx, 2, none⟩)),
      Fact.eq (.int .i64 x.dst),
      Fact.eq (.pointer (some ⟨bx, 3, none⟩)),
      Fact.eq (.slice ax nx cx),
      Fact.eq (.int .i64 x.fr),
      Fact.eq (.int .i64 x.dst),
      Fact.eq (.slice ax nx cx),
      Fact.eq (.int .i64 0)]
    [[], [(0, 24)], [(1, 25)], [], [(3, 27)], [(4, 28)], [], [(6, 30)], [(2, 26)], [(5, 29)], [(7, 31)], []]
    [(0, 24), (1, 25), (2, 26), (3, 27), (4, 28), (5, 29), (6, 30), (7, 31), (8, 4), (9, 5), (10, 6), (11, 7)] (by kernel_rfl) (by kernel_rfl) ?_ ?_
  · refine ⟨?_, ?_, ?_, ?_, ?_, ?_, ?_, ?_, ?_, ?_, ?_, ?_, trivial⟩
    · intro w1 hx1; change wpList _ _ _ _ _ _; go_wp2_with fail; exact ⟨rfl, Ext.refl _, rfl, rfl⟩
    · intro w1 hx1; rintro _ rfl; change wpList _ _ _ _ _ _; go_wp2_with fail; exact ⟨rfl, Ext.refl _, rfl, rfl⟩
    · intro w1 hx1; rintro _ rfl; change wpList _ _ _ _ _ _; have m0 := hx1.cell g1; go_wp2_with fail; exact ⟨rfl, Ext.refl _, rfl, rfl⟩
    · intro w1 hx1; change wpList _ _ _ _ _ _; go_wp2_with fail; exact ⟨rfl, Ext.refl _, rfl, rfl⟩
    · intro w1 hx1; rintro _ rfl; change wpList _ _ _ _ _ _; go_wp2_with fail; exact ⟨rfl, Ext.refl _, rfl, rfl⟩
    · intro w1 hx1; rintro _ rfl; change wpList _ _ _ _ _ _; have m0 := hx1.cell g2; go_wp2_with fail; exact ⟨rfl, Ext.refl _, rfl, rfl⟩
    · intro w1 hx1; change wpList _ _ _ _ _ _; go_wp2_with fail; exact ⟨rfl, Ext.refl _, rfl, rfl⟩
    · intro w1 hx1; rintro _ rfl; change wpList _ _ _ _ _ _; have m0 := hx1.cell g3; go_wp2_with fail; exact ⟨rfl, Ext.refl _, rfl, rfl⟩
    · intro w1 hx1; rintro _ rfl; change wpList _ _ _ _ _ _; exact ob_assign rfl rfl rfl rfl rfl
    · intro w1 hx1; rintro _ rfl; change wpList _ _ _ _ _ _; exact ob_assign rfl rfl rfl rfl rfl
    · intro w1 hx1; rintro _ rfl; change wpList _ _ _ _ _ _; exact ob_assign rfl rfl rfl rfl rfl
    · intro w1 hx1; change wpList _ _ _ _ _ _; exact ob_assign rfl rfl rfl rfl rfl
  · intro w1 hx1; rintro _ rfl; rintro _ rfl; rintro _ rfl; rintro _ rfl; rintro _ rfl; rintro _ rfl; rintro _ rfl; rintro _ rfl; rintro _ rfl; rintro _ rfl; rintro _ rfl; rintro _ rfl; refine depsThen_nil ?_; dsimp only; simp only [Act.put, List.setIfInBounds_toArray, List.set_cons_zero, List.set_cons_succ]
    have HDD := HD.out
    rw [HH.out] at HDD
    have KD := Lib.hid HDD
    have KX := Lib.hid hx1
    clear HDD hx1 g1 g2 g3
    go_wp2_with fail
    exact bodyPost_ret (v := .tuple #[.int .i64 x.fr, .int .i64 x.dst, .slice ax nx cx, .int .i64 0]) (by simp [results, Try.results23, go_sem]) rfl ⟨rfl, KD.out.1.ext KX.out, KD.out.2.1.trans (Net2.of KX.out), own_ext KD.out.2.2 KX.out⟩
set_option maxRecDepth 100000 in
set_option maxHeartbeats 4000000 in
theorem drop_no (w : World) (base bn bm k last : Nat) (L : List PK) (h : NetR w base bn bm k last L) (id : Nat) (hno : ∀ x ∈ L, x.id ≠ id) : Calls Try.prog 24 #[.pointer (some ⟨bn, 0, none⟩), .int .u64 id] w fun e w' => e = .returned (.int .i64 6) ∧ Ext w w' := by
  have HA := Lib.hid (deliver_no w base bn bm k last L h id hno)
  clear h hno
  go_enter Try.func24, Try.ntmps24
  go_wp2_with ((with_reducible refine HA.out.mono ?_); rintro e w2 ⟨rfl, hx⟩; have HX := Lib.hid hx; clear hx)
  go_ret
  exact ⟨rfl, HX.out⟩
set_option maxRecDepth 100000 in
set_option maxHeartbeats 4000000 in
theorem drop_yes (w : World) (base bn bm k last : Nat) (L1 L2 : List PK) (x : PK) (h : NetR w base bn bm k last (L1 ++ x :: L2)) : Calls Try.prog 24 #[.pointer (some ⟨bn, 0, none⟩), .int .u64 x.id] w fun e w' => e = .returned (.int .i64 0) ∧ NetR w' base bn bm k last (L1 ++ L2) ∧ Net2 bn bm w w' := by
  have HA := Lib.hid (deliver_yes w base bn bm k last L1 L2 x h)
  clear h
  go_enter Try.func24, Try.ntmps24
  go_wp2_with ((with_reducible refine HA.out.mono ?_); rintro e w2 ⟨rfl, hx⟩; have HX := Lib.hid hx; clear hx)
  go_ret
  exact ⟨rfl, HX.out.1, HX.out.2.1⟩
set_option maxRecDepth 100000 in
set_option maxHeartbeats 4000000 in
theorem double_no (w : World) (base bn bm k last : Nat) (L : List PK) (h : NetR w base bn bm k last L) (id : Nat) (hno : ∀ x ∈ L, x.id ≠ id) : Calls Try.prog 25 #[.pointer (some ⟨bn, 0, none⟩), .int .u64 id] w fun e w' => e = .returned (.tuple #[.int .u64 0, .int .i64 6]) ∧ Ext w w' := by
  have HA := Lib.hid (at_no w base bn bm k last L h id hno)
  clear h hno
  go_enter Try.func25, Try.ntmps25
  go_wp2_with ((with_reducible refine HA.out.mono ?_); rintro e w2 ⟨rfl, hx⟩; have HX := Lib.hid hx; clear hx)
  go_ret2
  exact ⟨rfl, HX.out.alloc _⟩
set_option maxRecDepth 100000 in
set_option maxHeartbeats 4000000 in
theorem double_full (w : World) (base bn bm k last : Nat) (L : List PK) (x : PK) (h : NetR w base bn bm k last L) (hxm : x ∈ L) (hf : 4096 ≤ L.length) : Calls Try.prog 25 #[.pointer (some ⟨bn, 0, none⟩), .int .u64 x.id] w fun e w' => e = .returned (.tuple #[.int .u64 0, .int .i64 7]) ∧ Ext w w' := by
  obtain ⟨ax, cx, hh⟩ := OwnB.slice (h.own x hxm)
  have HA := Lib.hid (at_yes w base bn bm k last _ h x hxm ax _ cx hh)
  have HN := Lib.hid h
  have HF := Lib.hid hf
  generalize x.b.length = nx at *
  clear hh h hxm hf
  go_enter Try.func25, Try.ntmps25
  go_upto_region 2 with ((with_reducible refine HA.out.mono ?_); rintro e w2 ⟨rfl, hx⟩; have HX := Lib.hid hx; clear hx)
  have HXA := Lib.hid (HX.out.trans ((Ext.refl w2).alloc (.cells #[.int .u64 x.id, .int .i64 x.fr, .int .i64 x.dst, .slice ax nx cx] 94)))
  go_wp2_with (go_at_call 39; (with_reducible refine (out_full _ _ _ _ _ _ _ (HN.out.ext HXA.out) _ _ _ HF.out).mono ?_); rintro e w5 ⟨rfl, hx⟩; have HR := Lib.hid (HXA.out.trans hx); clear hx)
  go_ret2
  exact ⟨rfl, HR.out⟩
set_option maxRecDepth 100000 in
set_option maxHeartbeats 4000000 in
theorem double_yesF (w : World) (base bn bm k last : Nat) (L : List PK) (x : PK) (h : NetR w base bn bm k last L) (hxm : x ∈ L) (hf : L.length < 4096) (hlast : last < 1000000000) : Calls Try.prog 25 #[.pointer (some ⟨bn, 0, none⟩), .int .u64 x.id] w fun e w' => e = .returned (.tuple #[.int .u64 (last + 1 : Nat), .int .i64 0]) ∧ (∃ hv, NetR w' base bn bm k (last + 1) (L ++ [⟨last + 1, x.fr, x.dst, x.b, hv⟩]) ∧ ∀ g, hv.ownBlock = some g → w.heap.size ≤ g) ∧ Net2 bn bm w w' := by
  obtain ⟨ax, cx, hh⟩ := OwnB.slice (h.own x hxm)
  have HA := Lib.hid (at_yes w base bn bm k last _ h x hxm ax _ cx hh)
  have HN := Lib.hid h
  have HF := Lib.hid hf
  have HLA := Lib.hid hlast
  have HIN := Lib.hid (h.inn x hxm)
  have HLB := Lib.hid (h.max.2.2 x hxm)
  have HO : Hid (∀ W, Ext w W → OwnB W base (.slice ax x.b.length cx) x.b) := fun W hx => by rw [← hh]; exact own_ext (h.own x hxm) hx
  have HBK : Hid (∀ W, Ext w W → ∀ w', Net2 bn bm W w' → Bytes w' (.slice ax x.b.length cx) x.b) := fun W hx w' h2 => OwnB.bytes (base := base) ((h.ext hx).row h2 (HO.out W hx) (by decide))
  clear hh h hxm hf hlast
  obtain ⟨l1, hl1⟩ : ∃ l1, l1 = last + 1 := ⟨_, rfl⟩
  rw [← hl1]
  have HL1 := Lib.hid hl1
  clear hl1
  go_enter Try.func25, Try.ntmps25
  go_upto_region 2 with ((with_reducible refine HA.out.mono ?_); rintro e w2 ⟨rfl, hx⟩; have HX := Lib.hid hx; clear hx)
  have HXA := Lib.hid (HX.out.trans ((Ext.refl w2).alloc (.cells #[.int .u64 x.id, .int .i64 x.fr, .int .i64 x.dst, .slice ax x.b.length cx] 94)))
  go_wp2_with (go_at_call 39; (with_reducible refine (out_anyF _ _ _ _ _ _ _ (HN.out.ext HXA.out) _ _ _ x.b (OwnB.bytes (HO.out _ HXA.out)) (HBK.out _ HXA.out) HIN.out HLB.out HF.out HLA.out).mono ?_); rw [← HL1.out]; rintro e w5 ⟨rfl, hr⟩; have HR := Lib.hid hr; clear hr)
  go_ret2
  exact ⟨rfl, HR.out.1.imp (fun _ hh => ⟨hh.1, fun g hg => Nat.le_trans HXA.out.size (hh.2 g hg)⟩), (Net2.of HXA.out).trans HR.out.2⟩
theorem double_yes (w : World) (base bn bm k last : Nat) (L : List PK) (x : PK) (h : NetR w base bn bm k last L) (hxm : x ∈ L) (hf : L.length < 4096) (hlast : last < 1000000000) : Calls Try.prog 25 #[.pointer (some ⟨bn, 0, none⟩), .int .u64 x.id] w fun e w' => e = .returned (.tuple #[.int .u64 (last + 1 : Nat), .int .i64 0]) ∧ (∃ hv, NetR w' base bn bm k (last + 1) (L ++ [⟨last + 1, x.fr, x.dst, x.b, hv⟩])) ∧ Net2 bn bm w w' :=
  (double_yesF w base bn bm k last L x h hxm hf hlast).mono fun _ _ ⟨h1, ⟨hv, h2, _⟩, h3⟩ => ⟨h1, ⟨hv, h2⟩, h3⟩
end Go.Proofs.Ytlgopjfnknjgjaa
