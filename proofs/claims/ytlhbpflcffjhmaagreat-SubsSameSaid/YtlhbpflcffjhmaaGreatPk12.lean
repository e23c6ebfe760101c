/- What a predicate asks of a name: Asked. (Printed by a program.)
The names of a predicate: Names.
slices.Contains at strings; what no event matches: none; Covers.
Covers.
Subs (24): the closures of tops and less; less.
Subs (24): tops.
Subs (24): Maximal.
What turns: some blocks, all else stays. (Of any program; the same words stand in D4.)
Subs (24): a table in memory.
Subs (24): made, Own, Disown, at.
Subs (24): at; Disown, Learn. -/
import Derived.Test.YtlhbpflcffjhmaaGreatPk11
import Derived.Test.YtlhbpflcffjhmaaGreatPk9
import Derived.Test.YtlhbpflcffjhmaaGreatPk2
import Derived.Test.YtlhbpflcffjhmaaGreatPk3
namespace Go.Proofs.YtlhbpflcffjhmaaGreat
open Go.RowKit Go.Sort

def askL (name : List UInt8) (l : List C) : Rg := l.foldl (fun r c => if c.name = name then r.and (ofR c) else r) allR
theorem askL_snoc (name : List UInt8) (l : List C) (c : C) : askL name (l ++ [c]) = if c.name = name then (askL name l).and (ofR c) else askL name l := by unfold askL; rw [List.foldl_append]; rfl
theorem askL_few (name : List UInt8) (l : List C) (h : l.length ≤ 6) : Rises (askL name l) ∧ Few 576 (askL name l) := by
  obtain ⟨h1, h2⟩ := few_fold name l 1 allR rises_all few_all
  refine ⟨h1, h2.mono ?_⟩
  have : 2 ^ l.length ≤ 2 ^ 6 := Nat.pow_le_pow_right (by decide) h
  have e : (2 : Nat) ^ 6 = 64 := by decide
  omega

set_option maxRecDepth 100000 in
set_option maxHeartbeats 8000000 in
theorem asked_no (w : World) (vp : Value) (p : List C) (name : List UInt8) (hp : PredR w vp p) (hm : mayP p = false) :
    Calls Tryz.prog 36 #[vp, .string (strOf name)] w fun e w' => ∃ v, e = .returned (.tuple #[v, .int .i64 30]) ∧ RgR w' v noneR ∧ Ext w w' := by
  obtain ⟨hx0, hT⟩ := boxes1 w (.cells #[.slice none 0 0, .slice none 0 0, .slice none 0 0, .bool false] 72)
  have hcall := pmay_any _ vp p (hp.ext hx0)
  rw [hm] at hcall
  obtain ⟨a, cap, rfl, hc, hmx⟩ := hp.shape
  have HCALL := Lib.hid hcall
  have HT := Lib.hid hT
  clear hcall hT hp hm
  generalize p.length = N at *
  go_enter Tryz.func36, Tryz.ntmps36
  go_wp2_with fail
  refine HCALL.out.mono ?_
  rintro e y1 ⟨rfl, hy1⟩
  have HT := Lib.hid (block_later HT.out hy1)
  have hxw := hx0.trans hy1
  clear hy1 hx0 HCALL
  go_wp2_with (refine wpList_store_whole 72 (.tmp 4) (.tmp 14) rfl rfl w.heap.size rfl #[.slice none 0 0, .slice none 0 0, .slice none 0 0, .bool false] rfl _ 72 HT.out rfl info72s (by simp [Value.oneCell']) ?_)
  have hq := setRow_heap _ _ _ #[.slice none 0 0, .slice none 0 0, .slice none 0 0, .bool false] _ _ HT.out
  have g0 := cell_of_row _ _ 0 _ _ _ hq
  have g1 := cell_of_row _ _ 1 _ _ _ hq
  have g2 := cell_of_row _ _ 2 _ _ _ hq
  have g3 := cell_of_row _ _ 3 _ _ _ hq
  refine bodyPost_ret (v := .tuple #[.agg #[.slice none 0 0, .slice none 0 0, .slice none 0 0, .bool false], .int .i64 30]) (by simp [results, Tryz.results36, go_sem, g0, g1, g2, g3]) rfl ⟨.agg #[.slice none 0 0, .slice none 0 0, .slice none 0 0, .bool false], rfl, ?_, (hxw).setRow (Nat.le_refl _) _⟩
  exact rgr_set (RgR.of (r := noneR) (SpR.nil _) (SpR.nil _) (SpR.nil _)) HT.out (by simp)

set_option maxRecDepth 100000 in
set_option maxHeartbeats 8000000 in
theorem asked_yes (w : World) (vp : Value) (p : List C) (name : List UInt8) (hp : PredR w vp p) (hm : mayP p = true) (hok : ∀ c ∈ p, okC c) :
    Calls Tryz.prog 36 #[vp, .string (strOf name)] w fun e w' => ∃ v, e = .returned (.tuple #[v, .int .i64 0]) ∧ RgR w' v (askL name p) ∧ Ext w w' := by
  obtain ⟨hx0, hT⟩ := boxes1 w (.cells #[.slice none 0 0, .slice none 0 0, .slice none 0 0, .bool false] 72)
  have hcall := pmay_any _ vp p (hp.ext hx0)
  rw [hm] at hcall
  have hl6 := may_len hm
  have HMA := Lib.hid (may_all hm)
  obtain ⟨a, cap, rfl, hc, hmx⟩ := hp.shape
  unfold maxLen at hmx
  have HCALL := Lib.hid hcall
  have HT := Lib.hid hT
  have HP := Lib.hid hp
  have HOK := Lib.hid hok
  clear hcall hT hp hm hok
  generalize hN : p.length = N at *
  have HN := Lib.hid hN
  clear hN
  go_enter Tryz.func36, Tryz.ntmps36
  go_wp2_with fail
  refine HCALL.out.mono ?_
  rintro e y1 ⟨rfl, hy1⟩
  have HT := Lib.hid (block_later HT.out hy1)
  have hxw := hx0.trans hy1
  clear hy1 hx0 HCALL
  go_wp2_with fail
  refine (all_any _).mono ?_
  rintro e y2 ⟨v, rfl, hv, hy2⟩
  obtain ⟨b1, i1, b2, i2, b3, i3, rfl, p1, p2, p3⟩ := hv.ex
  obtain ⟨hxa, hb5⟩ := boxes1 y2 (.cells #[.slice b1 allR.i.length i1, .slice b2 allR.s.length i2, .slice b3 allR.b.length i3, .bool allR.odd] 72)
  have hgood : Hid (GoodR y2.heap.size allR (y2.alloc (.cells #[.slice b1 allR.i.length i1, .slice b2 allR.s.length i2, .slice b3 allR.b.length i3, .bool allR.odd] 72))) := ⟨_, hb5, hv.ext hxa⟩
  have hx2 := hy2.trans hxa
  have hlt5 := (Array.getElem?_eq_some_iff.1 (block_later HT.out hy2)).1
  have HT := Lib.hid (block_later HT.out hx2)
  have hxw := hxw.trans hx2
  clear hv p1 p2 p3 hxa hb5 hx2 hy2
  generalize allR.i.length = n1 at *
  generalize allR.s.length = n2 at *
  generalize allR.b.length = n3 at *
  generalize allR.odd = od at *
  go_wp2_with fail
  generalize y2.alloc (.cells #[.slice b1 n1 i1, .slice b2 n2 i2, .slice b3 n3 i3, .bool od] 72) = y3 at *
  go_loopw [18] (fun i wr => ∃ k : Nat, k ≤ N ∧ i = .int .i64 k ∧ Hid (GoodR y2.heap.size (askL name (p.take k)) wr) ∧ Hid (wr.heap[w.heap.size]? = some (.cells #[.slice none 0 0, .slice none 0 0, .slice none 0 0, .bool false] 72 (0, 0))) ∧ Ext w wr) (fun i _ => N - (intOf i).toNat)
  case atStart => exact ⟨0, Nat.zero_le _, rfl, hgood, HT, hxw⟩
  case round =>
    clear hgood HT hxw
    obtain ⟨k, hk, rfl, hgood, HT, hx⟩ := hrel
    by_cases hlt : k < N
    · have hI : decide ((k : Int) < (N : Int)) = true := decide_eq_true (by omega)
      have hkl : k < p.length := by rw [HN.out]; exact hlt
      obtain ⟨B, o, sa, sc, rfl, f0, f1, f2, f3, f4, f5, f6, hset⟩ := PredR.at (HP.out.ext hx) hkl
      have hstep : askL name (p.take (k + 1)) = if p[k].name = name then (askL name (p.take k)).and (ofR p[k]) else askL name (p.take k) := by
        rw [List.take_succ_eq_append_getElem hkl, askL_snoc]
      have hfew := askL_few name (p.take k) (by rw [List.length_take, HN.out]; omega)
      have hokc := HOK.out p[k] (List.getElem_mem hkl)
      have HMC := Lib.hid (HMA.out p[k] (List.getElem_mem hkl))
      have HSTEP := Lib.hid hstep
      have HFEW := Lib.hid hfew
      have HOKC := Lib.hid hokc
      clear hstep hfew hokc
      generalize p[k] = x at *
      generalize hR : askL name (p.take k) = R at *
      clear hR
      obtain ⟨hxa, hX⟩ := boxes1 wr (.cells #[.string (strOf x.name), .int .i64 x.op, .int .i64 x.v.k, .int .i64 x.v.n, .string (strOf x.v.s), .bool x.v.b, .slice sa x.set.length sc] 64)
      have x0 := cell_of_row _ _ 0 _ _ _ hX
      have x1 := cell_of_row _ _ 1 _ _ _ hX
      have x2 := cell_of_row _ _ 2 _ _ _ hX
      have x3 := cell_of_row _ _ 3 _ _ _ hX
      have x4 := cell_of_row _ _ 4 _ _ _ hX
      have x5 := cell_of_row _ _ 5 _ _ _ hX
      have x6 := cell_of_row _ _ 6 _ _ _ hX
      have HSET := Lib.hid (hset.ext hxa)
      clear hX hset
      by_cases hnm : x.name = name
      · have hd : (x.name == name) = true := beq_iff_eq.2 hnm
        have hst2 : askL name (p.take (k + 1)) = R.and (ofR x) := by rw [HSTEP.out, if_pos hnm]
        have HST2 := Lib.hid hst2
        have hof := Of_any _ x sa sc HSET.out HOKC.out.v.n (fun z hz => (HOKC.out.set z hz).n)
        rw [if_pos HMC.out] at hof
        have HOF := Lib.hid hof
        clear hnm hst2 hof HSTEP
        generalize hXL : x.set.length = XL at *
        clear hXL
        go_upto_region 8 with fail
        generalize wr.alloc (.cells #[.string (strOf x.name), .int .i64 x.op, .int .i64 x.v.k, .int .i64 x.v.n, .string (strOf x.v.s), .bool x.v.b, .slice sa XL sc] 64) = wa at *
        clear f0 f1 f2 f3 f4 f5 f6
        go_wp2_with fail
        refine HOF.out.mono ?_
        rintro e y4 ⟨v, rfl, hv, hy4⟩
        obtain ⟨j1, t1, j2, t2, j3, t3, rfl, _, _, _⟩ := hv.ex
        obtain ⟨hxd, hD⟩ := boxes1 y4 (.cells #[.slice j1 (ofR x).i.length t1, .slice j2 (ofR x).s.length t2, .slice j3 (ofR x).b.length t3, .bool (ofR x).odd] 72)
        have hxr2 := hxa.trans (hy4.trans hxd)
        obtain ⟨cs, hb5, hr5⟩ := hgood.out
        have hb5 := block_later hb5 hxr2
        have hr5 := hr5.ext hxr2
        obtain ⟨r1, e1, r2, e2, r3, e3, ee, _⟩ := hr5.ex
        cases ee
        have s0 := cell_of_row _ _ 0 _ _ _ hb5
        have s1 := cell_of_row _ _ 1 _ _ _ hb5
        have s2 := cell_of_row _ _ 2 _ _ _ hb5
        have s3 := cell_of_row _ _ 3 _ _ _ hb5
        have q0 := cell_of_row _ _ 0 _ _ _ hD
        have q1 := cell_of_row _ _ 1 _ _ _ hD
        have q2 := cell_of_row _ _ 2 _ _ _ hD
        have q3 := cell_of_row _ _ 3 _ _ _ hD
        have hand := andR_any _ _ _ R (ofR x) hr5 (hv.ext hxd) HFEW.out.1 (good_of x).full (HFEW.out.2.mono (by omega)) ((few_of x).mono (by omega))
        have HAND := Lib.hid hand
        have HT := Lib.hid (block_later HT.out hxr2)
        have HB5 := Lib.hid hb5
        have hxw := hx.trans hxr2
        clear hv hD hb5 hr5 hand hxr2 hxd hy4 hx hxa x0 x1 x2 x3 x4 x5 x6 hgood HSET HOF
        generalize R.i.length = m1 at *
        generalize R.s.length = m2 at *
        generalize R.b.length = m3 at *
        generalize R.odd = mo at *
        generalize (ofR x).i.length = l1 at *
        generalize (ofR x).s.length = l2 at *
        generalize (ofR x).b.length = l3 at *
        generalize (ofR x).odd = lo at *
        go_wp2_with fail
        refine HAND.out.mono ?_
        rintro e y5 ⟨v, rfl, hv, hy5⟩
        obtain ⟨j1, t1, j2, t2, j3, t3, rfl, _, _, _⟩ := hv.ex
        have HV4 := Lib.hid hv
        have HB5 := Lib.hid (block_later HB5.out hy5)
        have HT := Lib.hid (block_later HT.out hy5)
        have hxw := hxw.trans hy5
        clear hv hy5 q0 q1 q2 q3 s0 s1 s2 s3 HAND
        have hq := setRow_heap _ _ _ #[.slice j1 (R.and (ofR x)).i.length t1, .slice j2 (R.and (ofR x)).s.length t2, .slice j3 (R.and (ofR x)).b.length t3, .bool (R.and (ofR x)).odd] _ _ HB5.out
        have hrq := rgr_set (cs := #[.slice j1 (R.and (ofR x)).i.length t1, .slice j2 (R.and (ofR x)).s.length t2, .slice j3 (R.and (ofR x)).b.length t3, .bool (R.and (ofR x)).odd]) HV4.out HB5.out (by simp)
        have hgn : GoodR y2.heap.size (askL name (p.take (k + 1))) _ := ⟨_, hq, by rw [HST2.out]; exact hrq⟩
        have HGN := Lib.hid hgn
        have HT := Lib.hid ((setRow_other y5 y2.heap.size w.heap.size #[.slice j1 (R.and (ofR x)).i.length t1, .slice j2 (R.and (ofR x)).s.length t2, .slice j3 (R.and (ofR x)).b.length t3, .bool (R.and (ofR x)).odd] (by omega)).trans HT.out)
        have hxw := hxw.setRow (g := y2.heap.size) (by omega) #[.slice j1 (R.and (ofR x)).i.length t1, .slice j2 (R.and (ofR x)).s.length t2, .slice j3 (R.and (ofR x)).b.length t3, .bool (R.and (ofR x)).odd]
        clear hq hrq hgn
        generalize (R.and (ofR x)).i.length = m1 at *
        generalize (R.and (ofR x)).s.length = m2 at *
        generalize (R.and (ofR x)).b.length = m3 at *
        generalize (R.and (ofR x)).odd = mo at *
        generalize hy6 : y5.setRow y2.heap.size #[.slice j1 m1 t1, .slice j2 m2 t2, .slice j3 m3 t3, .bool mo] = y6 at *
        have HY6 := Lib.hid hy6
        clear hy6
        go_wp2_with (refine wpList_store_whole 72 (.tmp 6) (.tmp 33) rfl rfl y2.heap.size rfl #[.slice j1 m1 t1, .slice j2 m2 t2, .slice j3 m3 t3, .bool mo] rfl _ 72 HB5.out rfl info72s (by simp [Value.oneCell']) ?_; rw [HY6.out])
        go_roundw
        case rel => exact ⟨k + 1, hlt, by go_num, HGN, HT, hxw⟩
        case measure => simp [intOf]; omega
      · have hd : (x.name == name) = false := beq_eq_false_iff_ne.2 hnm
        have hne : ¬ strOf x.name = strOf name := fun e => hnm (strOf_inj.1 e)
        have hst2 : askL name (p.take (k + 1)) = R := by rw [HSTEP.out, if_neg hnm]
        have hgn : GoodR y2.heap.size (askL name (p.take (k + 1))) (wr.alloc (.cells #[.string (strOf x.name), .int .i64 x.op, .int .i64 x.v.k, .int .i64 x.v.n, .string (strOf x.v.s), .bool x.v.b, .slice sa x.set.length sc] 64)) := by
          obtain ⟨cs, hb5, hr5⟩ := hgood.out
          rw [hst2]
          exact ⟨cs, block_later hb5 hxa, hr5.ext hxa⟩
        have HGN := Lib.hid hgn
        have HT := Lib.hid (block_later HT.out hxa)
        have hxw := hx.trans hxa
        clear hnm hst2 hgn hgood hx hxa HSTEP
        go_wp2_with fail
        go_roundw
        case rel => exact ⟨k + 1, hlt, by go_num, HGN, HT, hxw⟩
        case measure => simp [intOf]; omega
    · obtain rfl : k = N := by omega
      have hI : decide ((k : Int) < (k : Int)) = false := decide_eq_false (by omega)
      have htk : p.take k = p := List.take_of_length_le (by rw [HN.out]; exact Nat.le_refl _)
      obtain ⟨cs, hb5, hr5⟩ := hgood.out
      rw [htk] at hr5
      obtain ⟨r1, e1, r2, e2, r3, e3, ee, _⟩ := hr5.ex
      cases ee
      have s0 := cell_of_row _ _ 0 _ _ _ hb5
      have s1 := cell_of_row _ _ 1 _ _ _ hb5
      have s2 := cell_of_row _ _ 2 _ _ _ hb5
      have s3 := cell_of_row _ _ 3 _ _ _ hb5
      have HR5 := Lib.hid hr5
      clear hb5 hr5 htk hgood
      generalize (askL name p).i.length = m1 at *
      generalize (askL name p).s.length = m2 at *
      generalize (askL name p).b.length = m3 at *
      generalize (askL name p).odd = mo at *
      go_wp2_with (refine wpList_store_whole 72 (.tmp 4) (.tmp 35) rfl rfl w.heap.size rfl #[.slice r1 m1 e1, .slice r2 m2 e2, .slice r3 m3 e3, .bool mo] rfl _ 72 HT.out rfl info72s (by simp [Value.oneCell']) ?_)
      have hq := setRow_heap _ _ _ #[.slice r1 m1 e1, .slice r2 m2 e2, .slice r3 m3 e3, .bool mo] _ _ HT.out
      have g0 := cell_of_row _ _ 0 _ _ _ hq
      have g1 := cell_of_row _ _ 1 _ _ _ hq
      have g2 := cell_of_row _ _ 2 _ _ _ hq
      have g3 := cell_of_row _ _ 3 _ _ _ hq
      refine bodyPost_ret (v := .tuple #[.agg #[.slice r1 m1 e1, .slice r2 m2 e2, .slice r3 m3 e3, .bool mo], .int .i64 0]) (by simp [results, Tryz.results36, go_sem, g0, g1, g2, g3]) rfl ⟨.agg #[.slice r1 m1 e1, .slice r2 m2 e2, .slice r3 m3 e3, .bool mo], rfl, ?_, (hx).setRow (Nat.le_refl _) _⟩
      exact rgr_set HR5.out HT.out (by simp)

theorem asked_any (w : World) (vp : Value) (p : List C) (name : List UInt8) (hp : PredR w vp p) (hok : ∀ c ∈ p, okC c) :
    Calls Tryz.prog 36 #[vp, .string (strOf name)] w fun e w' => ∃ v, e = .returned (.tuple #[v, .int .i64 (if mayP p then 0 else 30)]) ∧ RgR w' v (askedF p name) ∧ Ext w w' := by
  unfold askedF
  cases hm : mayP p with
  | false => exact asked_no w vp p name hp hm
  | true => exact asked_yes w vp p name hp hm hok
end Go.Proofs.YtlhbpflcffjhmaaGreat

namespace Go.Proofs.YtlhbpflcffjhmaaGreat
open Go.RowKit Go.Sort

theorem info9t : (Tryz.prog.info? 9).map (fun i => (i.zero, i.size, i.bytes)) = some (some (.string ⟨#[]⟩), 1, 16) := by kernel_rfl
theorem st_row (w : World) (s : List UInt8) : Row (w.alloc (.cells #[.string (strOf s)] 9)) 1 (.slice (some ⟨w.heap.size, 0, none⟩) 1 1) 1 [stC s] :=
  Row.of_own (World.ownsRow_lit (base := w.heap.size) (e := 9) (size := 1) w #[.string (strOf s)] 1 (Nat.le_refl _) (by decide) rfl)
def nameC (c : C) : Value := stC c.name
theorem names_sorted {p : List C} {l' : List (List UInt8)} (h1 : l'.Perm (p.map C.name)) (h2 : l'.Pairwise fun a b => Lib.compareBytes a b ≤ 0) : compE l' = namesF p := by
  unfold namesF
  refine compL_sorted wo_bytes h1 h2 (fun _ _ _ _ => bytes_zero) fun a _ b _ => ?_
  rw [decide_eq_true_iff]
  exact ⟨fun h => by rw [h]; exact wo_bytes.refl b, bytes_zero⟩

set_option maxRecDepth 100000 in
set_option maxHeartbeats 8000000 in
theorem names_any (w : World) (vp : Value) (p : List C) (hp : PredR w vp p) (hl : p.length ≤ 100000) :
    Calls Tryz.prog 32 #[vp] w fun e w' => ∃ v, e = .returned v ∧ w'.ownsRow w.heap.size 9 1 v (namesF p).length ((namesF p).map stC) ∧ Ext w w' := by
  obtain ⟨a, cap, rfl, hc, hmx⟩ := hp.shape
  unfold maxLen at hmx
  have HP := Lib.hid hp
  clear hp
  generalize hN : p.length = N at *
  have HN := Lib.hid hN
  clear hN
  have H0 : Hid (w.ownsRow w.heap.size 9 1 (.slice none 0 0) 0 ((p.take 0).map nameC)) := ⟨rfl, .inl ⟨rfl, rfl⟩⟩
  go_enter Tryz.func32, Tryz.ntmps32
  go_wp2_with fail
  go_loopw [3, 8] (fun v i wr => ∃ k : Nat, k ≤ N ∧ i = .int .i64 k ∧ Hid (wr.ownsRow w.heap.size 9 1 v k ((p.take k).map nameC)) ∧ Ext w wr) (fun _ i _ => N - (intOf i).toNat)
  case atStart => exact ⟨0, Nat.zero_le _, rfl, H0, Ext.refl w⟩
  case round =>
    clear H0
    obtain ⟨k, hk, rfl, hown, hx⟩ := hrel
    by_cases hlt : k < N
    · have hI : decide ((k : Int) < (N : Int)) = true := decide_eq_true (by omega)
      have hkl : k < p.length := by rw [HN.out]; exact hlt
      obtain ⟨B, o, sa, sc, rfl, f0, f1, f2, f3, f4, f5, f6, hset⟩ := PredR.at (HP.out.ext hx) hkl
      have hstep : (p.take (k + 1)).map (nameC) = (p.take k).map (nameC) ++ [stC p[k].name] := by
        rw [List.take_succ_eq_append_getElem hkl, List.map_append]; rfl
      have HSTEP := Lib.hid hstep
      clear hstep hset
      generalize p[k] = x at *
      generalize x.set.length = xl at *
      obtain ⟨hxa, hX⟩ := boxes1 wr (.cells #[.string (strOf x.name), .int .i64 x.op, .int .i64 x.v.k, .int .i64 x.v.n, .string (strOf x.v.s), .bool x.v.b, .slice sa xl sc] 64)
      have x0 := cell_of_row _ _ 0 _ _ _ hX
      have hrow := st_row (wr.alloc (.cells #[.string (strOf x.name), .int .i64 x.op, .int .i64 x.v.k, .int .i64 x.v.n, .string (strOf x.v.s), .bool x.v.b, .slice sa xl sc] 64)) x.name
      rw [World.size_alloc] at hrow
      have hxb := hxa.alloc (.cells #[.string (strOf x.name)] 9)
      have ho := own_ext hown.out hxb
      have hx2 := hx.trans hxb
      have HROW := Lib.hid hrow
      have HOWN := Lib.hid ho
      have hbase := hx2.size
      clear hX hrow hxa hxb ho hown hx
      go_wp2_with (at_builtin; refine wpList_append_row 66 9 (.tmp 12) (.tmp 15) rfl w.heap.size _ 1 16 Tryz.underlying66 info9t rfl (by decide) rfl _ k ((p.take k).map nameC) rfl HOWN.out 1 [stC x.name] HROW.out (by intro u hu; rw [List.mem_singleton.1 hu]; rfl) (by omega) (by unfold maxLen; omega) hbase ?_; intro v' w' hown2 hg; have HO2 := Lib.hid hown2; have HX2 := Lib.hid (hx2.grown_none hg (own_base HOWN.out)); clear hown2 hg)
      go_roundw
      case rel => exact ⟨k + 1, hlt, by go_num, by show World.ownsRow _ _ _ _ _ _ _; rw [HSTEP.out]; exact HO2.out, HX2.out⟩
      case measure => simp [intOf]; omega
    · obtain rfl : k = N := by omega
      have hI : decide ((k : Int) < (k : Int)) = false := decide_eq_false (by omega)
      have htk : (p.take k).map (nameC) = (p.map C.name).map stC := by
        rw [List.take_of_length_le (by rw [HN.out]; exact Nat.le_refl _), List.map_map]; rfl
      have ho := hown.out
      rw [htk] at ho
      have hlen : (p.map C.name).length = k := by rw [List.length_map, HN.out]
      have ho2 := ho
      rw [← hlen] at ho2
      have hsort := sortSt_any wr w.heap.size _ (p.map C.name) ho2 (by omega)
      have hbase := own_base ho2
      have HS := Lib.hid hsort
      have HB := Lib.hid hbase
      have HLEN := Lib.hid hlen
      clear htk hown hlen ho ho2 hsort hbase
      go_wp2_with fail
      refine HS.out.mono ?_
      rintro e w2 ⟨rfl, l', q1, q2, q3, q4⟩
      have hl' : l'.length = (p.map C.name).length := q1.length_eq
      rw [← hl'] at q3
      have hcomp := compactSt_any w2 w.heap.size _ l' q3 (by rw [hl', HLEN.out]; omega)
      rw [names_sorted q1 q2] at hcomp
      have HC := Lib.hid hcomp
      have hx2 := hx.grown_none q4 HB.out
      clear hl' q1 q2 q3 q4 hcomp hx
      go_wp2_with fail
      refine HC.out.mono ?_
      rintro e w3 ⟨v', rfl, z1, z2, _⟩
      have hx3 := hx2.grown_none z2 HB.out
      have HZ := Lib.hid z1
      clear z1 z2 hx2
      go_wp2_with fail
      go_ret
      exact ⟨_, rfl, HZ.out, hx3⟩
end Go.Proofs.YtlhbpflcffjhmaaGreat

namespace Go.Proofs.YtlhbpflcffjhmaaGreat
open Go.RowKit Go.Sort

set_option maxRecDepth 100000 in
set_option maxHeartbeats 2000000 in
theorem idxSt_any (w : World) (v : Value) (l : List (List UInt8)) (h : StrR w v l) (g : Nat) (cb : Array Value) (p : List UInt8 → Bool) (eg : ∀ args w, (callFunc g args).run Tryz.prog w = .ok (.enter g args) w)
    (hc : ∀ (W : World) (x : List UInt8) , Ext w W → x ∈ l → Calls Tryz.prog g (#[.string (strOf x)] ++ cb) W fun e W' => e = .returned (.bool (p x)) ∧ Ext W W') :
    Calls Tryz.prog 80 #[v, .func (.func g) #[] cb] w fun e w' => e = .returned (.int .i64 (idxP p l)) ∧ Ext w w' := by
  obtain ⟨a, cap, rfl, hcc, hm⟩ := Row.shape h
  unfold maxLen at hm
  generalize hn : l.length = n at *
  have HN := Lib.hid hn
  clear hn
  have HC := Lib.hid hc
  clear hc
  go_enter Tryz.func80, Tryz.ntmps80
  go_wp2_with fail
  go_loopw [5, 8] (fun _ i wr => ∃ k : Nat, k ≤ n ∧ i = .int .i64 k ∧ Hid (∀ x ∈ l.take k, p x = false) ∧ Ext w wr) (fun _ i _ => n - (intOf i).toNat)
  case atStart => exact ⟨0, Nat.zero_le _, rfl, (by show ∀ x ∈ l.take 0, _; simp), Ext.refl w⟩
  case round =>
    obtain ⟨k, hk, rfl, hall, hx⟩ := hrel
    by_cases hlt : k < n
    · have k1 : k < l.length := by rw [HN.out]; exact hlt
      have hI : decide ((k : Int) < (n : Int)) = true := decide_eq_true (by omega)
      have hext := h.ext hx
      obtain ⟨B1, o1, rfl, f0⟩ := StrR.at hext k1
      have hcall := HC.out _ l[k] hx (List.getElem_mem k1)
      have hhit : p l[k] = true → idxP p l = k := fun e => idxP_hit k1 hall.out e
      have hnext : p l[k] = false → ∀ x ∈ l.take (k + 1), p x = false := fun e x hx => by
        rw [List.take_succ_eq_append_getElem k1] at hx
        rcases List.mem_append.1 hx with hx | hx
        · exact hall.out x hx
        · rw [List.mem_singleton.1 hx]; exact e
      generalize l[k] = x at *
      have HCALL := Lib.hid hcall
      clear hcall
      cases hq : p x with
      | true =>
        have hres := Lib.hid (hhit hq)
        have HQ := Lib.hid hq
        clear hhit hnext hq
        go_wp2_with (go_at_fn g; refine HCALL.out.mono ?_; rw [HQ.out]; rintro e w2 ⟨rfl, hx2⟩)
        go_ret
        exact ⟨by rw [hres.out]; rfl, hx.trans hx2⟩
      | false =>
        have hres := Lib.hid (hnext hq)
        have HQ := Lib.hid hq
        clear hhit hnext hq
        go_wp2_with (go_at_fn g; refine HCALL.out.mono ?_; rw [HQ.out]; rintro e w2 ⟨rfl, hx2⟩)
        go_roundw
        case rel => exact ⟨k + 1, hlt, by go_num, hres.out, hx.trans hx2⟩
        case measure => simp [intOf]; omega
    · obtain rfl : k = n := by omega
      have hI : decide ((k : Int) < (k : Int)) = false := decide_eq_false (by omega)
      have hres : Hid (idxP p l = -1) := by
        show _ = _
        refine idxP_miss fun x hx => hall.out x ?_
        rw [List.take_of_length_le (by rw [HN.out]; exact Nat.le_refl _)]; exact hx
      go_wp2_with fail
      go_ret
      exact ⟨by rw [hres.out]; rfl, hx⟩

set_option maxRecDepth 100000 in
set_option maxHeartbeats 2000000 in
theorem hasSt_any (w : World) (v : Value) (l : List (List UInt8)) (h : StrR w v l) (g : Nat) (cb : Array Value) (p : List UInt8 → Bool) (eg : ∀ args w, (callFunc g args).run Tryz.prog w = .ok (.enter g args) w)
    (hc : ∀ (W : World) (x : List UInt8) , Ext w W → x ∈ l → Calls Tryz.prog g (#[.string (strOf x)] ++ cb) W fun e W' => e = .returned (.bool (p x)) ∧ Ext W W') :
    Calls Tryz.prog 34 #[v, .func (.func g) #[] cb] w fun e w' => e = .returned (.bool (l.any p)) ∧ Ext w w' := by
  have hcon := idxSt_any w v l h g cb p eg hc
  have hb := Lib.hid (idxP_any p l)
  clear hc
  generalize idxP p l = i at *
  obtain ⟨a, cap, rfl, hcc, hm⟩ := Row.shape h
  go_enter Tryz.func34, Tryz.ntmps34
  go_wp2_with (go_at_call 80; refine hcon.mono ?_; rintro e w' ⟨rfl, hx⟩)
  go_ret
  exact ⟨by rw [hb.out]; rfl, hx⟩


set_option maxRecDepth 100000 in
set_option maxHeartbeats 2000000 in
theorem idx138_any (w : World) (v : Value) (l : List (List UInt8)) (h : StrR w v l) (s : List UInt8) :
    Calls Tryz.prog 84 #[v, .string (strOf s)] w fun e w' => e = .returned (.int .i64 (idxP (fun x => decide (x = s)) l)) ∧ w' = w := by
  obtain ⟨a, cap, rfl, hc, hm⟩ := Row.shape h
  unfold maxLen at hm
  have HH := Lib.hid h
  clear h
  generalize hN : l.length = n at *
  have HN := Lib.hid hN
  clear hN
  go_enter Tryz.func84, Tryz.ntmps84
  go_wp2_with fail
  go_loop [8] (fun i => ∃ k : Nat, k ≤ n ∧ i = .int .i64 k ∧ Hid (∀ x ∈ l.take k, decide (x = s) = false)) (fun i => n - (intOf i).toNat)
  case atStart => exact ⟨0, Nat.zero_le _, rfl, fun x hx => by simp at hx⟩
  case round =>
    obtain ⟨k, hk, rfl, hall⟩ := hrel
    by_cases hlt : k < n
    · have hI : decide ((k : Int) < (n : Int)) = true := decide_eq_true (by omega)
      have k1 : k < l.length := by rw [HN.out]; exact hlt
      obtain ⟨B, o, rfl, f0⟩ := StrR.at HH.out k1
      have hhit : decide (l[k] = s) = true → idxP (fun x => decide (x = s)) l = k := fun e => idxP_hit k1 hall.out e
      have hnext : decide (l[k] = s) = false → ∀ x ∈ l.take (k + 1), decide (x = s) = false := fun e x hx => by
        rw [List.take_succ_eq_append_getElem k1] at hx
        rcases List.mem_append.1 hx with hx | hx
        · exact hall.out x hx
        · rw [List.mem_singleton.1 hx]; exact e
      generalize l[k] = x at *
      by_cases hq : x = s
      · have hd : (s == x) = true := beq_iff_eq.2 hq.symm
        have hres := Lib.hid (hhit (decide_eq_true hq))
        clear hhit hnext hq
        go_wp2_with fail
        go_ret
        exact ⟨by rw [hres.out]; rfl, rfl⟩
      · have hd : (s == x) = false := beq_eq_false_iff_ne.2 (fun e => hq e.symm)
        have hne : ¬ strOf s = strOf x := fun e => hq (strOf_inj.1 e).symm
        have hres := Lib.hid (hnext (decide_eq_false hq))
        clear hhit hnext hq
        go_wp2_with fail
        go_round
        case rel => exact ⟨k + 1, hlt, by go_num, hres.out⟩
        case measure => simp [intOf]; omega
    · obtain rfl : k = n := by omega
      have hI : decide ((k : Int) < (k : Int)) = false := decide_eq_false (by omega)
      have hres : Hid (idxP (fun x => decide (x = s)) l = -1) := by
        show _ = _
        refine idxP_miss fun x hx => hall.out x ?_
        rw [List.take_of_length_le (by rw [HN.out]; exact Nat.le_refl _)]; exact hx
      go_wp2_with fail
      go_ret
      exact ⟨by rw [hres.out]; rfl, rfl⟩

theorem any_mem (l : List (List UInt8)) (s : List UInt8) : (l.any fun x => decide (x = s)) = decide (s ∈ l) := by
  rw [Bool.eq_iff_iff, List.any_eq_true, decide_eq_true_iff]
  exact ⟨fun ⟨x, hx, e⟩ => of_decide_eq_true e ▸ hx, fun h => ⟨s, h, decide_eq_true rfl⟩⟩
set_option maxRecDepth 100000 in
set_option maxHeartbeats 2000000 in
theorem contains94_any (w : World) (v : Value) (l : List (List UInt8)) (h : StrR w v l) (s : List UInt8) :
    Calls Tryz.prog 37 #[v, .string (strOf s)] w fun e w' => e = .returned (.bool (decide (s ∈ l))) ∧ w' = w := by
  have hcon := idx138_any w v l h s
  have hb := Lib.hid (idxP_any (fun x => decide (x = s)) l)
  have hm := Lib.hid (any_mem l s)
  generalize idxP (fun x => decide (x = s)) l = i at *
  obtain ⟨a, cap, rfl, hcc, hmm⟩ := Row.shape h
  go_enter Tryz.func37, Tryz.ntmps37
  go_wp2_with (go_at_call 84; refine hcon.mono ?_; rintro e w' ⟨rfl, rfl⟩)
  go_ret
  exact ⟨by rw [← hm.out, ← hb.out]; rfl, rfl⟩

theorem ent136 : ∀ args w, (callFunc 78 args).run Tryz.prog w = .ok (.enter 78 args) w := enters_of Tryz.func78 (by kernel_rfl) rfl
theorem ent93 : ∀ args w, (callFunc 35 args).run Tryz.prog w = .ok (.enter 35 args) w := enters_of Tryz.func35 (by kernel_rfl) rfl

set_option maxRecDepth 100000 in
set_option maxHeartbeats 4000000 in
theorem none136_any (w : World) (B : Nat) (vp : Value) (p : List C) (name : List UInt8) (hB : w.cell? ⟨B, 0, none⟩ = some vp) (hp : PredR w vp p) (hok : ∀ c ∈ p, okC c) :
    Calls Tryz.prog 78 (#[.string (strOf name)] ++ #[.pointer (some ⟨B, 0, none⟩)]) w fun e w' => e = .returned (.bool (askedF p name).empty) ∧ Ext w w' := by
  show Calls Tryz.prog 78 #[.string (strOf name), .pointer (some ⟨B, 0, none⟩)] w _
  have hcall := asked_any w vp p name hp hok
  obtain ⟨a, cap, rfl, hc, hmx⟩ := hp.shape
  have HC := Lib.hid hcall
  clear hcall hp hok
  generalize (if mayP p then (0 : Int) else 30) = er at *
  generalize p.length = N at *
  go_enter Tryz.func78, Tryz.ntmps78
  go_wp2_with fail
  refine HC.out.mono ?_
  rintro e y1 ⟨v, rfl, hv, hy1⟩
  obtain ⟨r1, e1, r2, e2, r3, e3, rfl, _, _, _⟩ := hv.ex
  obtain ⟨hxa, hD⟩ := boxes1 y1 (.cells #[.slice r1 (askedF p name).i.length e1, .slice r2 (askedF p name).s.length e2, .slice r3 (askedF p name).b.length e3, .bool (askedF p name).odd] 72)
  have hem := empty_any _ _ _ (hv.ext hxa)
  have HE := Lib.hid hem
  have q0 := cell_of_row _ _ 0 _ _ _ hD
  have q1 := cell_of_row _ _ 1 _ _ _ hD
  have q2 := cell_of_row _ _ 2 _ _ _ hD
  have q3 := cell_of_row _ _ 3 _ _ _ hD
  have hxw := hy1.trans hxa
  clear hv hD hem hxa hy1 HC
  generalize (askedF p name).i.length = m1 at *
  generalize (askedF p name).s.length = m2 at *
  generalize (askedF p name).b.length = m3 at *
  generalize (askedF p name).odd = mo at *
  go_wp2_with fail
  refine HE.out.mono ?_
  rintro e y2 ⟨rfl, hy2⟩
  go_wp2_with fail
  go_ret
  exact ⟨rfl, hxw.trans hy2⟩

set_option maxRecDepth 100000 in
set_option maxHeartbeats 4000000 in
theorem none_any (w : World) (vp : Value) (p : List C) (hp : PredR w vp p) (hok : ∀ c ∈ p, okC c) (hl : p.length ≤ 100000) :
    Calls Tryz.prog 33 #[vp] w fun e w' => e = .returned (.bool (noneF p)) ∧ Ext w w' := by
  obtain ⟨hx0, hB⟩ := boxes1 w (.cells #[vp] 25)
  have hnames := names_any _ vp p (hp.ext hx0) hl
  have hhas : ∀ W v, Ext w W → W.cell? ⟨w.heap.size, 0, none⟩ = some vp → StrR W v (namesF p) → Calls Tryz.prog 34 #[v, .func (.func 78) #[] #[.pointer (some ⟨w.heap.size, 0, none⟩)]] W fun e w' => e = .returned (.bool (noneF p)) ∧ Ext W w' := fun W v hW hb hv =>
    hasSt_any W v _ hv 78 #[.pointer (some ⟨w.heap.size, 0, none⟩)] (fun n => (askedF p n).empty) ent136 fun W' n hW' _ => none136_any W' w.heap.size vp p n (hW'.cell hb) (hp.ext (hW.trans hW')) hok
  have b0 := cell_of_row _ _ 0 _ _ _ hB
  obtain ⟨a, cap, rfl, hc, hmx⟩ := hp.shape
  have HN := Lib.hid hnames
  have HH := Lib.hid hhas
  clear hnames hhas hp hok hl hB
  generalize p.length = N at *
  go_enter Tryz.func33, Tryz.ntmps33
  go_wp2_with fail
  refine HN.out.mono ?_
  rintro e y1 ⟨v, rfl, hv, hy1⟩
  have hcall := HH.out y1 v (hx0.trans hy1) (hy1.cell b0) (Row.of_own hv)
  obtain ⟨aa, cc, rfl, _, _⟩ := Row.shape (Row.of_own hv)
  have HC := Lib.hid hcall
  have hxw := hx0.trans hy1
  clear hcall hv hy1 HN HH b0 hx0
  go_wp2_with fail
  refine HC.out.mono ?_
  rintro e y2 ⟨rfl, hy2⟩
  go_wp2_with fail
  go_ret
  exact ⟨rfl, hxw.trans hy2⟩
end Go.Proofs.YtlhbpflcffjhmaaGreat

namespace Go.Proofs.YtlhbpflcffjhmaaGreat
open Go.RowKit Go.Sort

set_option maxRecDepth 100000 in
set_option maxHeartbeats 8000000 in
theorem covers93_any (w : World) (B1 B2 B3 : Nat) (vp vq vo : Value) (p q : List C) (own : List (List UInt8)) (name : List UInt8) (h1 : w.cell? ⟨B1, 0, none⟩ = some vp) (h2 : w.cell? ⟨B2, 0, none⟩ = some vq) (h3 : w.cell? ⟨B3, 0, none⟩ = some vo)
    (hp : PredR w vp p) (hq : PredR w vq q) (ho : StrR w vo own) (kp : ∀ c ∈ p, okC c) (kq : ∀ c ∈ q, okC c) :
    Calls Tryz.prog 35 (#[.string (strOf name)] ++ #[.pointer (some ⟨B1, 0, none⟩), .pointer (some ⟨B2, 0, none⟩), .pointer (some ⟨B3, 0, none⟩)]) w fun e w' => e = .returned (.bool (!decide (name ∈ own) || !(askedF q name).within (askedF p name))) ∧ Ext w w' := by
  show Calls Tryz.prog 35 #[.string (strOf name), .pointer (some ⟨B1, 0, none⟩), .pointer (some ⟨B2, 0, none⟩), .pointer (some ⟨B3, 0, none⟩)] w _
  have hcp := fun W (hW : Ext w W) => asked_any W vp p name (hp.ext hW) kp
  have hcq := fun W (hW : Ext w W) => asked_any W vq q name (hq.ext hW) kq
  have hco := fun W (hW : Ext w W) => contains94_any W vo own (ho.ext hW) name
  obtain ⟨a1, cap1, rfl, _, _⟩ := hp.shape
  obtain ⟨a2, cap2, rfl, _, _⟩ := hq.shape
  obtain ⟨a3, cap3, rfl, _, _⟩ := Row.shape ho
  have HP := Lib.hid hcp
  have HQ := Lib.hid hcq
  have HO := Lib.hid hco
  have hfp := few_asked p name
  have hfq := few_asked q name
  have HFP := Lib.hid hfp
  have HFQ := Lib.hid hfq
  have HGP := Lib.hid (good_asked p name)
  clear hcp hcq hco hp hq ho kp kq hfp hfq
  generalize (if mayP p then (0 : Int) else 30) = ep at *
  generalize (if mayP q then (0 : Int) else 30) = eq at *
  generalize p.length = np at *
  generalize q.length = nq at *
  generalize askedF p name = P at *
  generalize askedF q name = Q at *
  generalize hA : decide (name ∈ own) = A at *
  clear hA
  generalize own.length = no at *
  go_enter Tryz.func35, Tryz.ntmps35
  go_wp2_with fail
  refine (HP.out w (Ext.refl w)).mono ?_
  rintro e y1 ⟨v, rfl, hv, hy1⟩
  obtain ⟨r1, e1, r2, e2, r3, e3, rfl, _, _, _⟩ := hv.ex
  obtain ⟨hxa, hD⟩ := boxes1 y1 (.cells #[.slice r1 P.i.length e1, .slice r2 P.s.length e2, .slice r3 P.b.length e3, .bool P.odd] 72)
  have hxw := hy1.trans hxa
  have HVP := Lib.hid (hv.ext hxa)
  have HD := Lib.hid hD
  have h2 := hxw.cell h2
  have h3 := hxw.cell h3
  clear hv hD hy1 hxa
  go_wp2_with fail
  refine (HQ.out _ hxw).mono ?_
  rintro e y2 ⟨v, rfl, hv, hy2⟩
  obtain ⟨s1, f1, s2, f2, s3, f3, rfl, _, _, _⟩ := hv.ex
  obtain ⟨hxb, hE⟩ := boxes1 y2 (.cells #[.slice s1 Q.i.length f1, .slice s2 Q.s.length f2, .slice s3 Q.b.length f3, .bool Q.odd] 72)
  have hxy := hy2.trans hxb
  have HVP := Lib.hid (HVP.out.ext hxy)
  have HVQ := Lib.hid (hv.ext hxb)
  have HD := Lib.hid (block_later HD.out hxy)
  have HE := Lib.hid hE
  have h3 := hxy.cell h3
  have hxw := hxw.trans hxy
  clear hv hE hy2 hxb hxy
  go_wp2_with fail
  refine (HO.out _ hxw).mono ?_
  rintro e y3 ⟨rfl, rfl⟩
  cases A
  · go_wp2_with fail
    go_ret
    exact ⟨rfl, hxw⟩
  · have hwi := within_any _ _ _ Q P HVQ.out HVP.out HFQ.out.1 HGP.out.full (HFQ.out.2.mono (by omega)) (HFP.out.2.mono (by omega))
    have HW := Lib.hid hwi
    have q0 := cell_of_row _ _ 0 _ _ _ HD.out
    have q1 := cell_of_row _ _ 1 _ _ _ HD.out
    have q2 := cell_of_row _ _ 2 _ _ _ HD.out
    have q3 := cell_of_row _ _ 3 _ _ _ HD.out
    have z0 := cell_of_row _ _ 0 _ _ _ HE.out
    have z1 := cell_of_row _ _ 1 _ _ _ HE.out
    have z2 := cell_of_row _ _ 2 _ _ _ HE.out
    have z3 := cell_of_row _ _ 3 _ _ _ HE.out
    clear hwi HVP HVQ HD HE HFP HFQ HGP HO HP HQ
    generalize P.i.length = m1 at *
    generalize P.s.length = m2 at *
    generalize P.b.length = m3 at *
    generalize P.odd = mo at *
    generalize Q.i.length = n1 at *
    generalize Q.s.length = n2 at *
    generalize Q.b.length = n3 at *
    generalize Q.odd = qo at *
    go_wp2_with fail
    refine HW.out.mono ?_
    rintro e y4 ⟨rfl, hy4⟩
    go_wp2_with fail
    go_ret
    exact ⟨rfl, hxw.trans hy4⟩

set_option maxRecDepth 100000 in
set_option maxHeartbeats 8000000 in
theorem covers_any (w : World) (vp vq : Value) (p q : List C) (hp : PredR w vp p) (hq : PredR w vq q) (kp : ∀ c ∈ p, okC c) (kq : ∀ c ∈ q, okC c) :
    Calls Tryz.prog 9 #[vp, vq] w fun e w' => e = .returned (.bool (coversF p q)) ∧ Ext w w' := by
  obtain ⟨hx0, hB1, hB2⟩ := boxes2 w (.cells #[vp] 25) (.cells #[vq] 25)
  have hmp := fun W (hW : Ext w W) => pmay_any W vp p (hp.ext hW)
  have hmq := fun W (hW : Ext w W) => pmay_any W vq q (hq.ext hW)
  have hnp := fun W (hW : Ext w W) (hl : p.length ≤ 100000) => names_any W vp p (hp.ext hW) hl
  have hnq := fun W (hW : Ext w W) (hl : q.length ≤ 100000) => names_any W vq q (hq.ext hW) hl
  have hno := fun W (hW : Ext w W) (hl : q.length ≤ 100000) => none_any W vq q (hq.ext hW) kq hl
  have hhas : ∀ W v vo B3, Ext w W → W.cell? ⟨w.heap.size, 0, none⟩ = some vp → W.cell? ⟨w.heap.size + 1, 0, none⟩ = some vq → W.cell? ⟨B3, 0, none⟩ = some vo → StrR W v (namesF p) → StrR W vo (namesF q) → Calls Tryz.prog 34 #[v, .func (.func 35) #[] #[.pointer (some ⟨w.heap.size, 0, none⟩), .pointer (some ⟨w.heap.size + 1, 0, none⟩), .pointer (some ⟨B3, 0, none⟩)]] W fun e w' => e = .returned (.bool ((namesF p).any fun n => !decide (n ∈ namesF q) || !(askedF q n).within (askedF p n))) ∧ Ext W w' := fun W v vo B3 hW k1 k2 k3 hv ho =>
    hasSt_any W v _ hv 35 #[.pointer (some ⟨w.heap.size, 0, none⟩), .pointer (some ⟨w.heap.size + 1, 0, none⟩), .pointer (some ⟨B3, 0, none⟩)] _ ent93 fun W' n hW' _ => covers93_any W' w.heap.size (w.heap.size + 1) B3 vp vq vo p q (namesF q) n (hW'.cell k1) (hW'.cell k2) (hW'.cell k3) (hp.ext (hW.trans hW')) (hq.ext (hW.trans hW')) (ho.ext hW') kp kq
  have b1 := cell_of_row _ _ 0 _ _ _ hB1
  have b2 := cell_of_row _ _ 0 _ _ _ hB2
  obtain ⟨a1, cap1, rfl, _, _⟩ := hp.shape
  obtain ⟨a2, cap2, rfl, _, _⟩ := hq.shape
  have HMP := Lib.hid hmp
  have HMQ := Lib.hid hmq
  have HNP := Lib.hid hnp
  have HNQ := Lib.hid hnq
  have HNO := Lib.hid hno
  have HHAS := Lib.hid hhas
  clear hmp hmq hnp hnq hno hhas hp hq kp kq hB1 hB2
  cases hM1 : mayP p with
  | false =>
    have hres : coversF p q = false := by unfold coversF; rw [hM1]; rfl
    rw [hres]
    rw [hM1] at HMP
    clear hM1 hres HNP HNQ HNO HHAS HMQ
    generalize p.length = np at *
    generalize q.length = nq at *
    go_enter Tryz.func9, Tryz.ntmps9
    go_wp2_with fail
    refine (HMP.out _ hx0).mono ?_
    rintro e y1 ⟨rfl, hy1⟩
    go_wp2_with fail
    go_ret
    exact ⟨rfl, hx0.trans hy1⟩
  | true =>
    cases hM2 : mayP q with
    | false =>
      have hres : coversF p q = false := by unfold coversF; rw [hM1, hM2]; rfl
      rw [hres]
      rw [hM1] at HMP
      rw [hM2] at HMQ
      clear hM1 hM2 hres HNP HNQ HNO HHAS
      generalize p.length = np at *
      generalize q.length = nq at *
      go_enter Tryz.func9, Tryz.ntmps9
      go_wp2_with fail
      refine (HMP.out _ hx0).mono ?_
      rintro e y1 ⟨rfl, hy1⟩
      have b2 := hy1.cell b2
      have hxw := hx0.trans hy1
      clear hy1
      go_wp2_with fail
      refine (HMQ.out _ hxw).mono ?_
      rintro e y2 ⟨rfl, hy2⟩
      go_wp2_with fail
      go_ret
      exact ⟨rfl, hxw.trans hy2⟩
    | true =>
      have hres : coversF p q = (noneF q || !(namesF p).any fun n => !decide (n ∈ namesF q) || !(askedF q n).within (askedF p n)) := by unfold coversF; rw [hM1, hM2]; rfl
      have hl1 := may_len hM1
      have hl2 := may_len hM2
      rw [hres]
      rw [hM1] at HMP
      rw [hM2] at HMQ
      clear hM1 hM2 hres
      generalize ((namesF p).any fun n => !decide (n ∈ namesF q) || !(askedF q n).within (askedF p n)) = R at *
      generalize hN : noneF q = N at *
      clear hN
      generalize p.length = np at *
      generalize q.length = nq at *
      have hl1 : np ≤ 100000 := by omega
      have hl2 : nq ≤ 100000 := by omega
      go_enter Tryz.func9, Tryz.ntmps9
      go_wp2_with fail
      refine (HMP.out _ hx0).mono ?_
      rintro e y1 ⟨rfl, hy1⟩
      have b1 := hy1.cell b1
      have b2 := hy1.cell b2
      have hxw := hx0.trans hy1
      clear hy1 hx0
      go_wp2_with fail
      refine (HMQ.out _ hxw).mono ?_
      rintro e y2 ⟨rfl, hy2⟩
      have b1 := hy2.cell b1
      have b2 := hy2.cell b2
      have hxw := hxw.trans hy2
      clear hy2
      go_wp2_with fail
      refine (HNQ.out _ hxw hl2).mono ?_
      rintro e y3 ⟨vo, rfl, hvo, hy3⟩
      have hvo : StrR y3 vo (namesF q) := Row.of_own hvo
      obtain ⟨ao, co, rfl, _, _⟩ := Row.shape hvo
      obtain ⟨hxa, hD⟩ := boxes1 y3 (.cells #[.slice ao (namesF q).length co] 66)
      have hxy := hy3.trans hxa
      have b1 := hxy.cell b1
      have b2 := hxy.cell b2
      have b3 := cell_of_row _ _ 0 _ _ _ hD
      have hxw := hxw.trans hxy
      have HVO := Lib.hid (hvo.ext hxa)
      clear hvo hxa hD hxy hy3
      generalize (namesF q).length = no at *
      go_wp2_with fail
      refine (HNO.out _ hxw hl2).mono ?_
      rintro e y4 ⟨rfl, hy4⟩
      have b1 := hy4.cell b1
      have b2 := hy4.cell b2
      have b3 := hy4.cell b3
      have hxw := hxw.trans hy4
      have HVO := Lib.hid (HVO.out.ext hy4)
      clear hy4
      cases N
      · go_wp2_with fail
        refine (HNP.out _ hxw hl1).mono ?_
        rintro e y5 ⟨v, rfl, hv, hy5⟩
        have hcall := HHAS.out y5 v _ _ (hxw.trans hy5) (hy5.cell b1) (hy5.cell b2) (hy5.cell b3) (Row.of_own hv) (HVO.out.ext hy5)
        obtain ⟨aa, cc, rfl, _, _⟩ := Row.shape (Row.of_own hv)
        have HCALL := Lib.hid hcall
        have hxw := hxw.trans hy5
        clear hcall hv hy5 b1 b2 b3 HHAS HVO
        generalize (namesF p).length = nn at *
        go_wp2_with fail
        refine HCALL.out.mono ?_
        rintro e y6 ⟨rfl, hy6⟩
        go_wp2_with fail
        go_ret
        exact ⟨rfl, hxw.trans hy6⟩
      · go_wp2_with fail
        go_ret
        exact ⟨rfl, hxw⟩
end Go.Proofs.YtlhbpflcffjhmaaGreat

namespace Go.Proofs.YtlhbpflcffjhmaaGreat
open Go.RowKit Go.Sort Go.MapKept

theorem ent_top1 : ∀ args w, (callFunc 65 args).run Tryz.prog w = .ok (.enter 65 args) w := enters_of Tryz.func65 (by kernel_rfl) rfl
theorem ent_top2 : ∀ args w, (callFunc 68 args).run Tryz.prog w = .ok (.enter 68 args) w := enters_of Tryz.func68 (by kernel_rfl) rfl
theorem ent_less1 : ∀ args w, (callFunc 99 args).run Tryz.prog w = .ok (.enter 99 args) w := enters_of Tryz.func99 (by kernel_rfl) rfl
set_option maxRecDepth 100000 in
set_option maxHeartbeats 4000000 in
theorem top1_any (W : World) (B : Nat) (qh ph : Value) (p q : List C) (hB : W.cell? ⟨B, 0, none⟩ = some ph) (hp : PredR W ph p) (hq : PredR W qh q) (kp : ∀ c ∈ p, okC c) (kq : ∀ c ∈ q, okC c) :
    Calls Tryz.prog 65 #[qh, .pointer (some ⟨B, 0, none⟩)] W fun e w' => e = .returned (.bool (!decide (cmpP p q = 0) && coversF q p)) ∧ Ext W w' := by
  have hs := psame_any W ph qh p q hp hq
  have hc := fun W' (hW : Ext W W') => covers_any W' qh ph q p (hq.ext hW) (hp.ext hW) kq kp
  obtain ⟨pa, pc, rfl, _, _⟩ := hp.shape
  obtain ⟨qa, qc, rfl, _, _⟩ := hq.shape
  have hBx := fun W' (hW : Ext W W') => hW.cell hB
  have HBX := Lib.hid hBx
  have HS := Lib.hid hs
  have HC := Lib.hid hc
  clear hs hc hBx hp hq kp kq
  obtain ⟨s, hs⟩ : ∃ s, s = decide (cmpP p q = 0) := ⟨_, rfl⟩
  rw [← hs] at HS ⊢
  clear hs
  cases s
  · go_enter Tryz.func65, Tryz.ntmps65
    go_wp2_with (first
      | (go_at_call 66; (with_reducible refine HS.out.mono ?_); rintro e w1 ⟨rfl, hx⟩; have HX := Lib.hid hx.1; have hB1 := HBX.out _ hx.1; clear hx)
      | (go_at_call 9; (with_reducible refine (HC.out _ HX.out).mono ?_); rintro e w2 ⟨rfl, hx⟩; have HX2 := Lib.hid (HX.out.trans hx); clear hx))
    exact bodyPost_ret (v := .bool (coversF q p)) (by simp [results, Tryz.results65, go_sem]) rfl ⟨by simp, HX2.out⟩
  · go_enter Tryz.func65, Tryz.ntmps65
    go_wp2_with (go_at_call 66; (with_reducible refine HS.out.mono ?_); rintro e w1 ⟨rfl, hx⟩; have HX := Lib.hid hx.1; have hB1 := HBX.out _ hx.1; clear hx)
    exact bodyPost_ret (v := .bool false) (by simp [results, Tryz.results65, go_sem]) rfl ⟨by simp, HX.out⟩
set_option maxRecDepth 100000 in
set_option maxHeartbeats 4000000 in
theorem top2_any (W : World) (B : Nat) (qh ph : Value) (p q : List C) (hB : W.cell? ⟨B, 0, none⟩ = some ph) (hp : PredR W ph p) (hq : PredR W qh q) :
    Calls Tryz.prog 68 #[qh, .pointer (some ⟨B, 0, none⟩)] W fun e w' => e = .returned (.bool (decide (cmpP p q = 0))) ∧ Ext W w' := by
  have hs := psame_any W ph qh p q hp hq
  obtain ⟨pa, pc, rfl, _, _⟩ := hp.shape
  obtain ⟨qa, qc, rfl, _, _⟩ := hq.shape
  have HS := Lib.hid hs
  clear hs hp hq
  generalize decide (cmpP p q = 0) = s at *
  go_enter Tryz.func68, Tryz.ntmps68
  go_wp2_with (go_at_call 66; (with_reducible refine HS.out.mono ?_); rintro e w1 ⟨rfl, hx⟩; have HX := Lib.hid hx.1; clear hx)
  exact bodyPost_ret (v := .bool s) (by simp [results, Tryz.results68, go_sem]) rfl ⟨rfl, HX.out⟩
set_option maxRecDepth 100000 in
set_option maxHeartbeats 4000000 in
theorem less1_any (W : World) (b B : Nat) (ph v : Value) (p : List C) (us : List PP) (hB : W.cell? ⟨B, 0, none⟩ = some v) (h : RowQ b W v us) (hp : PredT b W ph p) (hl : us.length ≤ 1000000) (hasc : Asc (us.map PP.p)) :
    Calls Tryz.prog 99 #[ph, .pointer (some ⟨B, 0, none⟩)] W fun e w' => e = .returned (.bool (hasF (us.map PP.p) p)) ∧ Ext W w' := by
  have hs := hasT_any W b v ph us p h hp hl hasc
  obtain ⟨pa, pc, rfl, _, _⟩ := hp.pred.shape
  obtain ⟨a, cap, rfl, _, _⟩ := own_shape h.own
  have HS := Lib.hid hs
  clear hs hp h hasc
  generalize hasF (us.map PP.p) p = s at *
  generalize kF (us.map PP.p) p = k at *
  go_enter Tryz.func99, Tryz.ntmps99
  go_wp2_with (go_at_call 45; (with_reducible refine HS.out.mono ?_); rintro e w1 ⟨rfl, hx⟩; have HX := Lib.hid hx; clear hx)
  exact bodyPost_ret (v := .bool s) (by simp [results, Tryz.results99, go_sem]) rfl ⟨rfl, HX.out⟩
theorem less_map (us of : List PP) : (us.filter fun x => !hasF (of.map PP.p) x.p).map PP.p = lessF (us.map PP.p) (of.map PP.p) := by unfold lessF; rw [List.filter_map]; rfl
set_option maxRecDepth 100000 in
set_option maxHeartbeats 4000000 in
theorem lessT_any (w : World) (b : Nat) (v v2 : Value) (us of : List PP) (h : RowQ b w v us) (h2 : RowQ b w v2 of) (hn : NormL (us.map PP.p)) (hl : us.length ≤ 100000) (hl2 : of.length ≤ 100000) (hasc : Asc (of.map PP.p)) :
    Calls Tryz.prog 53 #[v, v2] w fun e w' => ∃ v' us', e = .returned v' ∧ us'.map PP.p = lessF (us.map PP.p) (of.map PP.p) ∧ RowQ w.heap.size w' v' us' ∧ Ext w w' := by
  have hcl := fun W (hW : Ext w W) => cloneQ_any W v us (h.ext hW).preds (by omega)
  have hde : ∀ W vc B, Ext w W → OwnQ W w.heap.size vc us → W.heap[B]? = some (.cells #[v2] 22 (0, 0)) → Calls Tryz.prog 67 #[vc, .func (.func 99) #[] #[.pointer (some ⟨B, 0, none⟩)]] W
      fun e w' => ∃ v', e = .returned v' ∧ OwnQ w' w.heap.size v' (us.filter fun x => !hasF (of.map PP.p) x.p) ∧ Ext w w' := fun W vc B hW ho hB => by
    have hne : vc.ownBlock ≠ some B := own_ne ho hB (by decide)
    have hap : ∀ k, v2.ownBlock = some k → vc.ownBlock ≠ some k := fun k hk e => by
      have h1 := (h2.own.lt k hk).2
      have h2 := own_base ho k e
      omega
    refine (delQ_any W w.heap.size vc us ho (fun x hx => ((h.ps x hx).ext hW).pred) (by omega) 99 #[.pointer (some ⟨B, 0, none⟩)] (fun x => hasF (of.map PP.p) x.p) ent_less1 fun W' x hg hx => ?_).mono ?_
    · have hB' : W'.cell? ⟨B, 0, none⟩ = some v2 := cell_of_row _ _ 0 _ _ _ ((hg.block B (Array.getElem?_eq_some_iff.1 hB).1 fun e => hne e.symm).trans hB)
      exact less1_any W' b B x.h v2 x.p of hB' ((h2.ext hW).keep ho hg hap) (((h.ps x hx).ext hW).rowTurn ho hg) (by omega) hasc
    · rintro e w' ⟨v', rfl, p1, p2⟩
      exact ⟨v', rfl, p1, hW.grown_none p2 (own_base ho)⟩
  have hcp : ∀ W vc, Ext w W → OwnQ W w.heap.size vc (us.filter fun x => !hasF (of.map PP.p) x.p) → Calls Tryz.prog 51 #[vc] W fun e w' => ∃ v' us', e = .returned v' ∧ us'.map PP.p = lessF (us.map PP.p) (of.map PP.p) ∧ RowQ w.heap.size w' v' us' ∧ Ext w w' := fun W vc hW ho => by
    have hsub : ∀ x ∈ us.filter fun x => !hasF (of.map PP.p) x.p, x ∈ us := fun x hx => (List.mem_filter.1 hx).1
    have hmem : ∀ x ∈ us, mayP x.p = true ∧ normP x.p = x.p := fun x hx => hn x.p (List.mem_map.2 ⟨x, hx, rfl⟩)
    refine (copiedT_any W vc _ (OwnQ.preds ho fun x hx => ((h.ps x (hsub x hx)).ext hW).pred) (fun x hx => (hmem x (hsub x hx)).1) (fun x hx => h.ok x (hsub x hx)) (by have := List.length_filter_le (fun x : PP => !hasF (of.map PP.p) x.p) us; omega)).mono ?_
    rintro e w' ⟨v', us', rfl, p1, p2, p3⟩
    refine ⟨v', us', rfl, ?_, p2.low hW.size, hW.trans p3⟩
    rw [p1, ← less_map]
    exact List.map_congr_left fun x hx => (hmem x (hsub x hx)).2
  obtain ⟨a, cap, rfl, _, _⟩ := own_shape h.own
  obtain ⟨a2, cap2, rfl, _, _⟩ := own_shape h2.own
  have HC := Lib.hid hcl
  have HD := Lib.hid hde
  have HP := Lib.hid hcp
  clear hcl hde hcp h h2 hn hasc
  generalize (us.filter fun x => !hasF (of.map PP.p) x.p) = fs at *
  generalize lessF (us.map PP.p) (of.map PP.p) = ls at *
  obtain ⟨hx0, hb0⟩ := boxes1 w (.cells #[.slice a2 of.length cap2] 22)
  have HX0 := Lib.hid hx0
  have HB0 := Lib.hid hb0
  clear hx0 hb0
  go_enter Tryz.func53, Tryz.ntmps53
  go_wp2_with (first
    | (go_at_call 47; (with_reducible refine (HC.out _ HX0.out).mono ?_); rintro e w2 ⟨vc, rfl, ho, hx, _⟩; have HO := Lib.hid (ho.low HX0.out.size); have HX2 := Lib.hid (HX0.out.trans hx); have HB2 := Lib.hid (block_later HB0.out hx); clear ho hx)
    | (go_at_call 67; (refine (HD.out _ _ _ HX2.out HO.out HB2.out).mono ?_); rintro e w3 ⟨vd, rfl, ho, hx⟩; have HO3 := Lib.hid ho; have HX3 := Lib.hid hx; clear ho hx)
    | (go_at_call 51; (with_reducible refine (HP.out _ _ HX3.out HO3.out).mono ?_); rintro e w4 ⟨v4, us4, rfl, hR⟩; have HR := Lib.hid hR; clear hR))
  exact bodyPost_ret (v := v4) (by simp [results, Tryz.results53, go_sem]) rfl ⟨v4, us4, rfl, HR.out⟩
end Go.Proofs.YtlhbpflcffjhmaaGreat

namespace Go.Proofs.YtlhbpflcffjhmaaGreat
open Go.RowKit Go.Sort Go.MapKept

set_option maxRecDepth 100000 in
set_option maxHeartbeats 8000000 in
theorem topsT_any (w : World) (b : Nat) (v : Value) (us : List PP) (h : RowQ b w v us) (hb : b ≤ w.heap.size) (hl : us.length ≤ 100000) :
    Calls Tryz.prog 28 #[v] w fun e w' => ∃ v' us', e = .returned v' ∧ us'.map PP.p = topsF (us.map PP.p) ∧ (∀ x ∈ us', x ∈ us) ∧ OwnQ w' w.heap.size v' us' ∧ RowQ b w' v' us' ∧ Ext w w' := by
  have hcl := cloneQ_any w v us h.preds (by omega)
  obtain ⟨va, vc, rfl, hvc, hvm⟩ := own_shape h.own
  obtain ⟨n, hn⟩ : ∃ n, n = us.length := ⟨_, rfl⟩
  rw [← hn] at hvc
  have HN := Lib.hid hn
  have HR := Lib.hid h
  have HC := Lib.hid hcl
  rw [← hn] at hl HR HC ⊢
  unfold maxLen at hvm
  clear h hcl hn
  go_enter Tryz.func28, Tryz.ntmps28
  go_upto_region 2 with (go_at_call 47; (with_reducible refine HC.out.mono ?_); rintro e w1 ⟨v1, rfl, ho, hx, _⟩; have HO := Lib.hid ho; have HX1 := Lib.hid hx; clear ho hx HC)
  go_wp2_with fail
  go_loopw [3, 11] (fun vo i wr => ∃ (k : Nat) (uo : List PP), k ≤ n ∧ i = .int .i64 k ∧ Hid (OwnQ wr w.heap.size vo uo) ∧ Hid (uo = (us.take k).foldl (topStep PP.p) us) ∧ Hid (Ext w wr)) (fun _ i _ => n - (intOf i).toNat)
  case atStart => exact ⟨0, us, Nat.zero_le _, rfl, HO.out, rfl, HX1.out⟩
  case round =>
    clear HO HX1
    obtain ⟨k, uo, hk, rfl, hown, hfold, hx⟩ := hrel
    by_cases hlt : k < n
    · have hI : decide ((k : Int) < (n : Int)) = true := decide_eq_true (by omega)
      have hkl : k < us.length := by rw [← HN.out]; exact hlt
      obtain ⟨B, o, rfl, c0⟩ := PredsR.at (HR.out.preds.ext hx.out) hkl
      have hmem : us[k] ∈ us := List.getElem_mem hkl
      have hps := HR.out.ps _ hmem
      have hoky := HR.out.ok _ hmem
      have hstep : (us.take (k + 1)).foldl (topStep PP.p) us = topStep PP.p ((us.take k).foldl (topStep PP.p) us) us[k] := by rw [List.take_succ_eq_append_getElem hkl, List.foldl_append]; rfl
      have hsub : ∀ x ∈ uo, x ∈ us := fun x hx => by
        rw [hfold.out] at hx
        exact (topsG_sub PP.p (us.take k) us).subset hx
      generalize us[k] = y at *
      obtain ⟨ya, yc, hyh, _, _⟩ := hps.pred.shape
      obtain ⟨yn, hyn⟩ : ∃ yn, yn = y.p.length := ⟨_, rfl⟩
      rw [← hyn] at hyh
      rw [hyh] at c0
      have HY := Lib.hid (And.intro hyh (And.intro hps hoky))
      have HSUB := Lib.hid hsub
      have HST := Lib.hid hstep
      clear hps hoky hyh hyn hsub hstep hmem
      go_upto_region 5 with fail
      obtain ⟨hxa, hba⟩ := boxes1 wr (.cells #[.slice ya yn yc] 25)
      have hown2 : OwnQ (wr.alloc (.cells #[.slice ya yn yc] 25)) w.heap.size u3 uo := hown.out.ext hxa
      have hne : u3.ownBlock ≠ some wr.heap.size := fun e => by have := (hown.out.lt _ e).2; omega
      have hxw : Ext w (wr.alloc (.cells #[.slice ya yn yc] 25)) := hx.out.trans hxa
      generalize wr.alloc (.cells #[.slice ya yn yc] 25) = wa at *
      generalize wr.heap.size = bx at *
      have hyp : ∀ W, Ext w W → PredT b W (.slice ya yn yc) y.p := fun W hW => by rw [← HY.out.1]; exact HY.out.2.1.ext hW
      have hcont : Calls Tryz.prog 49 #[u3, .func (.func 65) #[] #[.pointer (some ⟨bx, 0, none⟩)]] wa fun e w' => e = .returned (.bool (covB PP.p uo y)) ∧ Ext wa w' :=
        hasQ_any wa u3 uo (OwnQ.preds hown2 fun x hx => ((HR.out.ps x (HSUB.out x hx)).ext hxw).pred) 65 #[.pointer (some ⟨bx, 0, none⟩)] _ ent_top1 fun W x hW hx =>
          top1_any W bx x.h _ y.p x.p (cell_of_row _ _ 0 _ _ _ (block_later hba hW)) (hyp W (hxw.trans hW)).pred ((HR.out.ps x (HSUB.out x hx)).ext (hxw.trans hW)).pred HY.out.2.2 (HR.out.ok x (HSUB.out x hx))
      have hdel : ∀ W, Ext wa W → Calls Tryz.prog 67 #[u3, .func (.func 68) #[] #[.pointer (some ⟨bx, 0, none⟩)]] W fun e w' => ∃ v', e = .returned v' ∧ OwnQ w' w.heap.size v' (dropB PP.p uo y) ∧ Ext w w' := fun W hW => by
        have hoW := hown2.ext hW
        have hbW := block_later hba hW
        refine (delQ_any W w.heap.size u3 uo hoW (fun x hx => ((HR.out.ps x (HSUB.out x hx)).ext (hxw.trans hW)).pred) ?_ 68 #[.pointer (some ⟨bx, 0, none⟩)] (fun x => decide (cmpP y.p x.p = 0)) ent_top2 fun W' x hg hx => ?_).mono ?_
        · have h1 : uo.length ≤ us.length := by rw [hfold.out]; exact (topsG_sub PP.p (us.take k) us).length_le
          have := HN.out
          omega
        · have hB' : W'.cell? ⟨bx, 0, none⟩ = some (.slice ya yn yc) := cell_of_row _ _ 0 _ _ _ ((hg.block bx (Array.getElem?_eq_some_iff.1 hbW).1 hne.symm).trans hbW)
          exact top2_any W' bx x.h _ y.p x.p hB' ((hyp W (hxw.trans hW)).rowTurn hoW hg).pred (((HR.out.ps x (HSUB.out x hx)).ext (hxw.trans hW)).rowTurn hoW hg).pred
        · rintro e w' ⟨v', rfl, p1, p2⟩
          exact ⟨v', rfl, p1, (hxw.trans hW).grown_none p2 (own_base hoW)⟩
      obtain ⟨a3, c3, e3, _, _⟩ := own_shape hown2
      have HCO := Lib.hid hcont
      have HDE := Lib.hid hdel
      have HXW := Lib.hid hxw
      have HO2 := Lib.hid hown2
      have hts : topStep PP.p uo y = if covB PP.p uo y then dropB PP.p uo y else uo := rfl
      have HTS := Lib.hid hts
      clear hcont hdel hxa hba hown2 hne hxw hyp hts c0 e3
      generalize covB PP.p uo y = cb at *
      cases cb
      · have hres : uo = (us.take (k + 1)).foldl (topStep PP.p) us := by rw [HST.out, ← hfold.out, HTS.out]; rfl
        have HRES := Lib.hid hres
        clear hres
        go_upto_region 6 with (go_at_call 49; (with_reducible refine HCO.out.mono ?_); rintro e w4 ⟨rfl, hx⟩; have HX4 := Lib.hid hx; clear hx)
        go_wp2_with fail
        go_roundw
        case rel => exact ⟨k + 1, uo, hlt, by go_num, HO2.out.ext HX4.out, HRES.out, HXW.out.trans HX4.out⟩
        case measure => simp [intOf]; omega
      · have hres : dropB PP.p uo y = (us.take (k + 1)).foldl (topStep PP.p) us := by rw [HST.out, ← hfold.out, HTS.out]; rfl
        have HRES := Lib.hid hres
        clear hres
        go_upto_region 6 with (go_at_call 49; (with_reducible refine HCO.out.mono ?_); rintro e w4 ⟨rfl, hx⟩; have HX4 := Lib.hid hx; clear hx)
        go_wp2_with (go_at_call 67; (with_reducible refine (HDE.out _ HX4.out).mono ?_); rintro e w5 ⟨v5, rfl, ho, hx⟩; have HO5 := Lib.hid ho; have HX5 := Lib.hid hx; clear ho hx)
        go_roundw
        case rel => exact ⟨k + 1, _, hlt, by go_num, HO5.out, HRES.out, HX5.out⟩
        case measure => simp [intOf]; omega
    · obtain rfl : k = n := by omega
      have hI : decide ((k : Int) < (k : Int)) = false := decide_eq_false (by omega)
      have hfin : uo = topsG PP.p us := by rw [hfold.out, List.take_of_length_le (by rw [← HN.out]; exact Nat.le_refl _)]; rfl
      have hsub : ∀ x ∈ uo, x ∈ us := fun x hx => by
        rw [hfin] at hx
        exact (topsG_sub PP.p us us).subset hx
      have hmp : uo.map PP.p = topsF (us.map PP.p) := by rw [hfin, topsF_map]
      have hall : uo.map PP.p = topsF (us.map PP.p) ∧ (∀ x ∈ uo, x ∈ us) ∧ OwnQ wr w.heap.size u3 uo ∧ RowQ b wr u3 uo ∧ Ext w wr := ⟨hmp, hsub, hown.out, ⟨hown.out.low hb, fun x hm => (HR.out.ps x (hsub x hm)).ext hx.out, fun x hm => HR.out.ok x (hsub x hm)⟩, hx.out⟩
      have HALL := Lib.hid hall
      clear hall hmp hsub hfin
      go_wp2_with fail
      exact bodyPost_ret (v := u3) (by simp [results, Tryz.results28, go_sem]) rfl ⟨u3, uo, rfl, HALL.out⟩
end Go.Proofs.YtlhbpflcffjhmaaGreat

namespace Go.Proofs.YtlhbpflcffjhmaaGreat
open Go.RowKit Go.Sort Go.MapKept

theorem maxF_take {us : List PP} {k : Nat} (hk : k < us.length) : (((us.take (k + 1)).map PP.p).filter mayP).map normP = (((us.take k).map PP.p).filter mayP).map normP ++ (if mayP us[k].p then [normP us[k].p] else []) := by
  rw [List.take_succ_eq_append_getElem hk, List.map_append, List.filter_append, List.map_append]
  congr 1
  show List.map normP (List.filter mayP [us[k].p]) = _
  cases h : mayP us[k].p <;> simp [h]
set_option maxRecDepth 100000 in
set_option maxHeartbeats 8000000 in
theorem maximal_any (w : World) (v : Value) (us : List PP) (h : PredsR w v us) (hk : ∀ x ∈ us, ∀ c ∈ x.p, okC c) (hl : us.length ≤ 10000) :
    Calls Tryz.prog 7 #[v] w fun e w' => ∃ v' us', e = .returned v' ∧ us'.map PP.p = maxF (us.map PP.p) ∧ RowQ w.heap.size w' v' us' ∧ Ext w w' := by
  obtain ⟨va, vc, rfl, hvc, hvm⟩ := Row.shape h.row
  obtain ⟨n, hn⟩ : ∃ n, n = us.length := ⟨_, rfl⟩
  rw [← hn] at hvc ⊢
  have HN := Lib.hid hn
  have HR := Lib.hid h
  have HK := Lib.hid hk
  rw [← hn] at hl HR
  unfold maxLen at hvm
  clear h hk hn
  go_enter Tryz.func7, Tryz.ntmps7
  go_wp2_with fail
  go_loopw [3, 10] (fun vo i wr => ∃ (k : Nat) (uk : List PP), k ≤ n ∧ i = .int .i64 k ∧ Hid (RowQ w.heap.size wr vo uk) ∧ Hid (uk.map PP.p = (((us.take k).map PP.p).filter mayP).map normP) ∧ Hid (uk.length ≤ k) ∧ Hid (Ext w wr)) (fun _ i _ => n - (intOf i).toNat)
  case atStart => exact ⟨0, [], Nat.zero_le _, rfl, RowQ.nil _ _, rfl, Nat.le_refl _, Ext.refl w⟩
  case round =>
    obtain ⟨k, uk, hk, rfl, hrow, hmap, hlen, hx⟩ := hrel
    by_cases hlt : k < n
    · have hI : decide ((k : Int) < (n : Int)) = true := decide_eq_true (by omega)
      have hkl : k < us.length := by rw [← HN.out]; exact hlt
      obtain ⟨B, o, rfl, c0⟩ := PredsR.at (HR.out.ext hx.out) hkl
      have hmem : us[k] ∈ us := List.getElem_mem hkl
      have hp := (HR.out.hs _ hmem).ext hx.out
      have hok := okC_norm (HK.out _ hmem)
      have hmap2 := maxF_take hkl
      have HM2 := Lib.hid hmap2
      clear hmap2
      generalize us[k] = y at *
      obtain ⟨ya, yc, hyh, _, _⟩ := hp.shape
      obtain ⟨yn, hyn⟩ : ∃ yn, yn = y.p.length := ⟨_, rfl⟩
      rw [← hyn] at hyh
      rw [hyh] at c0
      obtain ⟨m, hm⟩ : ∃ m, m = mayP y.p := ⟨_, rfl⟩
      rw [← hm] at HM2
      cases m
      · have hcall := fun W (hW : Ext wr W) => normal_no W y.h y.p (hp.ext hW) hm.symm
        rw [hyh] at hcall
        have HC := Lib.hid hcall
        have hmm : uk.map PP.p = (((us.take (k + 1)).map PP.p).filter mayP).map normP := by rw [hmap.out, HM2.out]; simp
        have HMM := Lib.hid hmm
        clear hcall hp hok hyh hyn hmem hm hmm
        go_upto_region 6 with (go_at_call 27; (with_reducible refine (HC.out _ (Ext.refl _)).mono ?_); rintro e w5 ⟨rfl, hx5⟩; have HX5 := Lib.hid hx5; clear hx5)
        go_wp2_with fail
        go_roundw
        case rel => exact ⟨k + 1, uk, hlt, by go_num, hrow.out.ext HX5.out, HMM.out, Nat.le_succ_of_le hlen.out, hx.out.trans HX5.out⟩
        case measure => simp [intOf]; omega
      · have hcall := fun W (hW : Ext wr W) => normal_T W y.h y.p (hp.ext hW) hm.symm
        rw [hyh] at hcall
        have HC := Lib.hid hcall
        have HOK := Lib.hid hok
        clear hcall hp hok hyh hyn hmem hm
        go_upto_region 6 with (go_at_call 27; (with_reducible refine (HC.out _ (Ext.refl _)).mono ?_); rintro e w5 ⟨na, nn, nc, rfl, hT, hx5⟩; have HT := Lib.hid hT; have HX5 := Lib.hid hx5; clear hT hx5)
        go_wp2_with (at_builtin; refine wpList_append_row 22 25 (.tmp 21) (.tmp 23) rfl w.heap.size _ 1 24 Tryz.underlying22 infoQ rfl (by decide) rfl _ uk.length (uk.flatMap ppC) rfl ((hrow.out.ext HX5.out).ext ((Ext.refl _).alloc _)).own 1 [.slice na nn nc] (lit_Q _ _) (by intro u hu; rw [List.mem_singleton.1 hu]; rfl) (by have := hlen.out; omega) (by have := hlen.out; unfold maxLen; omega) (by rw [World.size_alloc]; have := (hx.out.trans HX5.out).size; omega) ?_; intro v' w6 hown hgrow; have HO := Lib.hid hown; have HG := Lib.hid hgrow; clear hown hgrow)
        have hW : Ext w (w5.alloc (.cells #[.slice na nn nc] 25)) := (hx.out.trans HX5.out).alloc _
        have hr5 : RowQ w.heap.size (w5.alloc (.cells #[.slice na nn nc] 25)) u3 uk := (hrow.out.ext HX5.out).ext ((Ext.refl _).alloc _)
        have hfin : RowQ w.heap.size w6 v' (uk ++ [⟨.slice na nn nc, normP y.p⟩]) := pushQ hr5 ((HT.out.low hx.out.size).ext ((Ext.refl _).alloc _)) HOK.out HO.out HG.out
        have HF := Lib.hid hfin
        have hext : Ext w w6 := hW.grown_none HG.out (own_base hr5.own)
        have HE := Lib.hid hext
        have hmm : (uk ++ [(⟨.slice na nn nc, normP y.p⟩ : PP)]).map PP.p = (((us.take (k + 1)).map PP.p).filter mayP).map normP := by rw [List.map_append, hmap.out, HM2.out]; rfl
        have HMM := Lib.hid hmm
        clear hW hr5 hfin hext hmm c0
        go_roundw
        case rel => exact ⟨k + 1, _, hlt, by go_num, HF.out, HMM.out, by have := hlen.out; show (uk ++ [_]).length ≤ _; rw [List.length_append]; exact Nat.succ_le_succ this, HE.out⟩
        case measure => simp [intOf]; omega
    · obtain rfl : k = n := by omega
      have hI : decide ((k : Int) < (k : Int)) = false := decide_eq_false (by omega)
      have hfin : uk.map PP.p = ((us.map PP.p).filter mayP).map normP := by rw [hmap.out, List.take_of_length_le (by rw [← HN.out]; exact Nat.le_refl _)]
      have honce := onceQ_any wr w.heap.size u3 uk hrow.out hx.out.size (by have := hlen.out; omega)
      rw [hfin] at honce
      have htop : ∀ W v2 u2, u2.map PP.p = onceF (((us.map PP.p).filter mayP).map normP) → (∀ x ∈ u2, x ∈ uk) → RowQ w.heap.size W v2 u2 → u2.length ≤ 100000 → Ext w W → Calls Tryz.prog 28 #[v2] W fun e w' => ∃ v' us', e = .returned v' ∧ us'.map PP.p = maxF (us.map PP.p) ∧ RowQ w.heap.size w' v' us' ∧ Ext w w' := fun W v2 u2 h1 h2 h3 h4 hW => by
        refine (topsT_any W w.heap.size v2 u2 h3 hW.size h4).mono ?_
        rintro e w' ⟨v', us', rfl, p1, _, _, p4, p5⟩
        exact ⟨v', us', rfl, by rw [p1, h1]; rfl, p4, hW.trans p5⟩
      have hol : ∀ u2 : List PP, u2.map PP.p = onceF (((us.map PP.p).filter mayP).map normP) → u2.length ≤ 100000 := fun u2 h1 => by
        have e1 : u2.length = (onceF (uk.map PP.p)).length := by rw [hfin, ← h1, List.length_map]
        have e2 : (onceF (uk.map PP.p)).length ≤ (uk.map PP.p).length := sortU_len _
        rw [List.length_map] at e2
        have := hlen.out
        omega
      have HON := Lib.hid honce
      have HTO := Lib.hid htop
      have HOL := Lib.hid hol
      clear hfin honce htop hol
      go_wp2_with (first
        | (go_at_call 29; (with_reducible refine HON.out.mono ?_); rintro e w7 ⟨v7, u7, rfl, h1, h2, h3, h4, h5⟩; have H1 := Lib.hid h1; have H2 := Lib.hid h2; have H4 := Lib.hid h4; have H5 := Lib.hid h5; clear h1 h2 h3 h4 h5)
        | (go_at_call 28; (refine (HTO.out _ _ _ H1.out H2.out H4.out (HOL.out _ H1.out) (hx.out.trans H5.out)).mono ?_); rintro e w8 ⟨v8, u8, rfl, hR⟩; have HRR := Lib.hid hR; clear hR))
      exact bodyPost_ret (v := v8) (by simp [results, Tryz.results7, go_sem]) rfl ⟨v8, u8, rfl, HRR.out⟩
end Go.Proofs.YtlhbpflcffjhmaaGreat

namespace Go.Proofs.YtlhbpflcffjhmaaGreat
open Go.RowKit Go.MapKept

theorem setCell_farD (w : World) (a : Addr) (v : Value) (k : Nat) (h : k ≠ a.block) : (w.setCell a v).heap[k]? = w.heap[k]? := by
  show (w.heap.modify a.block _)[k]? = w.heap[k]?
  rw [Array.getElem?_modify, if_neg (fun e => h e.symm)]
/-- The blocks of F may turn. -/
structure Turns (F : List Nat) (w w' : World) : Prop where
  os : w'.os = w.os
  tape : w'.tape = w.tape
  output : w'.output = w.output
  size : w.heap.size ≤ w'.heap.size
  block : ∀ k, k < w.heap.size → k ∉ F → w'.heap[k]? = w.heap[k]?
theorem Turns.refl (F : List Nat) (w : World) : Turns F w w := ⟨rfl, rfl, rfl, Nat.le_refl _, fun _ _ _ => rfl⟩
theorem Turns.of_ext {F : List Nat} {w w' : World} (h : Ext w w') : Turns F w w' := ⟨h.os, h.tape, h.output, h.size, fun k hk _ => h.block k hk⟩
theorem Turns.trans {F G : List Nat} {x y z : World} (h : Turns F x y) (k : Turns G y z) (hF : ∀ i ∈ G, i ∈ F ∨ x.heap.size ≤ i) : Turns F x z :=
  ⟨k.os.trans h.os, k.tape.trans h.tape, k.output.trans h.output, Nat.le_trans h.size k.size, fun i hi hn =>
    (k.block i (Nat.lt_of_lt_of_le hi h.size) fun hg => (hF i hg).elim hn fun h1 => Nat.not_lt.2 h1 hi).trans (h.block i hi hn)⟩
theorem Turns.wide {F G : List Nat} {w w' : World} (h : Turns F w w') (hF : ∀ i ∈ F, i ∈ G) : Turns G w w' := ⟨h.os, h.tape, h.output, h.size, fun k hk hn => h.block k hk fun hf => hn (hF k hf)⟩
theorem Turns.ext {F : List Nat} {a w w' : World} (h : Turns F w w') (hx : Ext a w) (hF : ∀ i ∈ F, a.heap.size ≤ i) : Ext a w' :=
  ⟨h.os.trans hx.os, h.tape.trans hx.tape, h.output.trans hx.output, Nat.le_trans hx.size h.size, fun k hk => (h.block k (Nat.lt_of_lt_of_le hk hx.size) fun hf => by have := hF k hf; omega).trans (hx.block k hk)⟩
theorem Turns.ext0 {w w' : World} (h : Turns [] w w') : Ext w w' := h.ext (Ext.refl w) (fun _ h => by cases h)
theorem Turns.at {F : List Nat} {w w' : World} (h : Turns F w w') {k : Nat} {o : Obj} (hk : w.heap[k]? = some o) (hn : k ∉ F) : w'.heap[k]? = some o := (h.block k (Array.getElem?_eq_some_iff.1 hk).1 hn).trans hk
theorem Turns.own {F : List Nat} {w w' : World} (h : Turns F w w') {base size n : Nat} {e : TypeId} {v : Value} {xs : List Value} (k : w.ownsRow base e size v n xs) (hn : ∀ q, v.ownBlock = some q → q ∉ F) : w'.ownsRow base e size v n xs := by
  obtain ⟨h1, h2⟩ := k
  refine ⟨h1, ?_⟩
  rcases h2 with h2 | ⟨g, cap, cur, rfl, hb, hg, rest⟩
  · exact .inl h2
  · exact .inr ⟨g, cap, cur, rfl, hb, h.at hg (hn g rfl), rest⟩
theorem ownD_lt {w : World} {base size n : Nat} {e : TypeId} {v : Value} {xs : List Value} (h : w.ownsRow base e size v n xs) : ∀ q, v.ownBlock = some q → q < w.heap.size := fun q hq => (h.lt q hq).2
/-- What a call does to a disk's blocks. -/
structure Moves (F F' : List Nat) (w w' : World) : Prop where
  turns : Turns F w w'
  blocks : ∀ k ∈ F', k ∈ F ∨ w.heap.size ≤ k
theorem Moves.trans {F G H : List Nat} {x y z : World} (h : Moves F G x y) (k : Moves G H y z) : Moves F H x z :=
  ⟨h.turns.trans k.turns h.blocks, fun i hi => by
    rcases k.blocks i hi with h1 | h1
    · exact h.blocks i h1
    · exact .inr (Nat.le_trans h.turns.size h1)⟩
theorem Moves.of_ext {F : List Nat} {w w' : World} (h : Ext w w') : Moves F F w w' := ⟨Turns.of_ext h, fun _ hk => .inl hk⟩
theorem Moves.above {F F' : List Nat} {a w w' : World} (h : Moves F F' w w') (hx : a.heap.size ≤ w.heap.size) (hF : ∀ i ∈ F, a.heap.size ≤ i) : ∀ i ∈ F', a.heap.size ≤ i := fun i hi => by
  rcases h.blocks i hi with h1 | h1
  · exact hF i h1
  · omega

theorem MapE.turnD {w w' : World} {F : List Nat} {b : Nat} {d : TypeDesc} {E : List (Value × Value)} (h : MapE w b d E) (ht : Turns F w w') (hb : b ∉ F) : MapE w' b d E := by
  obtain ⟨es, clock, h1, h2⟩ := h
  exact ⟨es, clock, ht.at h1 hb, h2⟩
end Go.Proofs.YtlhbpflcffjhmaaGreat

namespace Go.Proofs.YtlhbpflcffjhmaaGreat
open Go.RowKit Go.Sort Go.MapKept

def tbl (t : TypeId) : Prop := t = 82 ∨ t = 85
/-- Blocks of tables and of links. -/
def TbB (w : World) (F : List Nat) : Prop := ∀ k ∈ F, ∃ cs t fr, w.heap[k]? = some (.cells cs t fr) ∧ tbl t
theorem own_tbl {w : World} {base size n : Nat} {e : TypeId} {v : Value} {xs : List Value} {F : List Nat} (h : w.ownsRow base e size v n xs) (hF : TbB w F) (he : ¬ tbl e) : ∀ q, v.ownBlock = some q → q ∉ F := fun q hq hm => by
  obtain ⟨cs, t, fr, hh, ht⟩ := hF q hm
  exact own_ne h hh (fun e => he (e ▸ ht)) hq
theorem PredT.turnF {b : Nat} {w w' : World} {h : Value} {p : List C} {F : List Nat} (k : PredT b w h p) (hF : TbB w F) (ht : Turns F w w') : PredT b w' h p := by
  obtain ⟨us, e, h1, h2⟩ := k
  exact ⟨us, e, ht.own h1 (own_tbl h1 hF (by unfold tbl; decide)), fun x hm => ht.own (h2 x hm) (own_tbl (h2 x hm) hF (by unfold tbl; decide))⟩
theorem RowQ.turnF {b : Nat} {w w' : World} {v : Value} {us : List PP} {F : List Nat} (h : RowQ b w v us) (hF : TbB w F) (ht : Turns F w w') : RowQ b w' v us :=
  ⟨ht.own h.own (own_tbl h.own hF (by unfold tbl; decide)), fun x hx => (h.ps x hx).turnF hF ht, h.ok⟩
def psP (us : List PP) : List (List C) := us.map PP.p
theorem psP_len (us : List PP) : (psP us).length = us.length := List.length_map _
structure LkG where
  n : Int
  p : Nat
  vc : Value
  va : Value
  vs : Value
  c : List PP
  a : List PP
  s : List PP
def LkG.ls (g : LkG) : LkS := ⟨g.n, psP g.c, psP g.a, psP g.s⟩
def eLk (g : LkG) : Value × Value := (.int .i64 g.n, .pointer (some ⟨g.p, 0, none⟩))
structure LinkR (b : Nat) (w : World) (g : LkG) : Prop where
  box : w.heap[g.p]? = some (.cells #[g.vc, g.va, g.vs] 85 (0, 0))
  c : RowQ b w g.vc g.c
  a : RowQ b w g.va g.a
  s : RowQ b w g.vs g.s
  lo : b ≤ g.p
theorem LinkR.ext {b : Nat} {w w' : World} {g : LkG} (h : LinkR b w g) (hx : Ext w w') : LinkR b w' g := ⟨block_later h.box hx, h.c.ext hx, h.a.ext hx, h.s.ext hx, h.lo⟩
structure SubR (b : Nat) (w : World) (bt bm : Nat) (gs : List LkG) (vo : Value) (o : List PP) : Prop where
  box : w.heap[bt]? = some (.cells #[.map (some bm), vo] 82 (0, 0))
  mp : MapE w bm (.int .i64) (gs.map eLk)
  links : ∀ g ∈ gs, LinkR b w g
  ptrs : (gs.map LkG.p).Nodup
  own : RowQ b w vo o
  lo : b ≤ bt ∧ b ≤ bm
  wf : ∀ g ∈ gs, (Lit.int .i64 g.n).wf = true
section
variable {b bt bm : Nat} {w w' : World} {gs : List LkG} {vo : Value} {o : List PP}
theorem SubR.ext (h : SubR b w bt bm gs vo o) (hx : Ext w w') : SubR b w' bt bm gs vo o :=
  ⟨block_later h.box hx, h.mp.ext hx, fun g hg => (h.links g hg).ext hx, h.ptrs, h.own.ext hx, h.lo, h.wf⟩
theorem SubR.names (h : SubR b w bt bm gs vo o) : (gs.map LkG.n).Nodup := by
  have h1 := h.mp.keys.2
  rw [List.map_map] at h1
  have e : gs.map ((fun x : Value × Value => x.1) ∘ eLk) = (gs.map LkG.n).map (fun n => Value.int .i64 n) := by rw [List.map_map]; rfl
  rw [e] at h1
  exact List.Pairwise.of_map _ (fun a b hne e => hne (by rw [e])) h1
theorem nodup_inj {α β : Type} {f : α → β} : ∀ {l : List α}, (l.map f).Nodup → ∀ {x y : α}, x ∈ l → y ∈ l → f x = f y → x = y
  | [], _, _, _, hx, _, _ => by cases hx
  | z :: l, h, x, y, hx, hy, e => by
    have h1 := List.nodup_cons.1 h
    rcases List.mem_cons.1 hx with e1 | hx2
    · rcases List.mem_cons.1 hy with e2 | hy2
      · rw [e1, e2]
      · exact absurd (List.mem_map.2 ⟨y, hy2, by rw [← e, e1]⟩) h1.1
    · rcases List.mem_cons.1 hy with e2 | hy2
      · exact absurd (List.mem_map.2 ⟨x, hx2, by rw [e, e2]⟩) h1.1
      · exact nodup_inj h1.2 hx2 hy2 e
def lkG (gs : List LkG) (n : Int) : Option LkG := gs.find? fun g => decide (g.n = n)
theorem lkG_some {n : Int} {g : LkG} (h : lkG gs n = some g) : g ∈ gs ∧ g.n = n := ⟨List.mem_of_find?_eq_some h, by have := List.find?_some h; simpa using this⟩
theorem lkG_none {n : Int} (h : lkG gs n = none) : ∀ g ∈ gs, g.n ≠ n := fun x hx e => by have := List.find?_eq_none.1 h x hx; simp [e] at this
theorem lkG_of (h : SubR b w bt bm gs vo o) {g : LkG} (hg : g ∈ gs) : lkG gs g.n = some g := by
  cases hf : lkG gs g.n with
  | none => exact absurd rfl (lkG_none hf g hg)
  | some x => exact congrArg some (nodup_inj h.names (lkG_some hf).1 hg (lkG_some hf).2)
theorem lkF_G (gs : List LkG) (o : List (List C)) (n : Int) : lkF ⟨gs.map LkG.ls, o⟩ n = (lkG gs n).map LkG.ls := by
  unfold lkF lkG
  rw [List.find?_map]
  rfl
def ptrL (gs : List LkG) (n : Int) : Value := match lkG gs n with | none => .pointer none | some g => .pointer (some ⟨g.p, 0, none⟩)
theorem SubR.look (h : SubR b w bt bm gs vo o) (n : Int) (hx : Ext w w') : (Instr.lookup 80 (.map (some bm)) (.int .i64 n) false).run Tryz.prog w' = .ok (ptrL gs n) w' := by
  rcases (h.mp.ext hx).look (P := Tryz.prog) Tryz.underlying80 Tryz.underlying3 (z := .pointer none) (by kernel_rfl) (key := .int .i64 n) rfl with ⟨h1, h2, _⟩ | ⟨j, v, h1, h2, _⟩
  · rw [h2]
    unfold ptrL
    have : lkG gs n = none := List.find?_eq_none.2 fun g hg => by
      have := h1 _ (List.mem_map.2 ⟨g, hg, rfl⟩)
      simpa [eLk] using this
    rw [this]
  · rw [List.getElem?_map] at h1
    cases hg : gs[j]? with
    | none => rw [hg] at h1; cases h1
    | some g =>
      rw [hg] at h1
      simp only [Option.map_some, eLk, Option.some.injEq, Prod.mk.injEq, Value.int.injEq, true_and] at h1
      obtain ⟨rfl, rfl⟩ := h1
      rw [h2]
      unfold ptrL
      rw [lkG_of h (List.mem_of_getElem? hg)]
def footS (bt : Nat) (gs : List LkG) : List Nat := bt :: gs.map LkG.p
theorem SubR.tbb (h : SubR b w bt bm gs vo o) : TbB w (footS bt gs) := fun k hk => by
  rcases List.mem_cons.1 hk with rfl | hk
  · exact ⟨_, _, _, h.box, .inl rfl⟩
  · obtain ⟨g, hg, rfl⟩ := List.mem_map.1 hk
    exact ⟨_, _, _, (h.links g hg).box, .inr rfl⟩
theorem TbB.sub {F G : List Nat} (h : TbB w F) (hs : ∀ k ∈ G, k ∈ F) : TbB w G := fun k hk => h k (hs k hk)
theorem map_tbb {F : List Nat} {d : TypeDesc} {E : List (Value × Value)} (hm : MapE w bm d E) (hF : TbB w F) : bm ∉ F := fun hk => by
  obtain ⟨cs, t, fr, hh, _⟩ := hF bm hk
  obtain ⟨es, cl, h1, _⟩ := hm
  rw [h1] at hh; cases hh
/-- Other tables' blocks turn. -/
theorem SubR.turn (h : SubR b w bt bm gs vo o) {F : List Nat} (hF : TbB w F) (ht : Turns F w w') (hn : ∀ k ∈ footS bt gs, k ∉ F) : SubR b w' bt bm gs vo o :=
  ⟨ht.at h.box (hn bt (by simp [footS])), h.mp.turnD ht (map_tbb h.mp hF), fun g hg => ⟨ht.at (h.links g hg).box (hn g.p (by simp only [footS, List.mem_cons, List.mem_map]; exact .inr ⟨g, hg, rfl⟩)), (h.links g hg).c.turnF hF ht, (h.links g hg).a.turnF hF ht, (h.links g hg).s.turnF hF ht, (h.links g hg).lo⟩, h.ptrs, h.own.turnF hF ht, h.lo, h.wf⟩
theorem SubR.bt_ne (h : SubR b w bt bm gs vo o) {g : LkG} (hg : g ∈ gs) : bt ≠ g.p := fun e => by
  have h1 := h.box
  rw [e, (h.links g hg).box] at h1
  simp only [Option.some.injEq, Obj.cells.injEq] at h1
  exact absurd h1.2.1 (by decide)
/-- A link's box is set anew. -/
theorem SubR.set (h : SubR b w bt bm gs vo o) {g g' : LkG} (hg : g ∈ gs) (hn : g'.n = g.n) (hp : g'.p = g.p) (hbox : w'.heap[g.p]? = some (.cells #[g'.vc, g'.va, g'.vs] 85 (0, 0)))
    (hc : RowQ b w g'.vc g'.c) (ha : RowQ b w g'.va g'.a) (hs : RowQ b w g'.vs g'.s) (ht : Turns [g.p] w w') : SubR b w' bt bm (gs.map fun x => if x.n = g.n then g' else x) vo o := by
  have hF : TbB w [g.p] := h.tbb.sub fun k hk => by rw [List.mem_singleton.1 hk]; simp only [footS, List.mem_cons, List.mem_map]; exact .inr ⟨g, hg, rfl⟩
  have hone : ∀ x ∈ gs, x.n = g.n → x = g := fun x hx e => nodup_inj h.names hx hg e
  have e1 : (gs.map fun x => if x.n = g.n then g' else x).map eLk = gs.map eLk := by
    rw [List.map_map]
    refine List.map_congr_left fun x hx => ?_
    simp only [Function.comp]
    split
    · rename_i e
      rw [hone x hx e]
      unfold eLk
      rw [hn, hp]
    · rfl
  have e2 : (gs.map fun x => if x.n = g.n then g' else x).map LkG.p = gs.map LkG.p := by
    rw [List.map_map]
    refine List.map_congr_left fun x hx => ?_
    simp only [Function.comp]
    split
    · rename_i e
      rw [hone x hx e, hp]
    · rfl
  refine ⟨ht.at h.box (by rw [List.mem_singleton]; exact h.bt_ne hg), by rw [e1]; exact h.mp.turnD ht (map_tbb h.mp hF), fun y hy => ?_, by rw [e2]; exact h.ptrs, h.own.turnF hF ht, h.lo, fun y hy => ?_⟩
  · obtain ⟨x, hx, rfl⟩ := List.mem_map.1 hy
    split
    · exact ⟨by rw [hp]; exact hbox, hc.turnF hF ht, ha.turnF hF ht, hs.turnF hF ht, by rw [hp]; exact (h.links g hg).lo⟩
    · rename_i hne
      have hl := h.links x hx
      have hpp : x.p ≠ g.p := fun e => hne (by rw [nodup_inj h.ptrs hx hg e])
      exact ⟨ht.at hl.box (by rw [List.mem_singleton]; exact hpp), hl.c.turnF hF ht, hl.a.turnF hF ht, hl.s.turnF hF ht, hl.lo⟩
  · obtain ⟨x, hx, rfl⟩ := List.mem_map.1 hy
    split
    · rw [hn]; exact h.wf g hg
    · exact h.wf x hx
theorem SubR.setOwn (h : SubR b w bt bm gs vo o) {v' : Value} {o' : List PP} (hbox : w'.heap[bt]? = some (.cells #[.map (some bm), v'] 82 (0, 0))) (ho : RowQ b w v' o') (ht : Turns [bt] w w') : SubR b w' bt bm gs v' o' := by
  have hF : TbB w [bt] := h.tbb.sub fun k hk => by rw [List.mem_singleton.1 hk]; simp [footS]
  exact ⟨hbox, h.mp.turnD ht (map_tbb h.mp hF), fun g hg => ⟨ht.at (h.links g hg).box (by rw [List.mem_singleton]; exact fun e => h.bt_ne hg e.symm), (h.links g hg).c.turnF hF ht, (h.links g hg).a.turnF hF ht, (h.links g hg).s.turnF hF ht, (h.links g hg).lo⟩, h.ptrs, ho.turnF hF ht, h.lo, h.wf⟩
end
theorem turns_set (w : World) (k j : Nat) (v : Value) : Turns [k] w (w.setCell ⟨k, j, none⟩ v) :=
  ⟨rfl, rfl, rfl, by show _ ≤ (w.heap.modify _ _).size; rw [Array.size_modify]; exact Nat.le_refl _, fun i _ hi => setCell_farD w _ v i (by rw [List.mem_singleton] at hi; exact hi)⟩
theorem setCell_rowS {w : World} {p i : Nat} {c : Array Value} {t : TypeId} {fr : Nat × Nat} (h : w.heap[p]? = some (.cells c t fr)) (v : Value) : (w.setCell ⟨p, i, none⟩ v).heap[p]? = some (.cells (c.setIfInBounds i v) t fr) := by
  show (w.heap.modify p _)[p]? = _
  rw [Array.getElem?_modify, if_pos rfl, h]
  rfl
/-- A table that says S lies in the blocks F. -/
def Sb (b : Nat) (w : World) (bt : Nat) (F : List Nat) (S : TbS) : Prop := ∃ bm gs vo o, SubR b w bt bm gs vo o ∧ S = ⟨gs.map LkG.ls, psP o⟩ ∧ F = footS bt gs
theorem Sb.ext {b bt : Nat} {w w' : World} {F : List Nat} {S : TbS} (h : Sb b w bt F S) (hx : Ext w w') : Sb b w' bt F S := by
  obtain ⟨bm, gs, vo, o, h1, h2, h3⟩ := h
  exact ⟨bm, gs, vo, o, h1.ext hx, h2, h3⟩
theorem Sb.tbb {b bt : Nat} {w : World} {F : List Nat} {S : TbS} (h : Sb b w bt F S) : TbB w F := by
  obtain ⟨bm, gs, vo, o, h1, h2, rfl⟩ := h
  exact h1.tbb
theorem Sb.turn {b bt : Nat} {w w' : World} {F G : List Nat} {S : TbS} (h : Sb b w bt F S) (hG : TbB w G) (ht : Turns G w w') (hn : ∀ k ∈ F, k ∉ G) : Sb b w' bt F S := by
  obtain ⟨bm, gs, vo, o, h1, h2, rfl⟩ := h
  exact ⟨bm, gs, vo, o, h1.turn hG ht hn, h2, rfl⟩
theorem Sb.lt {b bt : Nat} {w : World} {F : List Nat} {S : TbS} (h : Sb b w bt F S) : ∀ k ∈ F, k < w.heap.size := fun k hk => by
  obtain ⟨cs, t, fr, hh, _⟩ := h.tbb k hk
  exact (Array.getElem?_eq_some_iff.1 hh).1
theorem Sb.lo {b bt : Nat} {w : World} {F : List Nat} {S : TbS} (h : Sb b w bt F S) : ∀ k ∈ F, b ≤ k := by
  obtain ⟨bm, gs, vo, o, h1, h2, rfl⟩ := h
  intro k hk
  rcases List.mem_cons.1 hk with rfl | hk
  · exact h1.lo.1
  · obtain ⟨g, hg, rfl⟩ := List.mem_map.1 hk
    exact (h1.links g hg).lo
structure SmallT (S : TbS) : Prop where
  own : S.own.length ≤ 1000
  came : ∀ x ∈ S.ls, x.came.length ≤ 1000
  ads : ∀ x ∈ S.ls, x.ads.length ≤ 1000
  sent : ∀ x ∈ S.ls, x.sent.length ≤ 71000
  ls : S.ls.length ≤ 70
end Go.Proofs.YtlhbpflcffjhmaaGreat

namespace Go.Proofs.YtlhbpflcffjhmaaGreat
open Go.RowKit Go.Sort Go.MapKept

set_option maxRecDepth 100000 in
theorem made_any (w : World) (b bt bm : Nat) (gs : List LkG) (vo : Value) (o : List PP) (h : SubR b w bt bm gs vo o) : Calls Tryz.prog 43 #[.pointer (some ⟨bt, 0, none⟩)] w fun e w' => e = .returned (.bool true) ∧ Ext w w' := by
  have hb := h.box
  have hq : ∀ (w : World) (m : Nat), (binOp .neq 80 (.map (some m)) (.map none)).run Tryz.prog w = .ok (.bool true) w := fun w m => run_neq_map_nil w 80 3 83 (some m) Tryz.underlying80
  obtain ⟨oa, oc, rfl, _, _⟩ := own_shape h.own.own
  have c0 := cell_of_row _ _ 0 _ _ _ hb
  clear h
  go_enter Tryz.func43, Tryz.ntmps43
  go_wp2_with fail
  exact bodyPost_ret (v := .bool true) (by simp [results, Tryz.results43, go_sem]) rfl ⟨rfl, Ext.refl _⟩
set_option maxRecDepth 100000 in
set_option maxHeartbeats 8000000 in
theorem ownT_any (w : World) (b bt : Nat) (F : List Nat) (S : TbS) (h : Sb b w bt F S) (ok : OkT S) (hl : S.own.length ≤ 50000) (hb : b ≤ w.heap.size) (v : Value) (p : List C) (hp : PredR w v p) (kp : ∀ c ∈ p, okC c) :
    Calls Tryz.prog 14 #[.pointer (some ⟨bt, 0, none⟩), v] w fun e w' => e = .returned (.int .i64 (ownTE p)) ∧ Sb b w' bt F (ownTS S p) ∧ Turns F w w' := by
  obtain ⟨bm, gs, vo, o, hS, rfl, rfl⟩ := h
  have hmd := made_any w b bt bm gs vo o hS
  obtain ⟨a, c, rfl, _, _⟩ := hp.shape
  have HMD := Lib.hid hmd
  have HS := Lib.hid hS
  obtain ⟨m, hm⟩ : ∃ m, m = mayP p := ⟨_, rfl⟩
  unfold ownTE ownTS
  rw [← hm]
  cases m
  · have hcall := fun W (hW : Ext w W) => normal_no W _ p (hp.ext hW) hm.symm
    have HC := Lib.hid hcall
    clear hcall hmd hS hp kp ok hl hm
    go_enter Tryz.func14, Tryz.ntmps14
    go_wp2_with (first
      | (go_at_call 43; (with_reducible refine HMD.out.mono ?_); rintro e w1 ⟨rfl, hx⟩; have HX1 := Lib.hid hx; clear hx)
      | (go_at_call 27; (with_reducible refine (HC.out _ HX1.out).mono ?_); rintro e w2 ⟨rfl, hx⟩; have HX2 := Lib.hid (HX1.out.trans hx); clear hx))
    exact bodyPost_ret (v := .int .i64 30) (by simp [results, Tryz.results14, go_sem]) rfl ⟨rfl, ⟨bm, gs, vo, o, HS.out.ext HX2.out, rfl, rfl⟩, Turns.of_ext HX2.out⟩
  · have hcall := fun W (hW : Ext w W) => normal_T W _ p (hp.ext hW) hm.symm
    have hlaid : ∀ W a n c, Ext w W → PredT b W (.slice a n c) (normP p) → Calls Tryz.prog 44 #[vo, .slice a n c] W fun e w' => ∃ v' us', e = .returned v' ∧ us'.map PP.p = laidF (psP o) (normP p) ∧ RowQ b w' v' us' ∧ Ext w w' := fun W a n c hW hT => by
      refine (laidT_any W b vo _ o (normP p) (hS.own.ext hW) hT (okC_norm kp) ?_ ok.own.2 (Nat.le_trans hb hW.size)).mono ?_
      · have : (psP o).length ≤ 50000 := hl
        rw [psP_len] at this; omega
      · rintro e w' ⟨v', us', rfl, h1, h2, h3⟩
        exact ⟨v', us', rfl, h1, h2, hW.trans h3⟩
    obtain ⟨oa, oc, rfl, _, _⟩ := own_shape hS.own.own
    have hbox := fun W (hW : Ext w W) => block_later hS.box hW
    have HC := Lib.hid hcall
    have HL := Lib.hid hlaid
    have HB := Lib.hid hbox
    have HBB := Lib.hid hb
    clear hcall hlaid hbox hmd hS hp kp ok hl hb hm
    go_enter Tryz.func14, Tryz.ntmps14
    go_upto_region 5 with (first
      | (go_at_call 43; (with_reducible refine HMD.out.mono ?_); rintro e w1 ⟨rfl, hx⟩; have HX1 := Lib.hid hx; clear hx)
      | (go_at_call 27; (with_reducible refine (HC.out _ HX1.out).mono ?_); rintro e w2 ⟨na, nn, nc, rfl, hT, hx⟩; have HX2 := Lib.hid (HX1.out.trans hx); have HT := Lib.hid (hT.low (Nat.le_trans HBB.out HX1.out.size)); clear hT hx))
    have hb2 := HB.out _ HX2.out
    have c2 := cell_of_row _ _ 1 _ _ _ hb2
    go_wp2_with (go_at_call 44; (with_reducible refine (HL.out _ _ _ _ HX2.out HT.out).mono ?_); rintro e w3 ⟨v3, us3, rfl, h1, h2, h3⟩; have HM3 := Lib.hid h1; have HR3 := Lib.hid h2; have HX3 := Lib.hid h3; have hb3 := HB.out _ h3; have f3 := frozen_of_row _ _ 1 _ _ hb3; have d3 := cell_of_row _ _ 1 _ _ _ hb3; obtain ⟨ra, rc, rfl, _, _⟩ := own_shape h2.own; clear h1 h2 h3 hb2)
    have hS3 := HS.out.ext HX3.out
    have ht := turns_set w3 bt 1 (.slice ra us3.length rc)
    have hfin := hS3.setOwn (setCell_rowS hb3 _) HR3.out ht
    refine bodyPost_ret (v := .int .i64 0) (by simp [results, Tryz.results14, go_sem]) rfl ⟨rfl, ⟨bm, gs, _, us3, hfin, ?_, rfl⟩, (Turns.of_ext HX3.out).trans ht fun k hk => .inl (by rw [List.mem_singleton.1 hk]; simp [footS])⟩
    show TbS.mk _ _ = TbS.mk _ _
    rw [← HM3.out]
    rfl
end Go.Proofs.YtlhbpflcffjhmaaGreat

namespace Go.Proofs.YtlhbpflcffjhmaaGreat
open Go.RowKit Go.Sort Go.MapKept

theorem ptrL_none {gs : List LkG} {n : Int} (h : lkG gs n = none) : ptrL gs n = .pointer none := by unfold ptrL; rw [h]
theorem ptrL_some {gs : List LkG} {n : Int} {g : LkG} (h : lkG gs n = some g) : ptrL gs n = .pointer (some ⟨g.p, 0, none⟩) := by unfold ptrL; rw [h]
set_option maxRecDepth 100000 in
set_option maxHeartbeats 4000000 in
theorem atT_none (w : World) (b bt bm : Nat) (gs : List LkG) (vo : Value) (o : List PP) (h : SubR b w bt bm gs vo o) (n : Int) (hn : lkG gs n = none) (va : Option Addr) (vn vc : Nat) :
    Calls Tryz.prog 48 #[.pointer (some ⟨bt, 0, none⟩), .int .i64 n, .slice va vn vc] w fun e w' => e = .returned (.tuple #[.pointer none, .slice none 0 0, .int .i64 6]) ∧ Ext w w' := by
  have hmd := made_any w b bt bm gs vo o h
  have hlk := fun W (hW : Ext w W) => h.look n hW
  rw [ptrL_none hn] at hlk
  have hc := fun W (hW : Ext w W) => cell_of_row _ _ 0 _ _ _ (block_later h.box hW)
  have HM := Lib.hid hmd
  have HL := Lib.hid hlk
  have HC := Lib.hid hc
  clear hmd hlk hc h hn
  go_enter Tryz.func48, Tryz.ntmps48
  go_wp2_with (go_at_call 43; (with_reducible refine HM.out.mono ?_); rintro e w1 ⟨rfl, hx⟩; have HX := Lib.hid hx; have k1 := HL.out _ hx; have c1 := HC.out _ hx; clear hx)
  exact bodyPost_ret (v := .tuple #[.pointer none, .slice none 0 0, .int .i64 6]) (by simp [results, Tryz.results48, go_sem]) rfl ⟨rfl, HX.out⟩
set_option maxRecDepth 100000 in
set_option maxHeartbeats 4000000 in
theorem atT_bad (w : World) (b bt bm : Nat) (gs : List LkG) (vo : Value) (o : List PP) (h : SubR b w bt bm gs vo o) (n : Int) (g : LkG) (hg : lkG gs n = some g) (v : Value) (p : List C) (hp : PredR w v p) (hm : mayP p = false) :
    Calls Tryz.prog 48 #[.pointer (some ⟨bt, 0, none⟩), .int .i64 n, v] w fun e w' => e = .returned (.tuple #[.pointer (some ⟨g.p, 0, none⟩), .slice none 0 0, .int .i64 30]) ∧ Ext w w' := by
  have hmd := made_any w b bt bm gs vo o h
  have hlk := fun W (hW : Ext w W) => h.look n hW
  rw [ptrL_some hg] at hlk
  have hc := fun W (hW : Ext w W) => cell_of_row _ _ 0 _ _ _ (block_later h.box hW)
  have hcall := fun W (hW : Ext w W) => normal_no W v p (hp.ext hW) hm
  obtain ⟨a, c, rfl, _, _⟩ := hp.shape
  obtain ⟨gp, hgp⟩ : ∃ gp, gp = g.p := ⟨_, rfl⟩
  rw [← hgp] at hlk ⊢
  have HM := Lib.hid hmd
  have HL := Lib.hid hlk
  have HC := Lib.hid hc
  have HN := Lib.hid hcall
  clear hmd hlk hc h hg hcall hp hm hgp
  go_enter Tryz.func48, Tryz.ntmps48
  go_wp2_with (first
    | (go_at_call 43; (with_reducible refine HM.out.mono ?_); rintro e w1 ⟨rfl, hx⟩; have HX := Lib.hid hx; have k1 := HL.out _ hx; have c1 := HC.out _ hx; clear hx)
    | (go_at_call 27; (with_reducible refine (HN.out _ HX.out).mono ?_); rintro e w2 ⟨rfl, hx⟩; have HX2 := Lib.hid (HX.out.trans hx); clear hx))
  exact bodyPost_ret (v := .tuple #[.pointer (some ⟨gp, 0, none⟩), .slice none 0 0, .int .i64 30]) (by simp [results, Tryz.results48, go_sem]) rfl ⟨rfl, HX2.out⟩
set_option maxRecDepth 100000 in
set_option maxHeartbeats 4000000 in
theorem atT_ok (w : World) (b bt bm : Nat) (gs : List LkG) (vo : Value) (o : List PP) (h : SubR b w bt bm gs vo o) (n : Int) (g : LkG) (hg : lkG gs n = some g) (v : Value) (p : List C) (hp : PredR w v p) (hm : mayP p = true) :
    Calls Tryz.prog 48 #[.pointer (some ⟨bt, 0, none⟩), .int .i64 n, v] w fun e w' => ∃ na nn nc, e = .returned (.tuple #[.pointer (some ⟨g.p, 0, none⟩), .slice na nn nc, .int .i64 0]) ∧ PredT w.heap.size w' (.slice na nn nc) (normP p) ∧ Ext w w' := by
  have hmd := made_any w b bt bm gs vo o h
  have hlk := fun W (hW : Ext w W) => h.look n hW
  rw [ptrL_some hg] at hlk
  have hc := fun W (hW : Ext w W) => cell_of_row _ _ 0 _ _ _ (block_later h.box hW)
  have hcall := fun W (hW : Ext w W) => normal_T W v p (hp.ext hW) hm
  obtain ⟨a, c, rfl, _, _⟩ := hp.shape
  obtain ⟨gp, hgp⟩ : ∃ gp, gp = g.p := ⟨_, rfl⟩
  rw [← hgp] at hlk ⊢
  have HM := Lib.hid hmd
  have HL := Lib.hid hlk
  have HC := Lib.hid hc
  have HN := Lib.hid hcall
  clear hmd hlk hc h hg hcall hp hm hgp
  go_enter Tryz.func48, Tryz.ntmps48
  go_wp2_with (first
    | (go_at_call 43; (with_reducible refine HM.out.mono ?_); rintro e w1 ⟨rfl, hx⟩; have HX := Lib.hid hx; have k1 := HL.out _ hx; have c1 := HC.out _ hx; clear hx)
    | (go_at_call 27; (with_reducible refine (HN.out _ HX.out).mono ?_); rintro e w2 ⟨na, nn, nc, rfl, hT, hx⟩; have HX2 := Lib.hid (HX.out.trans hx); have HT := Lib.hid (hT.low HX.out.size); clear hx hT))
  exact bodyPost_ret (v := .tuple #[.pointer (some ⟨gp, 0, none⟩), .slice na nn nc, .int .i64 0]) (by simp [results, Tryz.results48, go_sem]) rfl ⟨na, nn, nc, rfl, HT.out, HX2.out⟩
set_option maxRecDepth 100000 in
set_option maxHeartbeats 8000000 in
theorem disownT_any (w : World) (b bt : Nat) (F : List Nat) (S : TbS) (h : Sb b w bt F S) (ok : OkT S) (hl : S.own.length ≤ 50000) (hb : b ≤ w.heap.size) (v : Value) (p : List C) (hp : PredR w v p) :
    Calls Tryz.prog 15 #[.pointer (some ⟨bt, 0, none⟩), v] w fun e w' => e = .returned (.int .i64 (disTE S p)) ∧ Sb b w' bt F (disTS S p) ∧ Turns F w w' := by
  obtain ⟨bm, gs, vo, o, hS, rfl, rfl⟩ := h
  have hmd := made_any w b bt bm gs vo o hS
  obtain ⟨a, c, rfl, _, _⟩ := hp.shape
  have HMD := Lib.hid hmd
  have HS := Lib.hid hS
  obtain ⟨m, hm⟩ : ∃ m, m = mayP p := ⟨_, rfl⟩
  unfold disTE disTS
  rw [← hm]
  cases m
  · have hcall := fun W (hW : Ext w W) => normal_no W _ p (hp.ext hW) hm.symm
    have HC := Lib.hid hcall
    clear hcall hmd hS hp ok hl hm
    go_enter Tryz.func15, Tryz.ntmps15
    go_wp2_with (first
      | (go_at_call 43; (with_reducible refine HMD.out.mono ?_); rintro e w1 ⟨rfl, hx⟩; have HX1 := Lib.hid hx; clear hx)
      | (go_at_call 27; (with_reducible refine (HC.out _ HX1.out).mono ?_); rintro e w2 ⟨rfl, hx⟩; have HX2 := Lib.hid (HX1.out.trans hx); clear hx))
    exact bodyPost_ret (v := .int .i64 30) (by simp [results, Tryz.results15, go_sem]) rfl ⟨rfl, ⟨bm, gs, vo, o, HS.out.ext HX2.out, rfl, rfl⟩, Turns.of_ext HX2.out⟩
  · have hol : o.length ≤ 50000 := by have : (psP o).length ≤ 50000 := hl; rwa [psP_len] at this
    have hcall := fun W (hW : Ext w W) => normal_T W _ p (hp.ext hW) hm.symm
    have hhas : ∀ W a n c, Ext w W → PredT b W (.slice a n c) (normP p) → Calls Tryz.prog 45 #[vo, .slice a n c] W fun e w' => e = .returned (.tuple #[.int .i64 (kF (psP o) (normP p) : Nat), .bool (hasF (psP o) (normP p))]) ∧ Ext W w' := fun W a n c hW hT =>
      hasT_any W b vo _ o (normP p) (hS.own.ext hW) hT (by omega) ok.own.2
    have hcl := fun W (hW : Ext w W) => cloneQ_any W vo o (hS.own.ext hW).preds (by omega)
    obtain ⟨oa, oc, rfl, _, _⟩ := own_shape hS.own.own
    have hbox := fun W (hW : Ext w W) => block_later hS.box hW
    have HC := Lib.hid hcall
    have HH := Lib.hid hhas
    have HB := Lib.hid hbox
    have HBB := Lib.hid hb
    have HCL := Lib.hid hcl
    have HOL := Lib.hid hol
    clear hcall hhas hbox hcl hmd hS hp ok hl hb hm hol
    obtain ⟨k, hk⟩ : ∃ k, k = kF (psP o) (normP p) := ⟨_, rfl⟩
    obtain ⟨is, his⟩ : ∃ is, is = hasF (psP o) (normP p) := ⟨_, rfl⟩
    rw [← hk] at HH
    rw [← his] at HH ⊢
    have HK := Lib.hid hk
    have HIS := Lib.hid his
    clear hk his
    cases is
    · go_enter Tryz.func15, Tryz.ntmps15
      go_upto_region 6 with (first
        | (go_at_call 43; (with_reducible refine HMD.out.mono ?_); rintro e w1 ⟨rfl, hx⟩; have HX1 := Lib.hid hx; clear hx)
        | (go_at_call 27; (with_reducible refine (HC.out _ HX1.out).mono ?_); rintro e w2 ⟨na, nn, nc, rfl, hT, hx⟩; have HX2 := Lib.hid (HX1.out.trans hx); have HT := Lib.hid (hT.low (Nat.le_trans HBB.out HX1.out.size)); clear hT hx))
      have hb2 := HB.out _ HX2.out
      have c2 := cell_of_row _ _ 1 _ _ _ hb2
      go_wp2_with (go_at_call 45; (with_reducible refine (HH.out _ _ _ _ HX2.out HT.out).mono ?_); rintro e w3 ⟨rfl, h3⟩; have HX3 := Lib.hid (HX2.out.trans h3); clear h3)
      exact bodyPost_ret (v := .int .i64 6) (by simp [results, Tryz.results15, go_sem]) rfl ⟨rfl, ⟨bm, gs, _, o, HS.out.ext HX3.out, rfl, rfl⟩, Turns.of_ext HX3.out⟩
    · obtain ⟨hkl, _⟩ := has_at HIS.out.symm
      rw [← HK.out, psP_len] at hkl
      have hcut : ∀ W vc, OwnQ W b vc o → (∀ x ∈ o, PredT b W x.h x.p) → Calls Tryz.prog 46 #[vc, .int .i64 k, .int .i64 ((k : Int) + 1)] W fun e w' => ∃ v', e = .returned v' ∧ OwnQ w' b v' (o.take k ++ o.drop (k + 1)) ∧ W.grownBy w' vc.ownBlock := fun W vc ho hps => cutQ_any W b vc o ho (fun x hx => pred_one (hps x hx).pred) k hkl
      have hdl : ∀ W vc, OwnQ W w.heap.size vc o → Ext w W → Calls Tryz.prog 46 #[vc, .int .i64 k, .int .i64 ((k : Int) + 1)] W fun e w' => ∃ ra rn rc, e = .returned (.slice ra rn rc) ∧ OwnQ w' b (.slice ra rn rc) (o.take k ++ o.drop (k + 1)) ∧ Ext w w' := fun W vc ho hW => by
        refine (hcut W vc (ho.low HBB.out) fun x hx => (HS.out.own.ps x hx).ext hW).mono ?_
        rintro e w' ⟨v', rfl, p1, p2⟩
        obtain ⟨ra, rc, rfl, _, _⟩ := own_shape p1
        exact ⟨_, _, _, rfl, p1, hW.grown_none p2 (own_base ho)⟩
      have HDL := Lib.hid hdl
      have hkn : k ≤ 50000 := by have := HOL.out; omega
      clear hcut hkl hdl
      go_enter Tryz.func15, Tryz.ntmps15
      go_upto_region 6 with (first
        | (go_at_call 43; (with_reducible refine HMD.out.mono ?_); rintro e w1 ⟨rfl, hx⟩; have HX1 := Lib.hid hx; clear hx)
        | (go_at_call 27; (with_reducible refine (HC.out _ HX1.out).mono ?_); rintro e w2 ⟨na, nn, nc, rfl, hT, hx⟩; have HX2 := Lib.hid (HX1.out.trans hx); have HT := Lib.hid (hT.low (Nat.le_trans HBB.out HX1.out.size)); clear hT hx))
      have hb2 := HB.out _ HX2.out
      have c2 := cell_of_row _ _ 1 _ _ _ hb2
      go_upto_region 9 with (go_at_call 45; (with_reducible refine (HH.out _ _ _ _ HX2.out HT.out).mono ?_); rintro e w3 ⟨rfl, h3⟩; have HX3 := Lib.hid (HX2.out.trans h3); clear h3)
      clear c2 hb2
      have hb3 := HB.out _ HX3.out
      have c3 := cell_of_row _ _ 1 _ _ _ hb3
      go_wp2_with (first
        | (go_at_call 47; (with_reducible refine (HCL.out _ HX3.out).mono ?_); rintro e w4 ⟨v4, rfl, ho, hx, _⟩; have HO4 := Lib.hid (ho.low HX3.out.size); have HX4 := Lib.hid (HX3.out.trans hx); clear ho hx)
        | (go_at_call 46; (with_reducible refine (HDL.out _ _ HO4.out HX4.out).mono ?_); rintro e w5 ⟨ra, rn, rc, rfl, ho, hx⟩; have HO5 := Lib.hid ho; have HX5 := Lib.hid hx; have hb5 := HB.out _ hx; have f5 := frozen_of_row _ _ 1 _ _ hb5; have d5 := cell_of_row _ _ 1 _ _ _ hb5; clear ho hx))
      have hS5 := HS.out.ext HX5.out
      have ht := turns_set w5 bt 1 (.slice ra rn rc)
      have hsub : ∀ x ∈ o.take k ++ o.drop (k + 1), x ∈ o := fun x hx => (List.mem_append.1 hx).elim List.mem_of_mem_take List.mem_of_mem_drop
      have hfin := hS5.setOwn (setCell_rowS hb5 _) ⟨HO5.out, fun x hx => hS5.own.ps x (hsub x hx), fun x hx => hS5.own.ok x (hsub x hx)⟩ ht
      refine bodyPost_ret (v := .int .i64 0) (by simp [results, Tryz.results15, go_sem]) rfl ⟨rfl, ⟨bm, gs, _, _, hfin, ?_, rfl⟩, (Turns.of_ext HX5.out).trans ht fun k hk => .inl (by rw [List.mem_singleton.1 hk]; simp [footS])⟩
      show TbS.mk _ _ = TbS.mk _ _
      congr 1
      show cutF (psP o) (normP p) = psP (o.take k ++ o.drop (k + 1))
      unfold cutF psP
      have hk' : kF (o.map PP.p) (normP p) = k := HK.out.symm
      rw [hk', List.map_append, List.map_take, List.map_drop]
end Go.Proofs.YtlhbpflcffjhmaaGreat
