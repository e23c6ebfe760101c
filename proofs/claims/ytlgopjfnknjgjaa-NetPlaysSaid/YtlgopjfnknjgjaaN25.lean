/- The document's Deliver (30), Double (31), Send (29) by what packets say. -/
import Derived.Test.YtlgopjfnknjgjaaN22
import Derived.Test.YtlgopjfnknjgjaaL1
namespace Go.Proofs.Ytlgopjfnknjgjaa
open Go.RowKit Go.MapKept

theorem RefR.at {w : World} {base rb k last n : Nat} {a : Option Addr} {c : Nat} {R : List PK} (h : RefR w base rb k last (.slice a n c) R) {i : Nat} (hi : i < R.length) :
    ∃ B o, a = some ⟨B, o, none⟩ ∧ w.cell? ⟨B, o + i * 4, none⟩ = some (.int .u64 R[i].id) ∧ w.cell? ⟨B, o + i * 4 + 1, none⟩ = some (.int .i64 R[i].fr) ∧ w.cell? ⟨B, o + i * 4 + 2, none⟩ = some (.int .i64 R[i].dst) ∧ w.cell? ⟨B, o + i * 4 + 3, none⟩ = some R[i].h := by
  obtain ⟨a', c', e, _, _⟩ := own_shape h.row
  cases e
  have hr := Row.of_own h.row
  obtain ⟨B, o, rfl⟩ := Row.base hr (by omega) (by decide)
  have g := fun j hj => flat_get pC 4 pC_len R i hi j hj
  exact ⟨B, o, rfl, Row.cellAt hr (g 0 (by decide)) (by omega), Row.cellAt hr (g 1 (by decide)) (by omega), Row.cellAt hr (g 2 (by decide)) (by omega), Row.cellAt hr (g 3 (by decide)) (by omega)⟩
theorem pCut {ops : Array Oper} {Q : Exit → Act → World → Prop} {a : Act} {w : World} {rest : List Oper} {o : Oper}
    (x : Operand) (lo hi : Option Operand) (us : List PK) (n i j : Nat)
    (ho : o.op = .slice 80 x lo hi none)
    (hw : Region.wanted o (yielded ops a.tmps) = true) (hx : Row w 4 (a.eval x) n (us.flatMap pC))
    (hlo : BoundIs a lo 0 i) (hhi : BoundIs a hi n j) (hij : i ≤ j) (hj : j ≤ n)
    (h : ∀ v, Row w 4 v (j - i) (((us.take j).drop i).flatMap pC) → wpList Try.prog ops Q rest (a.put o.dst v) w) : wpList Try.prog ops Q (o :: rest) a w := by
  refine wpList_cut 80 75 x lo hi 4 n i j _ ho Try.underlying80 (by kernel_rfl) hw hx hlo hhi hij hj fun v hv => h v ?_
  rw [flat_take pC 4 pC_len, flat_drop pC 4 pC_len] at hv
  exact hv
theorem pCs_one {w : World} {base : Nat} {L : List PK} (h : ∀ x ∈ L, OwnB w base x.h x.b) : ∀ u ∈ L.flatMap pC, u.oneCell' = true := by
  intro u hu
  obtain ⟨x, hx, hu⟩ := List.mem_flatMap.1 hu
  obtain ⟨a, c, e⟩ := OwnB.slice (h x hx)
  simp only [pC, e, List.mem_cons, List.not_mem_nil, or_false] at hu
  rcases hu with rfl | rfl | rfl | rfl <;> rfl
theorem own_zero75 {w : World} {b n : Nat} {v : Value} {xs : List Value} (h : w.ownsRow b 75 4 v (0 + n) ([] ++ xs)) : w.ownsRow b 75 4 v n xs := by
  rw [Nat.zero_add, List.nil_append] at h; exact h

theorem set4 (w : World) (b : Nat) (a0 a1 a2 a3 v0 v1 v2 v3 : Value) (t : TypeId) (h : w.heap[b]? = some (.cells #[a0, a1, a2, a3] t (0, 0))) :
    ((((w.setCell ⟨b, 0, none⟩ v0).setCell ⟨b, 1, none⟩ v1).setCell ⟨b, 2, none⟩ v2).setCell ⟨b, 3, none⟩ v3).heap[b]? = some (.cells #[v0, v1, v2, v3] t (0, 0)) ∧ w.grownBy ((((w.setCell ⟨b, 0, none⟩ v0).setCell ⟨b, 1, none⟩ v1).setCell ⟨b, 2, none⟩ v2).setCell ⟨b, 3, none⟩ v3) (some b) := by
  refine ⟨set_blk _ b 3 v3 _ _ _ (set_blk _ b 2 v2 _ _ _ (set_blk _ b 1 v1 _ _ _ (set_blk _ b 0 v0 _ _ _ h))), ?_, ?_, ?_, ?_, fun k _ hk => ?_⟩
  · simp [World.setCell]
  · simp [World.setCell]
  · simp [World.setCell]
  · simp [World.setCell]
  · have hk' : k ≠ b := fun e => hk (by rw [e])
    rw [set_far _ _ _ _ hk', set_far _ _ _ _ hk', set_far _ _ _ _ hk', set_far _ _ _ _ hk']

theorem rsdR (w : World) (base rb k last : Nat) (lv : Value) (R : List PK) (h : RefR w base rb k last lv R) (K : List KP) (hK : R.map kK = K) (p q : Int) (vb : Value) (lb : List UInt8) (hbk : ∀ w', RefF rb lv w w' → Bytes w' vb lb) (hf : R.length < 4096) (hlast : last < 1000000000) :
    Calls Try.prog 29 #[.pointer (some ⟨rb, 0, none⟩), .int .i64 p, .int .i64 q, vb] w fun e w' => e = .returned (.tuple #[.int .u64 (aE (sE k p q lb.length) last : Nat), .int .i64 (sE k p q lb.length : Nat)]) ∧ (∃ lv' R', R'.map kK = moreK K (sE k p q lb.length) last p.toNat q.toNat lb ∧ NewL w.heap.size R R' ∧ RefR w' base rb k (lE (sE k p q lb.length) last) lv' R') ∧ RefF rb lv w w' := by
  subst hK
  obtain ⟨ab, cb, rfl, _, _⟩ := (hbk w (RefF.of (Ext.refl w))).shape
  cases hc : (decide (0 ≤ p) && decide (p < k) && (decide (0 ≤ q) && decide (q < k)) && !decide (p = q)) with
  | false =>
    rw [sE_arg hc]
    refine (rsend_arg w base rb k last lv R h p q _ hc).mono ?_
    rintro e w' ⟨rfl, hx⟩
    exact ⟨rfl, ⟨lv, R, rfl, NewL.sub (List.Sublist.refl _), h.ext hx⟩, RefF.of hx⟩
  | true =>
    obtain ⟨e1, p', q', rfl, rfl, hp, hq, hne⟩ := sE_in (len := lb.length) hc
    rw [e1]
    rcases Nat.lt_or_ge 4096 lb.length with hl | hl
    · rw [if_pos hl]
      refine (rsend_long w base rb k last lv R h p' q' ab _ cb ⟨hp, hq⟩ hne hl).mono ?_
      rintro e w' ⟨rfl, hx⟩
      exact ⟨rfl, ⟨lv, R, rfl, NewL.sub (List.Sublist.refl _), h.ext hx⟩, RefF.of hx⟩
    · rw [if_neg (Nat.not_lt.2 hl)]
      refine (rsend_out w base rb k last lv R h p' q' ab _ cb ⟨hp, hq⟩ hne hl (last + 1) 0 (fun w' => (∃ lv' hv, RefR w' base rb k (last + 1) lv' (R ++ [⟨last + 1, p', q', lb, hv⟩]) ∧ NewB w.heap.size hv) ∧ RefF rb lv w w') (rout_any w base rb k last lv R h p' q' _ lb hbk hl hf hlast)).mono ?_
      rintro e w' ⟨rfl, ⟨lv', hv, hn, hw⟩, h2⟩
      refine ⟨rfl, ⟨lv', _, ?_, NewL.more hw, by exact hn⟩, h2⟩
      rw [List.map_append]; rfl

set_option maxRecDepth 100000 in
set_option maxHeartbeats 4000000 in
theorem rdl_no (w : World) (base rb k last : Nat) (lv : Value) (R : List PK) (h : RefR w base rb k last lv R) (id : Nat) (hno : ∀ x ∈ R, x.id ≠ id) : Calls Try.prog 30 #[.pointer (some ⟨rb, 0, none⟩), .int .u64 id] w fun e w' => e = .returned (.tuple #[.agg #[.int .u64 0, .int .i64 0, .int .i64 0, .slice none 0 0], .int .i64 6]) ∧ Ext w w' := by
  obtain ⟨aL, cL, rfl, _, hm⟩ := own_shape h.row
  unfold maxLen at hm
  obtain ⟨hxa, hb1⟩ := boxes1 w (.cells #[.int .u64 0, .int .i64 0, .int .i64 0, .slice none 0 0] 75)
  have f1 := frozen_row hb1 0
  have f2 := frozen_row hb1 1
  have f3 := frozen_row hb1 2
  have f4 := frozen_row hb1 3
  have H1 := Lib.hid (h.ext hxa)
  obtain ⟨c0, c1, c2⟩ := H1.out.cell
  have HX := Lib.hid hxa
  have HNO := Lib.hid hno
  clear h c0 c1 hxa hno
  generalize hN : R.length = N at *
  have HN := Lib.hid hN
  clear hN
  go_enter Try.func30, Try.ntmps30
  go_wp2_with fail
  go_loop [6] (fun i => ∃ j : Nat, j ≤ N ∧ i = .int .i64 j) (fun i => N - (intOf i).toNat)
  case atStart => exact ⟨0, Nat.zero_le _, rfl⟩
  case round =>
    obtain ⟨j, hj, rfl⟩ := hrel
    by_cases hjl : j < N
    · have hJ : decide ((j : Int) < (N : Int)) = true := decide_eq_true (by omega)
      have hjN : (j : Int) < (N : Int) := by omega
      have hjr : j < R.length := by rw [HN.out]; exact hjl
      obtain ⟨B, o, rfl, k0, k1, k2, k3⟩ := H1.out.at hjr
      have hne : R[j].id ≠ id := HNO.out _ (List.getElem_mem hjr)
      generalize R[j].id = idj at *
      clear k1 k2 k3
      have e1 : ((idj : Int) == (id : Int)) = false := beq_eq_false_iff_ne.2 (by omega)
      have e2 : (idj == id) = false := beq_eq_false_iff_ne.2 hne
      have e3 : decide ((idj : Int) = (id : Int)) = false := decide_eq_false (by omega)
      have e4 : decide (idj = id) = false := decide_eq_false hne
      clear hne
      go_wp2_with fail
      go_round
      case rel => exact ⟨j + 1, hjl, by go_num⟩
      case measure => simp [intOf]; omega
    · obtain rfl : j = N := by omega
      have hJ : decide ((j : Int) < (j : Int)) = false := decide_eq_false (by omega)
      go_wp2_with fail
      exact bodyPost_ret (v := .tuple #[.agg #[.int .u64 0, .int .i64 0, .int .i64 0, .slice none 0 0], .int .i64 6]) (by simp [results, Try.results30, go_sem]) rfl ⟨rfl, HX.out⟩
set_option maxRecDepth 100000 in
set_option maxHeartbeats 8000000 in
theorem rdl_yes (w : World) (base rb k last : Nat) (lv : Value) (R1 R2 : List PK) (x : PK) (h : RefR w base rb k last lv (R1 ++ x :: R2)) (hfr : ∀ y ∈ R1, y.id ≠ x.id) (hlen : (R1 ++ x :: R2).length ≤ 4096) :
    Calls Try.prog 30 #[.pointer (some ⟨rb, 0, none⟩), .int .u64 x.id] w fun e w' => e = .returned (.tuple #[.agg #[.int .u64 x.id, .int .i64 x.fr, .int .i64 x.dst, x.h], .int .i64 0]) ∧ (∃ lv', RefR w' base rb k last lv' (R1 ++ R2)) ∧ RefF rb lv w w' ∧ OwnB w' base x.h x.b := by
  obtain ⟨aL, cL, rfl, _, hm⟩ := own_shape h.row
  unfold maxLen at hm
  have hxm : x ∈ R1 ++ x :: R2 := by simp
  obtain ⟨ax, cx, hh⟩ := OwnB.slice (h.own x hxm)
  obtain ⟨hxa, hbb⟩ := boxes1 w (.cells #[.int .u64 0, .int .i64 0, .int .i64 0, .slice none 0 0] 75)
  have H1 := Lib.hid (h.ext hxa)
  have HX := Lib.hid hxa
  have HB1 := Lib.hid hbb
  have HFR := Lib.hid hfr
  have HH := Lib.hid hh
  have HONE1 : Hid (∀ u ∈ R1.flatMap pC, u.oneCell' = true) := pCs_one fun y hy => h.own y (by simp [hy])
  have HONE2 : Hid (∀ u ∈ R2.flatMap pC, u.oneCell' = true) := pCs_one fun y hy => h.own y (by simp [hy])
  obtain ⟨c0, c1, c2⟩ := H1.out.cell
  rw [hh]
  generalize hnx : x.b.length = nx at *
  have hNm : (R1 ++ x :: R2).length = R1.length + (R2.length + 1) := by rw [List.length_append, List.length_cons]
  generalize hN : (R1 ++ x :: R2).length = N at *
  generalize hM : R1.length = m at *
  have HN := Lib.hid hN
  have HM := Lib.hid hM
  have HNX := Lib.hid hnx
  have hget : ∀ (hq : m < (R1 ++ x :: R2).length), (R1 ++ x :: R2)[m] = x := fun hq => by subst hM; simp
  have hget2 : ∀ j (hj : j < m) (hq : j < (R1 ++ x :: R2).length), (R1 ++ x :: R2)[j] ∈ R1 := fun j hj hq => by
    rw [List.getElem_append_left (by rw [HM.out]; exact hj)]; exact List.getElem_mem _
  have HGET := Lib.hid hget
  have HGET2 := Lib.hid hget2
  have HRB : Hid (rb < w.heap.size) := h.rblt
  have HBS : Hid (base ≤ w.heap.size) := Nat.le_trans h.lo (Nat.le_of_lt h.rblt)
  have HNM := Lib.hid hNm
  have hmN : m ≤ N := by omega
  have hmN2 : m < N := by omega
  have hb1 : (0 + m) * 48 ≤ 140737488355328 := by omega
  have hb2 : 0 + m ≤ maxLen := by unfold maxLen; omega
  have hb3 : (m + R2.length) * 48 ≤ 140737488355328 := by omega
  have hb4 : m + R2.length ≤ maxLen := by unfold maxLen; omega
  have hr2 : N - (m + 1) = R2.length := by omega
  have HR2 := Lib.hid hr2
  clear hNm hr2 h hh hnx hN hM hxm hfr hxa hbb c0 c1 hget hget2
  go_enter Try.func30, Try.ntmps30
  go_wp2_with fail
  generalize w.alloc (.cells #[.int .u64 0, .int .i64 0, .int .i64 0, .slice none 0 0] 75) = w1 at *
  go_loop [6] (fun i => ∃ j : Nat, j ≤ m ∧ i = .int .i64 j) (fun i => m - (intOf i).toNat)
  case atStart => exact ⟨0, Nat.zero_le _, rfl⟩
  case round =>
    obtain ⟨j, hj, rfl⟩ := hrel
    have hJ : decide ((j : Int) < (N : Int)) = true := decide_eq_true (by omega)
    have hjN : (j : Int) < (N : Int) := by omega
    have hjr : j < (R1 ++ x :: R2).length := by rw [HN.out]; omega
    obtain ⟨B, o, rfl, k0, k1, k2, k3⟩ := H1.out.at hjr
    by_cases hjl : j < m
    · have hne : (R1 ++ x :: R2)[j].id ≠ x.id := HFR.out _ (HGET2.out j hjl hjr)
      generalize (R1 ++ x :: R2)[j].id = idj at *
      clear k1 k2 k3
      have e1 : ((idj : Int) == (x.id : Int)) = false := beq_eq_false_iff_ne.2 (by omega)
      have e2 : (idj == x.id) = false := beq_eq_false_iff_ne.2 hne
      have e3 : decide ((idj : Int) = (x.id : Int)) = false := decide_eq_false (by omega)
      have e4 : decide (idj = x.id) = false := decide_eq_false hne
      clear hne
      go_wp2_with fail
      go_round
      case rel => exact ⟨j + 1, hjl, by go_num⟩
      case measure => simp [intOf]; omega
    · obtain rfl : j = m := by omega
      rw [HGET.out hjr] at k0 k1 k2 k3
      rw [HH.out] at k3
      go_upto_region 7 with fail
      obtain ⟨hxq, hbq⟩ := boxes1 w1 (.cells #[.int .u64 x.id, .int .i64 x.fr, .int .i64 x.dst, .slice ax nx cx] 75)
      have HQ := Lib.hid (H1.out.ext hxq)
      have HBQ := Lib.hid hbq
      have HBR := Lib.hid (block_later HB1.out hxq)
      have HXQ := Lib.hid (HX.out.trans hxq)
      have c2q := hxq.cell c2
      have HBQ1 : Hid (w.heap.size < w1.heap.size) := (Array.getElem?_eq_some_iff.1 HB1.out).1
      clear hxq hbq k0 k1 k2 k3 c2 HB1 HX H1
      generalize w1.alloc (.cells #[.int .u64 x.id, .int .i64 x.fr, .int .i64 x.dst, .slice ax nx cx] 75) = wq at *
      generalize w1.heap.size = bq at *
      have htk : ((R1 ++ x :: R2).take j).drop 0 = R1 := by rw [List.drop_zero, ← HM.out]; simp
      have hdr : ((R1 ++ x :: R2).take N).drop (j + 1) = R2 := by
        rw [← HN.out, List.take_length, ← HM.out]
        have : R1.length + 1 = (R1 ++ [x]).length := by simp
        rw [this, show R1 ++ x :: R2 = (R1 ++ [x]) ++ R2 by simp, List.drop_left]
      have hrow := Row.of_own HQ.out.row
      rw [HN.out] at hrow
      have HTK := Lib.hid htk
      have HDR := Lib.hid hdr
      have HROW := Lib.hid hrow
      clear htk hdr hrow
      go_upto_region 9 with (first
        | (refine pCut (.tmp 39) none (some (.tmp 40)) (R1 ++ x :: R2) N 0 j rfl rfl HROW.out rfl ⟨_, _, rfl, by omega, by omega⟩ (Nat.zero_le _) hmN ?_; intro v41 h41; rw [HTK.out, Nat.sub_zero] at h41; obtain ⟨al, cl, rfl, _, _⟩ := Row.shape h41; have H41 := Lib.hid h41; clear h41)
        | (at_builtin; (refine wpList_append_row 80 75 (.tmp 35) (.tmp 41) rfl wq.heap.size _ 4 48 Try.underlying80 info75t rfl (by decide) rfl (.slice none 0 0) 0 [] rfl (own_none _ _ _ _) j (R1.flatMap pC) H41.out HONE1.out hb1 hb2 (Nat.le_refl _) ?_); intro v42 w2 ho2 hg2; have HO2 := Lib.hid (own_zero75 ho2); obtain ⟨a2, c2', rfl, _, _⟩ := own_shape HO2.out; have hx2 : Ext wq w2 := (Ext.refl wq).grown_none (v := .slice none 0 0) hg2 (fun _ h => nomatch h); have c2e := hx2.cell c2q; have HX2 := Lib.hid hx2; clear ho2 hg2 hx2)
        | (refine pCut (.tmp 48) (some (.tmp 50)) none (R1 ++ x :: R2) N (j + 1) N rfl rfl (Row.ext HROW.out HX2.out) ⟨_, _, rfl, by omega, by omega⟩ rfl (by omega) (Nat.le_refl _) ?_; intro v51 h51; rw [HDR.out, HR2.out] at h51; obtain ⟨al2, cl2, rfl, _, _⟩ := Row.shape h51; have H51 := Lib.hid h51; clear h51)
        | (at_builtin; (refine wpList_append_row 80 75 (.tmp 44) (.tmp 51) rfl wq.heap.size _ 4 48 Try.underlying80 info75t rfl (by decide) rfl (.slice a2 j c2') j (R1.flatMap pC) rfl HO2.out R2.length (R2.flatMap pC) H51.out HONE2.out hb3 hb4 HX2.out.size ?_); intro v52 w3 ho3 hg3; obtain ⟨a3, c3, rfl, _, _⟩ := own_shape ho3; have hx3 : Ext wq w3 := HX2.out.grown_none hg3 (own_base HO2.out); have HO3 := Lib.hid ho3; have f2 := frozen_row (block_later HQ.out.net hx3) 2; have c2g := hx3.cell c2q; have HX3 := Lib.hid hx3; clear ho3 hg3 hx3))
      clear c2e c2g f2 c2q
      have hn3 : w3.heap[rb]? = _ := block_later HQ.out.net HX3.out
      have hg4 := grown_set w3 rb 2 (.slice a3 (j + R2.length) c3)
      have hn4 := set_blk w3 rb 2 (.slice a3 (j + R2.length) c3) _ _ _ hn3
      have hr4 := own_keep HO3.out hg4 fun g hg e => own_ne HO3.out hn3 (by decide) (hg.trans e.symm)
      have hrb1 := HRB.out
      have hrb2 := HBQ1.out
      have hbq4 := (set_far w3 ⟨rb, 2, none⟩ (.slice a3 (j + R2.length) c3) bq (by show bq ≠ rb; omega)).trans (block_later HBQ.out HX3.out)
      have hbr4 := (set_far w3 ⟨rb, 2, none⟩ (.slice a3 (j + R2.length) c3) w.heap.size (by show w.heap.size ≠ rb; omega)).trans (block_later HBR.out HX3.out)
      have hF : RefF rb (.slice (some ⟨B, o, none⟩) N cL) w (w3.setCell ⟨rb, 2, none⟩ (.slice a3 (j + R2.length) c3)) := (RefF.of (HXQ.out.trans HX3.out)).trans (RefF.grown hg4)
      have b0 := cell_of_row _ _ 0 _ _ _ hbq4
      have b1 := cell_of_row _ _ 1 _ _ _ hbq4
      have b2 := cell_of_row _ _ 2 _ _ _ hbq4
      have b3 := cell_of_row _ _ 3 _ _ _ hbq4
      have f0 := frozen_row hbr4 0
      have f1 := frozen_row hbr4 1
      have f2 := frozen_row hbr4 2
      have f3 := frozen_row hbr4 3
      have r0 := cell_of_row _ _ 0 _ _ _ hbr4
      have r1 := cell_of_row _ _ 1 _ _ _ hbr4
      have r2 := cell_of_row _ _ 2 _ _ _ hbr4
      have r3 := cell_of_row _ _ 3 _ _ _ hbr4
      have HN4 := Lib.hid hn4
      have HR4 := Lib.hid hr4
      have HF4 := Lib.hid hF
      have HBR4 := Lib.hid hbr4
      have HOWN4 : Hid (∀ y ∈ R1 ++ x :: R2, OwnB (w3.setCell ⟨rb, 2, none⟩ (.slice a3 (j + R2.length) c3)) base y.h y.b) := fun y hy => by
        have ho := own_ext (HQ.out.own y hy) HX3.out
        exact own_keep ho hg4 fun g hg e => own_ne ho hn3 (by decide) (hg.trans e.symm)
      clear hn3 hg4 hn4 hr4 hbq4 hbr4 hF hrb1 hrb2
      generalize w3.setCell ⟨rb, 2, none⟩ (.slice a3 (j + R2.length) c3) = w4 at *
      go_wp2_with fail
      obtain ⟨hs5, hg5⟩ := set4 w4 w.heap.size _ _ _ _ (.int .u64 x.id) (.int .i64 x.fr) (.int .i64 x.dst) (.slice ax nx cx) _ HBR4.out
      generalize (((w4.setCell ⟨w.heap.size, 0, none⟩ (.int .u64 x.id)).setCell ⟨w.heap.size, 1, none⟩ (.int .i64 x.fr)).setCell ⟨w.heap.size, 2, none⟩ (.int .i64 x.dst)).setCell ⟨w.heap.size, 3, none⟩ (.slice ax nx cx) = w5 at *
      have z0 := cell_of_row _ _ 0 _ _ _ hs5
      have z1 := cell_of_row _ _ 1 _ _ _ hs5
      have z2 := cell_of_row _ _ 2 _ _ _ hs5
      have z3 := cell_of_row _ _ 3 _ _ _ hs5
      clear b0 b1 b2 b3 f0 f1 f2 f3 r0 r1 r2 r3
      have hbrq : w.heap.size < wq.heap.size := (Array.getElem?_eq_some_iff.1 HBR.out).1
      have hown5 : ∀ y ∈ R1 ++ x :: R2, OwnB w5 base y.h y.b := fun y hy => own_keep (HOWN4.out y hy) hg5 fun g hg e => own_ne (HOWN4.out y hy) HBR4.out (by decide) (hg.trans e.symm)
      refine bodyPost_ret (v := .tuple #[.agg #[.int .u64 x.id, .int .i64 x.fr, .int .i64 x.dst, .slice ax nx cx], .int .i64 0]) (by simp [results, Try.results30, go_sem, z0, z1, z2, z3]) rfl ⟨rfl, ⟨.slice a3 (j + R2.length) c3, ?_, ?_, fun y hy => hown5 y ?_, HQ.out.lo⟩, ?_, ?_⟩
      · rw [hg5.block rb (Array.getElem?_eq_some_iff.1 HN4.out).1 (fun e => by have := HRB.out; cases e; omega)]; exact HN4.out
      · have e1 : (R1 ++ R2).length = j + R2.length := by rw [List.length_append, HM.out]
        rw [e1, List.flatMap_append]
        refine own_low (own_keep HR4.out hg5 fun g hg e => ?_) (Nat.le_trans HBS.out (Nat.le_of_lt hbrq))
        have h1 := own_base HR4.out g hg
        cases e
        omega
      · rcases List.mem_append.1 hy with hy | hy
        · exact List.mem_append_left _ hy
        · exact List.mem_append_right _ (List.mem_cons_of_mem _ hy)
      · have hF := HF4.out
        exact ⟨hg5.os.trans hF.os, hg5.tape.trans hF.tape, hg5.output.trans hF.output, Nat.le_trans hF.size hg5.size, fun k hk hn => (hg5.block k (Nat.lt_of_lt_of_le hk hF.size) (fun e => by cases e; omega)).trans (hF.block k hk hn)⟩
      · have h1 := hown5 x (by simp)
        rw [HH.out] at h1
        exact h1
end Go.Proofs.Ytlgopjfnknjgjaa
