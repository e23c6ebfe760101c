/- Disk: Crash. -/
import Derived.Test.YtdfnfmanpdafpaaDoorD18
namespace Go.Proofs.YtdfnfmanpdafpaaDoor
open Go.RowKit Go.MapKept

def cntL (l : List Fl) : Nat := (l.filter fun f => !decide (f.b.length = f.fast)).length
theorem crashL_append (p : List Nat) (t : List UInt8) : ∀ (a b : List Fl) (k : Nat), crashL p t k (a ++ b) = crashL p t k a ++ crashL p t (k + cntL a) b
  | [], b, k => by simp [crashL, cntL]
  | f :: a, b, k => by
    rw [List.cons_append, crashL, crashL]
    unfold cntL
    by_cases h : f.b.length = f.fast
    · rw [if_pos h, if_pos h, crashL_append p t a b k, List.filter_cons_of_neg (by simp [h])]
      rfl
    · rw [if_neg h, if_neg h, crashL_append p t a b (k + 1), List.filter_cons_of_pos (by simp [h]), List.length_cons, List.cons_append]
      unfold cntL
      rw [show k + 1 + (a.filter fun f => !decide (f.b.length = f.fast)).length = k + ((a.filter fun f => !decide (f.b.length = f.fast)).length + 1) by omega]
theorem crashL_keys (p : List Nat) (t : List UInt8) : ∀ (l : List Fl) (k : Nat), (crashL p t k l).map Fl.nm = l.map Fl.nm
  | [], _ => rfl
  | f :: l, k => by
    rw [crashL]
    split
    · rw [List.map_cons, List.map_cons, crashL_keys p t l k]
    · rw [List.map_cons, List.map_cons, crashL_keys p t l (k + 1)]; rfl
/-- The files behind the first i of them. -/
def crashI (p : List Nat) (t : List UInt8) (fs : List Fl) (i : Nat) : List Fl := crashL p t 0 (fs.take i) ++ fs.drop i
theorem crashI_keys (p : List Nat) (t : List UInt8) (fs : List Fl) (i : Nat) : (crashI p t fs i).map Fl.nm = fs.map Fl.nm := by
  unfold crashI
  rw [List.map_append, crashL_keys, ← List.map_append, List.take_append_drop]
theorem upK_keys {α β : Type} {k : α → List UInt8} {j : β → List UInt8} {l : List α} {m : List β} (h : UpK k l) (e : m.map j = l.map k) : UpK j m := by
  have := h.map
  rw [← e] at this
  exact List.pairwise_map.1 this
theorem crashI_at (p : List Nat) (t : List UInt8) (fs : List Fl) (i : Nat) (hi : i < fs.length) : crashI p t fs i = crashL p t 0 (fs.take i) ++ fs[i] :: fs.drop (i + 1) := by
  unfold crashI; rw [List.drop_eq_getElem_cons hi]
theorem cntL_succ (fs : List Fl) (i : Nat) (hi : i < fs.length) : cntL (fs.take (i + 1)) = cntL (fs.take i) + (if fs[i].b.length = fs[i].fast then 0 else 1) := by
  unfold cntL
  rw [List.take_succ_eq_append_getElem hi, List.filter_append, List.length_append]
  by_cases h : fs[i].b.length = fs[i].fast
  · rw [if_pos h, List.filter_cons_of_neg (by simp [h])]; rfl
  · rw [if_neg h, List.filter_cons_of_pos (by simp [h])]; rfl
theorem cntL_le (l : List Fl) : cntL l ≤ l.length := List.length_filter_le _ _
theorem crashI_succ (p : List Nat) (t : List UInt8) (fs : List Fl) (i : Nat) (hi : i < fs.length) :
    crashI p t fs (i + 1) = crashL p t 0 (fs.take i) ++ (if fs[i].b.length = fs[i].fast then fs[i] else crashF fs[i] p[cntL (fs.take i)]? t[cntL (fs.take i)]?) :: fs.drop (i + 1) := by
  unfold crashI
  rw [List.take_succ_eq_append_getElem hi, crashL_append, List.append_assoc]
  congr 1
  rw [crashL, Nat.zero_add]
  split <;> rfl
theorem nset_mid {α : Type} {k : α → List UInt8} {A B : List α} {f f' : α} (h : UpK k (A ++ f :: B)) (e : k f' = k f) : nset k (A ++ f :: B) f' = A ++ f' :: B := by
  have h1 := List.pairwise_append.1 h
  have h2 := List.pairwise_cons.1 h1.2.1
  unfold nset
  rw [List.map_append, List.map_cons, if_pos e.symm]
  congr 1
  · rw [List.map_congr_left (g := id) fun x hx => ?_, List.map_id]
    have := h1.2.2 x hx f (by simp)
    exact if_neg fun e2 => by rw [e2, e, wo_bytes.refl] at this; omega
  · congr 1
    rw [List.map_congr_left (g := id) fun x hx => ?_, List.map_id]
    have := h2.1 x hx
    exact if_neg fun e2 => by rw [e2, e, wo_bytes.refl] at this; omega
theorem own_setD {w : World} {base g n cap : Nat} {e : TypeId} {xs : List Value} (h : w.ownsRow base e 1 (.slice (some ⟨g, 0, none⟩) n cap) n xs) {j : Nat} (u : Value) :
    (w.setCell ⟨g, j, none⟩ u).ownsRow base e 1 (.slice (some ⟨g, 0, none⟩) n cap) n (xs.set j u) := by
  obtain ⟨h1, h2⟩ := h
  refine ⟨by rw [List.length_set]; exact h1, .inr ?_⟩
  rcases h2 with ⟨e, _⟩ | ⟨g', cap', cur, e, hb, hg, hn, hm, hs, ht⟩
  · cases e
  · cases e
    refine ⟨g, cap, cur.setIfInBounds j u, rfl, hb, setCell_row hg u, hn, hm, by rw [Array.size_setIfInBounds]; exact hs, ?_⟩
    rw [Array.toList_setIfInBounds, List.take_set, ht]
theorem tornB_no {b : List UInt8} {st : Nat} {t : Option UInt8} (h : ¬ (0 < st ∧ t.isSome = true)) : tornB b st t = b := by
  unfold tornB
  cases t with
  | none => rfl
  | some t => exact if_neg fun h0 => h ⟨h0, rfl⟩
theorem tornB_len {b : List UInt8} {st : Nat} {t : Option UInt8} (h : 0 < st → 0 < b.length) : (tornB b st t).length = b.length := by
  unfold tornB
  cases t with
  | none => rfl
  | some t =>
    show (if 0 < st then _ else _ : List UInt8).length = _
    split
    · rename_i h0
      have := h h0
      rw [List.length_append, List.length_take, List.length_singleton]; omega
    · rfl
theorem tornB_yes {b : List UInt8} {st : Nat} {t x : UInt8} (h0 : 0 < st) (hx : b[b.length - 1]? = some x) : tornB b st (some t) = b.set (b.length - 1) (x ^^^ t) := by
  have hb : b.length - 1 < b.length := (List.getElem?_eq_some_iff.1 hx).1
  unfold tornB
  show (if 0 < st then _ else _ : List UInt8) = _
  rw [if_pos h0, List.set_eq_take_append_cons_drop, if_pos hb, List.drop_of_length_le (by omega)]
  have : b.getLastD 0 = x := by
    rw [List.getLastD_eq_getLast?, List.getLast?_eq_getElem?, hx]; rfl
  rw [this]
/-- New bytes of the call's own. -/
def Fact.newU (N n : Nat) (l : List UInt8) : Fact := ⟨fun v w => w.ownsRow N 5 1 v n (bV l), fun _ _ _ hx h => own_ext h hx⟩
set_option maxRecDepth 100000 in
set_option maxHeartbeats 16000000 in
theorem crash_any (w : World) (b : Nat) (F : List Nat) (S : DS) (hd : Dk w b F S) (ok : OkD S) (vp vt : Value) (ps : List Nat) (ts : List UInt8) (hp : Row w 1 vp ps.length (ps.map fun p => Value.int .u16 (p : Nat))) (hps : ∀ p ∈ ps, p < 65536) (ht : Bytes w vt ts) (hap : ps ≠ [] → ApartD F vp) (hat : ts ≠ [] → ApartD F vt) :
    Calls Tryd.prog 12 #[.pointer (some ⟨b, 0, none⟩), vp, vt] w fun e w' => e = .returned (.int .i64 0) ∧ LeftD w b F (crashS ps ts S) w' := by
  obtain ⟨bm, gs, hd, hgs, rfl⟩ := hd
  obtain ⟨pa, pc, rfl, hpc, hpm⟩ := Row.shape hp
  obtain ⟨ta, tc, rfl, htc, htm⟩ := ht.shape
  have hans : Calls Tryd.prog 30 #[.pointer (some ⟨b, 0, none⟩)] w fun e w' => e = .returned (.int .i64 (ansN S.off)) ∧ w' = w := answers_any w b bm S.q S.fz S.off hd.box
  have h2 : ((ansN S.off : Int) == 2) = false := by unfold ansN; split <;> rfl
  generalize ansN S.off = an at *
  obtain ⟨n, hn⟩ : ∃ n, n = gs.length := ⟨_, rfl⟩
  have HN := Lib.hid hn
  have HA := Lib.hid hans
  have HGS := Lib.hid hgs
  have HD := Lib.hid hd
  have HOK := Lib.hid ok
  have HPS := Lib.hid hps
  have HP := Lib.hid hp
  have HT : Hid (Row w 1 _ ts.length (bV ts)) := ht
  have HAP := Lib.hid hap
  have HAT := Lib.hid hat
  have b2 := cell_of_row _ _ 2 _ _ _ hd.box
  have z2 := frozen_of_row _ _ 2 _ _ hd.box
  have b3 := cell_of_row _ _ 3 _ _ _ hd.box
  have z3 := frozen_of_row _ _ 3 _ _ hd.box
  clear hans hgs hd ok hps hp ht hap hat hn
  go_enter Tryd.func12, Tryd.ntmps12
  go_upto_region 5 with (go_at_call 30; (with_reducible refine HA.out.mono ?_); rintro e w5 ⟨rfl, rfl⟩)
  have hd0 : DkR ((w5.setCell ⟨b, 3, none⟩ (.bool false)).setCell ⟨b, 2, none⟩ (.int .i64 (-1))) b bm gs S.q (-1) false ∧ Turns [b] w5 ((w5.setCell ⟨b, 3, none⟩ (.bool false)).setCell ⟨b, 2, none⟩ (.int .i64 (-1))) := by
    have k1 := HD.out.box.cells 3 (.bool false) (.map (some bm)) S.q S.fz false rfl
    have k2 := k1.cells 2 (.int .i64 (-1)) (.map (some bm)) S.q (-1) false rfl
    have ht : Turns [b] w5 _ := (turns_cell w5 b 3 (.bool false)).trans (turns_cell _ b 2 (.int .i64 (-1))) fun i hi => .inl hi
    exact ⟨HD.out.box' ht k2, ht⟩
  generalize (w5.setCell ⟨b, 3, none⟩ (.bool false)).setCell ⟨b, 2, none⟩ (.int .i64 (-1)) = w0 at *
  have HD0 := Lib.hid hd0
  have hnm := namesG_on w0 b bm gs S.q (-1) hd0.1 (names_short HGS.out HOK.out) (few_files HGS.out HOK.out)
  rw [← HN.out] at hnm
  have HNM := Lib.hid hnm
  clear hd0 hnm b2 b3 z2 z3 h2
  go_upto_region 6 with (go_at_call 9; (with_reducible refine HNM.out.mono ?_); rintro e w6 ⟨vn, rfl, ho, hx⟩; have HO := Lib.hid ho; have HX := Lib.hid hx; obtain ⟨na, nc, rfl, hnc, hnm⟩ := own_shape ho; clear ho hx)
  have HIN : Hid (n ≤ 1000000) := by show n ≤ 1000000; rw [HN.out]; exact few_files HGS.out HOK.out
  have hm0 : Moves (foot b bm gs) (foot b bm gs) w5 w6 := ⟨(HD0.out.2.wide (fun i hi => mem_foot.2 (.inl (by simpa using hi)))).trans (Turns.of_ext (F := foot b bm gs) HX.out) fun i hi => .inl hi, fun k hk => .inl hk⟩
  have HM0 := Lib.hid hm0
  clear hm0
  go_wp2_with fail
  go_loopw [7, 25] (fun kc i wr => ∃ (j kk : Nat) (gs' : List FG), j ≤ n ∧ i = .int .i64 j ∧ kc = .int .i64 kk ∧ Hid (kk = cntL (S.fs.take j)) ∧ Hid (DkR wr b bm gs' S.q (-1) false) ∧ Hid (gs'.map FG.fl = crashI ps ts S.fs j) ∧ Hid (Moves (foot b bm gs) (foot b bm gs') w5 wr) ∧ Hid (wr.ownsRow w0.heap.size 9 1 (.slice na n nc) n (gs.map fun g => stD g.nm))) (fun _ i _ => n - (intOf i).toNat)
  case atStart => exact ⟨0, 0, gs, Nat.zero_le _, rfl, rfl, rfl, HD0.out.1.ext HX.out, by show _ = crashI ps ts S.fs 0; unfold crashI; simp [crashL, HGS.out], HM0.out, HO.out⟩
  case round =>
    obtain ⟨j, kk, gs', hj, rfl, rfl, HKK, HDR, HGC, HMV, HNO⟩ := hrel
    clear HM0 HO HX HNM HD0
    have hnM : n ≤ 1000000 := HIN.out
    by_cases hlt : j < n
    · have hI : decide ((j : Int) < (n : Int)) = true := decide_eq_true (by omega)
      have hjN : (j : Int) < (n : Int) := by omega
      have hjl : j < gs.length := by have := HN.out; omega
      have hjs : j < S.fs.length := by rw [← dkG_len HGS.out]; exact hjl
      obtain ⟨B, o, rfl⟩ := Row.base (Row.of_own HNO.out) (by omega) (by decide)
      have hcl := Row.cellAt (Row.of_own HNO.out) (j := j) (u := stD gs[j].nm) (by rw [List.getElem?_map, List.getElem?_eq_getElem hjl]; rfl) (by omega)
      have hfj : FG.fl gs[j] = S.fs[j] := by
        have : (gs.map FG.fl)[j]? = S.fs[j]? := by rw [HGS.out]
        rw [List.getElem?_map, List.getElem?_eq_getElem hjl, List.getElem?_eq_getElem hjs] at this
        simpa using this
      have hnmj : gs[j].nm = S.fs[j].nm := by rw [← hfj]; rfl
      rw [hnmj] at hcl
      have hcr := crashI_at ps ts S.fs j hjs
      have hcs := crashI_succ ps ts S.fs j hjs
      have hct := cntL_succ S.fs j hjs
      have hup : UpK Fl.nm (crashI ps ts S.fs j) := upK_keys HOK.out.up (crashI_keys ps ts S.fs j)
      have hget : nget FG.nm gs' S.fs[j].nm ≠ none := by
        intro e
        have := dkG_get HGC.out S.fs[j].nm
        rw [e] at this
        have h3 : fgetF (crashI ps ts S.fs j) S.fs[j].nm = some S.fs[j] := nget_of hup (by rw [hcr]; exact List.mem_append_right _ (List.mem_cons_self ..))
        rw [h3] at this
        cases this
      obtain ⟨g, hg⟩ := Option.ne_none_iff_exists'.1 hget
      have hgf : FG.fl g = S.fs[j] := by
        have := dkG_get HGC.out S.fs[j].nm
        rw [hg] at this
        have h3 : fgetF (crashI ps ts S.fs j) S.fs[j].nm = some S.fs[j] := nget_of hup (by rw [hcr]; exact List.mem_append_right _ (List.mem_cons_self ..))
        rw [h3] at this
        exact (Option.some.inj this).symm
      have hmemf : S.fs[j] ∈ S.fs := List.getElem_mem hjs
      have hfl := HOK.out.fast _ hmemf
      have hbl : S.fs[j].b.length ≤ 4194304 := Nat.le_trans (mem_used hmemf) HOK.out.used
      rw [← hgf] at hcl hcr hcs hct hg hfl hbl
      replace hfl : g.fast ≤ g.b.length := hfl
      replace hbl : g.b.length ≤ 4194304 := hbl
      have HCR := Lib.hid (And.intro hcr (And.intro hcs (And.intro hct hup)))
      have HG := Lib.hid hg
      obtain ⟨fa, fc, hfh, hfc, hlk⟩ := HDR.out.file hg
      have n0 := cell_of_row _ _ 0 _ _ _ HDR.out.box
      have k1 := hlk wr (Ext.refl _)
      have HFC := Lib.hid hfc
      have HFH := Lib.hid hfh
      have HFL := Lib.hid hfl
      have HBL := Lib.hid hbl
      unfold stD at hcl
      clear hcr hcs hct hup hget hg hgf hmemf hfl hbl hfh hlk hfj hnmj hjs
      go_upto_region 9 with fail
      have n4 := cell_of_row _ _ 0 _ _ _ HFC.out
      have n5 := cell_of_row _ _ 1 _ _ _ HFC.out
      obtain ⟨gp, hgp⟩ : ∃ gp, gp = g.p := ⟨_, rfl⟩
      have HGP := Lib.hid hgp
      rw [← hgp] at n4 n5 k1 HFC ⊢
      obtain ⟨m, hm⟩ : ∃ m, m = g.b.length := ⟨_, rfl⟩
      have HM := Lib.hid hm
      rw [← hm] at n4 HFC HFH HBL HFL
      obtain ⟨fst, hfst⟩ : ∃ fst, fst = g.fast := ⟨_, rfl⟩
      have HFS := Lib.hid hfst
      rw [← hfst] at n5 HFC HFL
      clear hgp hm hfst hfc
      have hmB := HBL.out
      have hfB := HFL.out
      obtain ⟨lo, hlo⟩ : ∃ lo : Nat, lo = m - fst := ⟨_, rfl⟩
      have hwr : IntKind.i64.wrap ((m : Int) - (fst : Int)) = (lo : Int) := by rw [IntKind.wrap_i64]; omega
      have HWR := Lib.hid hwr
      have HLO := Lib.hid hlo
      clear hwr hlo hmB hfB
      refine wp_region_facts [Fact.eq (.pointer (some ⟨gp, 0, none⟩)),
          Fact.eq (.pointer (some ⟨gp, 0, none⟩)),
          Fact.eq (.pointer (some ⟨gp, 0, none⟩)),
          Fact.eq (.slice fa m fc),
          Fact.eq (.int .i64 m),
          Fact.eq (.pointer (some ⟨gp, 0, none⟩)),
          Fact.eq (.pointer (some ⟨gp, 0, none⟩)),
          Fact.eq (.pointer (some ⟨gp, 1, none⟩)),
          Fact.eq (.int .i64 fst),
          Fact.eq (.int .i64 lo),
          Fact.eq (.int .i64 lo)]
        [[], [(0, 35)], [(1, 36)], [(2, 37)], [(3, 38)], [], [(5, 40)], [(6, 41)], [(7, 42)], [(4, 39), (8, 43)], [(9, 44)]]
        [(0, 35), (1, 36), (2, 37), (3, 38), (4, 39), (5, 40), (6, 41), (7, 42), (8, 43), (9, 44), (10, 11)] (by kernel_rfl) (by kernel_rfl) ?_ ?_
      · refine ⟨?_, ?_, ?_, ?_, ?_, ?_, ?_, ?_, ?_, ?_, ?_, trivial⟩
        · intro w1 hx1; change wpList _ _ _ _ _ _; exact ob_move rfl rfl rfl rfl rfl
        · intro w1 hx1; rintro _ rfl; change wpList _ _ _ _ _ _; go_wp2_with fail; exact ⟨rfl, Ext.refl _, rfl, rfl⟩
        · intro w1 hx1; rintro _ rfl; change wpList _ _ _ _ _ _; go_wp2_with fail; exact ⟨rfl, Ext.refl _, rfl, rfl⟩
        · intro w1 hx1; rintro _ rfl; change wpList _ _ _ _ _ _; have m0 := hx1.cell n4; go_wp2_with fail; exact ⟨rfl, Ext.refl _, rfl, rfl⟩
        · intro w1 hx1; rintro _ rfl; change wpList _ _ _ _ _ _; go_wp2_with fail; exact ⟨rfl, Ext.refl _, rfl, rfl⟩
        · intro w1 hx1; change wpList _ _ _ _ _ _; exact ob_move rfl rfl rfl rfl rfl
        · intro w1 hx1; rintro _ rfl; change wpList _ _ _ _ _ _; go_wp2_with fail; exact ⟨rfl, Ext.refl _, rfl, rfl⟩
        · intro w1 hx1; rintro _ rfl; change wpList _ _ _ _ _ _; go_wp2_with fail; exact ⟨rfl, Ext.refl _, rfl, rfl⟩
        · intro w1 hx1; rintro _ rfl; change wpList _ _ _ _ _ _; have m0 := hx1.cell n5; go_wp2_with fail; exact ⟨rfl, Ext.refl _, rfl, rfl⟩
        · intro w1 hx1; rintro _ rfl; rintro _ rfl; change wpList _ _ _ _ _ _; have k1 := HWR.out; go_wp2_with fail; exact ⟨rfl, Ext.refl _, rfl, rfl⟩
        · intro w1 hx1; rintro _ rfl; change wpList _ _ _ _ _ _; exact ob_assign rfl rfl rfl rfl rfl
      · intro w1 hx1; rintro _ rfl; rintro _ rfl; rintro _ rfl; rintro _ rfl; rintro _ rfl; rintro _ rfl; rintro _ rfl; rintro _ rfl; rintro _ rfl; rintro _ rfl; rintro _ rfl; refine depsThen_nil ?_; dsimp only; simp only [Act.put, List.setIfInBounds_toArray, List.set_cons_zero, List.set_cons_succ]
        have HX1 := Lib.hid hx1
        have HDR1 := Lib.hid (HDR.out.ext hx1)
        have HMV1 := Lib.hid (HMV.out.trans (Moves.of_ext (F := foot b bm gs') hx1))
        have HNO1 := Lib.hid (own_ext HNO.out hx1)
        have HFC1 := Lib.hid (block_later HFC.out hx1)
        clear hx1 n0 n4 n5 k1 HDR HNO HFC
        by_cases hlo0 : lo = 0
        · have hb0 : ((lo : Int) == 0) = true := by rw [beq_iff_eq]; omega
          have hsame : Hid (crashI ps ts S.fs (j + 1) = crashI ps ts S.fs j) := by
            obtain ⟨c1, c2, c3, c4⟩ := HCR.out
            show crashI ps ts S.fs (j + 1) = crashI ps ts S.fs j
            have e : (FG.fl g).b.length = (FG.fl g).fast := by show g.b.length = g.fast; rw [← HM.out, ← HFS.out]; have := HLO.out; have := HFL.out; omega
            rw [c1, c2, if_pos e]
          have hcnt : Hid (kk = cntL (S.fs.take (j + 1))) := by
            obtain ⟨c1, c2, c3, c4⟩ := HCR.out
            have e : (FG.fl g).b.length = (FG.fl g).fast := by show g.b.length = g.fast; rw [← HM.out, ← HFS.out]; have := HLO.out; have := HFL.out; omega
            show kk = _
            rw [c3, if_pos e, ← HKK.out]; rfl
          clear hlo0
          go_wp2_with fail
          go_roundw
          case rel => exact ⟨j + 1, kk, gs', hlt, by go_num, rfl, hcnt.out, HDR1.out, by rw [hsame.out]; exact HGC.out, HMV1.out, HNO1.out⟩
          case measure => simp [intOf]; omega
        · have hb0 : ((lo : Int) == 0) = false := by rw [beq_eq_false_iff_ne]; omega
          obtain ⟨st, hst⟩ : ∃ st : Nat, st = (match ps[kk]? with | none => 0 | some p => p % (lo + 1)) := ⟨_, rfl⟩
          have HST := Lib.hid hst
          clear hst
          obtain ⟨kb, hkb⟩ : ∃ kb : Bool, kb = decide ((kk : Int) < (ps.length : Int)) := ⟨_, rfl⟩
          have hkI : decide ((kk : Int) < (ps.length : Int)) = kb := hkb.symm
          have HKB := Lib.hid hkb
          clear hkb
          go_upto_if 50 with fail
          clear hkI
          go_cut [12] from 51 to 58 (fun v wx => v = .int .i64 st ∧ wx = w1)
          case first =>
            cases kb with
            | true =>
              have hk : kk < ps.length := by have := of_decide_eq_true HKB.out.symm; omega
              have hkN : (kk : Int) < (ps.length : Int) := by omega
              have hp1 := HP.out.turnD HMV1.out.turns (HAP.out (by intro e; rw [e] at hk; exact absurd hk (Nat.not_lt_zero _)))
              obtain ⟨PB, po, rfl⟩ := Row.base hp1 (by omega) (by decide)
              have hpc1 := Row.cellAt hp1 (j := kk) (u := .int .u16 (ps[kk] : Nat)) (by rw [List.getElem?_map, List.getElem?_eq_getElem hk]; rfl) (by omega)
              have hpk := HPS.out ps[kk] (List.getElem_mem hk)
              have hst1 : st = ps[kk] % (lo + 1) := by rw [HST.out, List.getElem?_eq_getElem hk]
              have HST1 := Lib.hid hst1
              clear hp1 hst1
              generalize ps[kk] = p at *
              have hloB : lo ≤ 4194304 := by have := HLO.out; have := HBL.out; omega
              have hwp : IntKind.i64.wrap (p : Int) = (p : Int) := by rw [IntKind.wrap_i64]; omega
              have hwl : IntKind.i64.wrap ((lo : Int) + 1) = (lo : Int) + 1 := by rw [IntKind.wrap_i64]; omega
              have hlz : ((lo : Int) + 1 == 0) = false := by rw [beq_eq_false_iff_ne]; omega
              go_wp2_with fail
              go_meet
              exact ⟨by rw [HST1.out]; rfl, rfl⟩
            | false =>
              have hkI : decide ((kk : Int) < (ps.length : Int)) = false := HKB.out.symm
              have hkn : ¬ kk < ps.length := by have := of_decide_eq_false hkI; omega
              have hkJ : decide (kk < ps.length) = false := decide_eq_false hkn
              have hs0 : st = 0 := by rw [HST.out, List.getElem?_eq_none (by have := of_decide_eq_false HKB.out.symm; omega)]
              subst hs0
              go_wp2_with fail
              go_meet
              exact ⟨rfl, rfl⟩
          case rest =>
            obtain ⟨rfl, rfl⟩ := hcut
            have hst : st ≤ lo := by
              rw [HST.out]
              split
              · exact Nat.zero_le _
              · exact Nat.lt_succ_iff.1 (Nat.mod_lt _ (Nat.succ_pos _))
            have hmB := HBL.out
            have hfB := HFL.out
            have hloE := HLO.out
            have hsum : fst + st ≤ m := by omega
            have hws : IntKind.i64.wrap ((fst : Int) + (st : Int)) = ((fst + st : Nat) : Int) := by rw [IntKind.wrap_i64]; omega
            have hrow := (HDR1.out.files g (nget_some HG.out).1).row
            rw [HFH.out, ← HM.out] at hrow
            have hcut : Row wc 1 (.slice fa (fst + st) fc) (fst + st) (bV (g.b.take (fst + st))) := row_take (by rw [← HM.out]; exact hrow) (by rw [← HM.out]; exact hsum)
            have HCUT := Lib.hid hcut
            have HSUM := Lib.hid hsum
            have HWS := Lib.hid hws
            have HSTL := Lib.hid hst
            have hlenT : (g.b.take (fst + st)).length = fst + st := by rw [List.length_take, ← HM.out]; omega
            have HLT := Lib.hid hlenT
            obtain ⟨nb, hnb⟩ : ∃ nb, nb = fst + st := ⟨_, rfl⟩
            have HNB := Lib.hid hnb
            rw [← hnb] at HCUT HSUM HWS HLT
            have hfcm : m ≤ fc := by obtain ⟨_, _, e, h1, _⟩ := own_shape hrow; simp only [Value.slice.injEq] at e; rw [e.2.2]; exact h1
            have n4 := cell_of_row _ _ 0 _ _ _ HFC1.out
            have n5 := cell_of_row _ _ 1 _ _ _ HFC1.out
            clear hst hmB hfB hloE hsum hws hrow hcut hlenT hnb
            have HCL : Hid (∀ W, Ext wc W → Calls Tryd.prog 35 #[.slice fa nb fc] W fun e w' => ∃ v', e = .returned v' ∧ w'.ownsRow wc.heap.size 5 1 v' nb (bV (g.b.take nb)) ∧ Ext W w') := fun W hW => by
              have hb : Bytes W (.slice fa nb fc) (g.b.take nb) := by unfold Bytes; rw [HLT.out]; exact HCUT.out.ext hW
              refine (bclone_dk W _ _ hb (by rw [HLT.out]; have := HSUM.out; have := HBL.out; omega)).mono ?_
              rintro e w' ⟨v', rfl, h1, h2⟩
              refine ⟨v', rfl, ?_, h2⟩
              have h3 := own_low h1 hW.size
              rwa [HLT.out] at h3
            go_upto_region 14 with fail
            refine wp_region_chain 15 [Fact.eq (.pointer (some ⟨gp, 0, none⟩)),
                Fact.eq (.pointer (some ⟨gp, 0, none⟩)),
                Fact.eq (.pointer (some ⟨gp, 0, none⟩)),
                Fact.eq (.pointer (some ⟨gp, 0, none⟩)),
                Fact.eq (.slice fa m fc),
                Fact.eq (.pointer (some ⟨gp, 0, none⟩)),
                Fact.eq (.pointer (some ⟨gp, 0, none⟩)),
                Fact.eq (.pointer (some ⟨gp, 1, none⟩)),
                Fact.eq (.int .i64 fst),
                Fact.eq (.int .i64 st),
                Fact.eq (.int .i64 nb),
                Fact.eq (.slice fa nb fc),
                Fact.newU wc.heap.size nb (g.b.take nb),
                Fact.eq (.pointer (some ⟨gp, 0, none⟩)),
                Fact.eq (.pointer (some ⟨gp, 0, none⟩))]
              [[], [], [(1, 60)], [(2, 61)], [(3, 62)], [], [(5, 64)], [(6, 65)], [(7, 66)], [], [(8, 67), (9, 68)], [(4, 63), (10, 69)], [(11, 70)], [(0, 59)], [(13, 72)]]
              [(0, 59), (1, 60), (2, 61), (3, 62), (4, 63), (5, 64), (6, 65), (7, 66), (8, 67), (9, 68), (10, 69), (11, 70), (12, 71), (13, 72), (14, 73)] (by kernel_rfl) (by kernel_rfl) ?_ ?_
            · refine ⟨?_, ?_, ?_, ?_, ?_, ?_, ?_, ?_, ?_, ?_, ?_, ?_, ?_, ?_, ?_, trivial⟩
              · intro w1 hx1; change wpList _ _ _ _ _ _; exact ob_move rfl rfl rfl rfl rfl
              · intro w1 hx1; change wpList _ _ _ _ _ _; exact ob_move rfl rfl rfl rfl rfl
              · intro w1 hx1; rintro _ rfl; change wpList _ _ _ _ _ _; go_wp2_with fail; exact ⟨rfl, Ext.refl _, rfl, rfl⟩
              · intro w1 hx1; rintro _ rfl; change wpList _ _ _ _ _ _; go_wp2_with fail; exact ⟨rfl, Ext.refl _, rfl, rfl⟩
              · intro w1 hx1; rintro _ rfl; change wpList _ _ _ _ _ _; have m0 := hx1.cell n4; go_wp2_with fail; exact ⟨rfl, Ext.refl _, rfl, rfl⟩
              · intro w1 hx1; change wpList _ _ _ _ _ _; exact ob_move rfl rfl rfl rfl rfl
              · intro w1 hx1; rintro _ rfl; change wpList _ _ _ _ _ _; go_wp2_with fail; exact ⟨rfl, Ext.refl _, rfl, rfl⟩
              · intro w1 hx1; rintro _ rfl; change wpList _ _ _ _ _ _; go_wp2_with fail; exact ⟨rfl, Ext.refl _, rfl, rfl⟩
              · intro w1 hx1; rintro _ rfl; change wpList _ _ _ _ _ _; have m0 := hx1.cell n5; go_wp2_with fail; exact ⟨rfl, Ext.refl _, rfl, rfl⟩
              · intro w1 hx1; change wpList _ _ _ _ _ _; exact ob_move rfl rfl rfl rfl rfl
              · intro w1 hx1; rintro _ rfl; rintro _ rfl; change wpList _ _ _ _ _ _; have k1 := HWS.out; go_wp2_with fail; exact ⟨rfl, Ext.refl _, rfl, rfl⟩
              · intro w1 hx1; rintro _ rfl; rintro _ rfl; change wpList _ _ _ _ _ _; have k1 := HSUM.out; have k2 : nb ≤ fc := Nat.le_trans k1 hfcm; go_wp2_with fail; exact ⟨rfl, Ext.refl _, rfl, rfl⟩
              · intro w1 hx1; rintro _ rfl; change wpList _ _ _ _ _ _; have hk := HCL.out w1 hx1; go_wp2_with ((with_reducible refine hk.mono ?_); rintro e w2 ⟨v', rfl, ho, hx2⟩); exact ⟨rfl, hx2, rfl, ho⟩
              · intro w1 hx1; rintro _ rfl; change wpList _ _ _ _ _ _; go_wp2_with fail; exact ⟨rfl, Ext.refl _, rfl, rfl⟩
              · intro w1 hx1; rintro _ rfl; change wpList _ _ _ _ _ _; go_wp2_with fail; exact ⟨rfl, Ext.refl _, rfl, rfl⟩
            · intro w1 hx1; rintro _ rfl; rintro _ rfl; rintro _ rfl; rintro _ rfl; rintro _ rfl; rintro _ rfl; rintro _ rfl; rintro _ rfl; rintro _ rfl; rintro _ rfl; rintro _ rfl; rintro _ rfl; intro v71 h71; rintro _ rfl; rintro _ rfl; refine depsThen_nil ?_; dsimp only; simp only [Act.put, List.setIfInBounds_toArray, List.set_cons_zero, List.set_cons_succ, List.drop_succ_cons, List.drop_zero]
              replace h71 : (Fact.newU wc.heap.size nb (g.b.take nb)).p v71 w1 := h71
              obtain ⟨va, vc, rfl, _, _⟩ := own_shape h71
              have hfc1 := block_later HFC1.out hx1
              have m4 := cell_of_row _ _ 0 _ _ _ hfc1
              have z4 := frozen_of_row _ _ 0 _ _ hfc1
              have hg7 : (w1.setCell ⟨gp, 0, none⟩ (.slice va nb vc)).heap[gp]? = some (.cells #[.slice va nb vc, .int .i64 (fst : Nat)] 70 (0, 0)) := setCell_row (i := 0) hfc1 _
              have ho7 : (w1.setCell ⟨gp, 0, none⟩ (.slice va nb vc)).ownsRow wc.heap.size 5 1 (.slice va nb vc) nb (bV (g.b.take nb)) := (turns_cell w1 gp 0 _).own h71 fun q hq e => by
                simp at e; subst e; exact own_ne h71 hfc1 (by decide) hq
              have ht7 : Turns (ftG g) wc (w1.setCell ⟨gp, 0, none⟩ (.slice va nb vc)) := (Turns.of_ext hx1).trans (F := ftG g) ((turns_cell w1 gp 0 _).wide fun i hi => by simp at hi; subst hi; rw [HGP.out]; simp [ftG]) fun i hi => .inl hi
              have HG7 := Lib.hid hg7
              have HO7 := Lib.hid ho7
              have HT7 := Lib.hid ht7
              clear hfc1 hg7 ho7 ht7 hx1 h71 n4 n5
              go_upto_region 15 with fail
              clear m4 z4
              generalize w1.setCell ⟨gp, 0, none⟩ (.slice va nb vc) = w7 at *
              have hstay : stayN (FG.fl g) ps[kk]? = st := by
                show (match ps[kk]? with | none => 0 | some p => p % (g.b.length - g.fast + 1)) = st
                rw [HST.out, ← HFS.out, ← HM.out, ← HLO.out]
              obtain ⟨cb, hcb⟩ : ∃ cb, cb = tornB (g.b.take nb) st ts[kk]? := ⟨_, rfl⟩
              have hcf : crashF (FG.fl g) ps[kk]? ts[kk]? = { FG.fl g with b := cb, fast := nb } := by
                unfold crashF
                rw [hstay]
                have e1 : (FG.fl g).b.take ((FG.fl g).fast + st) = g.b.take nb := by
                  show g.b.take (g.fast + st) = _
                  rw [← HFS.out, HNB.out]
                rw [e1, ← hcb]
                congr 1
                rw [hcb, tornB_len (fun h0 => by rw [HLT.out, HNB.out]; omega), HLT.out]
              have HCB := Lib.hid hcb
              have HCF := Lib.hid hcf
              clear hcb hcf hstay
              by_cases hs0 : 0 < st
              case neg =>
                have hs1 : decide ((st : Int) > 0) = false := decide_eq_false (by omega)
                have hs2 : decide (0 < st) = false := decide_eq_false hs0
                have hs3 : st = 0 := by omega
                subst hs3
                have hcb0 : cb = g.b.take nb := HCB.out.trans (tornB_no fun h => hs0 h.1)
                have HCL2 : Hid (cb.length = nb) := by rw [hcb0]; exact HLT.out
                replace HO7 : Hid (w7.ownsRow wc.heap.size 5 1 (.slice va nb vc) nb (bV cb)) := by rw [hcb0]; exact HO7.out
                clear hcb0
                have o0 := cell_of_row _ _ 0 _ _ _ HG7.out
                have o1 := cell_of_row _ _ 1 _ _ _ HG7.out
                have y1 := frozen_of_row _ _ 1 _ _ HG7.out
                have hgm := (nget_some HG.out).1
                have hset := HDR1.out.set (g := g) (g' := { g with b := cb, fast := nb, h := .slice va nb vc }) (w' := w7.setCell ⟨gp, 1, none⟩ (.int .i64 nb)) hgm rfl rfl (HT7.out.trans (F := ftG g) ((turns_cell w7 gp 1 _).wide fun i hi => by simp at hi; subst hi; rw [HGP.out]; simp [ftG]) fun i hi => .inl hi) ⟨by
                    show (w7.setCell ⟨gp, 1, none⟩ (.int .i64 nb)).heap[g.p]? = _
                    rw [← HGP.out]
                    exact setCell_row (i := 1) HG7.out _, by
                    show (w7.setCell ⟨gp, 1, none⟩ (.int .i64 nb)).ownsRow 0 5 1 (.slice va nb vc) cb.length (bV cb)
                    rw [HCL2.out]
                    exact (turns_cell w7 gp 1 _).own (own_low HO7.out (Nat.zero_le _)) fun q hq e => by
                      simp at e; subst e; exact own_ne HO7.out HG7.out (by decide) hq⟩ (fun k hk => by
                  rcases List.mem_cons.1 hk with rfl | hk
                  · exact .inl (by simp [ftG])
                  · exact .inr (own_base HO7.out k (by simpa using hk)))
                have hnames : (w7.setCell ⟨gp, 1, none⟩ (.int .i64 nb)).ownsRow w0.heap.size 9 1 (.slice (some ⟨B, o, none⟩) n nc) n (gs.map fun g => stD g.nm) := by
                  have hfg := HDR1.out.files g hgm
                  have h1 : w7.ownsRow w0.heap.size 9 1 (.slice (some ⟨B, o, none⟩) n nc) n (gs.map fun g => stD g.nm) := HT7.out.own HNO1.out fun q hq e => by
                    rcases List.mem_cons.1 e with rfl | e
                    · exact own_ne HNO1.out hfg.cell (by decide) hq
                    · exact own_apart HNO1.out hfg.row (by decide) q (by simpa using e) hq
                  exact (turns_cell w7 gp 1 _).own h1 fun q hq e => by
                    simp at e; subst e; exact own_ne h1 HG7.out (by decide) hq
                have hnext : (nset FG.nm gs' { g with b := cb, fast := nb, h := .slice va nb vc }).map FG.fl = crashI ps ts S.fs (j + 1) ∧ kk + 1 = cntL (S.fs.take (j + 1)) := by
                  obtain ⟨c1, c2, c3, c4⟩ := HCR.out
                  have e : ¬ (FG.fl g).b.length = (FG.fl g).fast := by show ¬ g.b.length = g.fast; rw [← HM.out, ← HFS.out]; have := HLO.out; omega
                  rw [if_neg e, ← HKK.out] at c2 c3
                  refine ⟨?_, c3.symm⟩
                  rw [← nset_map fl_nm, HGC.out, c1, c2, HCF.out]
                  exact nset_mid (by rw [← c1]; exact c4) rfl
                have HNX := Lib.hid (And.intro hset (And.intro hnames hnext))
                have hkj : kk < 1000000 := by
                  have h1 := HKK.out
                  have h2 := cntL_le (S.fs.take j)
                  rw [List.length_take] at h2
                  omega
                clear hset hnames hnext hgm
                go_wp2_with fail
                go_roundw
                case rel => exact ⟨j + 1, kk + 1, _, hlt, by go_num, by go_num, HNX.out.2.2.2, HNX.out.1.1, HNX.out.2.2.1, HMV1.out.trans HNX.out.1.2, HNX.out.2.1⟩
                case measure => simp [intOf]; omega
              case pos =>
                have hs1 : decide ((st : Int) > 0) = true := decide_eq_true (by omega)
                have hs2 : decide (0 < st) = true := decide_eq_true hs0
                by_cases hkt : kk < ts.length
                case neg =>
                  have hk1 : decide ((kk : Int) < (ts.length : Int)) = false := decide_eq_false (by omega)
                  have hk2 : decide (kk < ts.length) = false := decide_eq_false hkt
                  have hcb0 : cb = g.b.take nb := HCB.out.trans (tornB_no fun h => by rw [List.getElem?_eq_none (by omega)] at h; cases h.2)
                  have HCL2 : Hid (cb.length = nb) := by rw [hcb0]; exact HLT.out
                  replace HO7 : Hid (w7.ownsRow wc.heap.size 5 1 (.slice va nb vc) nb (bV cb)) := by rw [hcb0]; exact HO7.out
                  clear hcb0
                  have o0 := cell_of_row _ _ 0 _ _ _ HG7.out
                  have o1 := cell_of_row _ _ 1 _ _ _ HG7.out
                  have y1 := frozen_of_row _ _ 1 _ _ HG7.out
                  have hgm := (nget_some HG.out).1
                  have hset := HDR1.out.set (g := g) (g' := { g with b := cb, fast := nb, h := .slice va nb vc }) (w' := w7.setCell ⟨gp, 1, none⟩ (.int .i64 nb)) hgm rfl rfl (HT7.out.trans (F := ftG g) ((turns_cell w7 gp 1 _).wide fun i hi => by simp at hi; subst hi; rw [HGP.out]; simp [ftG]) fun i hi => .inl hi) ⟨by
                      show (w7.setCell ⟨gp, 1, none⟩ (.int .i64 nb)).heap[g.p]? = _
                      rw [← HGP.out]
                      exact setCell_row (i := 1) HG7.out _, by
                      show (w7.setCell ⟨gp, 1, none⟩ (.int .i64 nb)).ownsRow 0 5 1 (.slice va nb vc) cb.length (bV cb)
                      rw [HCL2.out]
                      exact (turns_cell w7 gp 1 _).own (own_low HO7.out (Nat.zero_le _)) fun q hq e => by
                        simp at e; subst e; exact own_ne HO7.out HG7.out (by decide) hq⟩ (fun k hk => by
                    rcases List.mem_cons.1 hk with rfl | hk
                    · exact .inl (by simp [ftG])
                    · exact .inr (own_base HO7.out k (by simpa using hk)))
                  have hnames : (w7.setCell ⟨gp, 1, none⟩ (.int .i64 nb)).ownsRow w0.heap.size 9 1 (.slice (some ⟨B, o, none⟩) n nc) n (gs.map fun g => stD g.nm) := by
                    have hfg := HDR1.out.files g hgm
                    have h1 : w7.ownsRow w0.heap.size 9 1 (.slice (some ⟨B, o, none⟩) n nc) n (gs.map fun g => stD g.nm) := HT7.out.own HNO1.out fun q hq e => by
                      rcases List.mem_cons.1 e with rfl | e
                      · exact own_ne HNO1.out hfg.cell (by decide) hq
                      · exact own_apart HNO1.out hfg.row (by decide) q (by simpa using e) hq
                    exact (turns_cell w7 gp 1 _).own h1 fun q hq e => by
                      simp at e; subst e; exact own_ne h1 HG7.out (by decide) hq
                  have hnext : (nset FG.nm gs' { g with b := cb, fast := nb, h := .slice va nb vc }).map FG.fl = crashI ps ts S.fs (j + 1) ∧ kk + 1 = cntL (S.fs.take (j + 1)) := by
                    obtain ⟨c1, c2, c3, c4⟩ := HCR.out
                    have e : ¬ (FG.fl g).b.length = (FG.fl g).fast := by show ¬ g.b.length = g.fast; rw [← HM.out, ← HFS.out]; have := HLO.out; omega
                    rw [if_neg e, ← HKK.out] at c2 c3
                    refine ⟨?_, c3.symm⟩
                    rw [← nset_map fl_nm, HGC.out, c1, c2, HCF.out]
                    exact nset_mid (by rw [← c1]; exact c4) rfl
                  have HNX := Lib.hid (And.intro hset (And.intro hnames hnext))
                  have hkj : kk < 1000000 := by
                    have h1 := HKK.out
                    have h2 := cntL_le (S.fs.take j)
                    rw [List.length_take] at h2
                    omega
                  clear hset hnames hnext hgm
                  go_wp2_with fail
                  go_roundw
                  case rel => exact ⟨j + 1, kk + 1, _, hlt, by go_num, by go_num, HNX.out.2.2.2, HNX.out.1.1, HNX.out.2.2.1, HMV1.out.trans HNX.out.1.2, HNX.out.2.1⟩
                  case measure => simp [intOf]; omega
                case pos =>
                  have hk1 : decide ((kk : Int) < (ts.length : Int)) = true := decide_eq_true (by omega)
                  have hkN : (kk : Int) < (ts.length : Int) := by omega
                  have hnb0 : 0 < nb := by have := HNB.out; omega
                  obtain ⟨vb, hvb⟩ : ∃ vb, va = some ⟨vb, 0, none⟩ := by
                    rcases HO7.out.2 with ⟨e, _⟩ | ⟨vb, c9, cur, e, _⟩
                    · simp only [Value.slice.injEq] at e; omega
                    · simp only [Value.slice.injEq] at e; exact ⟨vb, e.1⟩
                  subst hvb
                  have hxl : nb - 1 < (g.b.take nb).length := by rw [HLT.out]; omega
                  have hxc := Row.cellAt (Row.of_own HO7.out) (j := nb - 1) (u := .int .u8 ((g.b.take nb)[nb - 1].toNat : Int)) (by unfold bV; rw [List.getElem?_map, List.getElem?_eq_getElem hxl]; rfl) hnb0
                  have hxg : (g.b.take nb)[(g.b.take nb).length - 1]? = some (g.b.take nb)[nb - 1] := by rw [HLT.out]; exact List.getElem?_eq_getElem hxl
                  have htr : Row w7 1 (.slice ta ts.length tc) ts.length (bV ts) := HT.out.turnD (HMV1.out.turns.trans HT7.out fun i hi => HMV1.out.blocks i (foot_file (nget_some HG.out).1 hi)) (HAT.out (by intro e; rw [e] at hkt; exact absurd hkt (Nat.not_lt_zero _)))
                  obtain ⟨TB, to', rfl⟩ := Row.base htr (by omega) (by decide)
                  have htc2 := Row.cellAt htr (j := kk) (u := .int .u8 (ts[kk].toNat : Int)) (by unfold bV; rw [List.getElem?_map, List.getElem?_eq_getElem hkt]; rfl) (by omega)
                  have htg : ts[kk]? = some ts[kk] := List.getElem?_eq_getElem hkt
                  have hcb1 : cb = (g.b.take nb).set (nb - 1) ((g.b.take nb)[nb - 1] ^^^ ts[kk]) := by
                    rw [HCB.out, htg, tornB_yes hs0 hxg, HLT.out]
                  have hxor : bits .xor .u8 ((g.b.take nb)[nb - 1].toNat : Int) (ts[kk].toNat : Int) = (((g.b.take nb)[nb - 1] ^^^ ts[kk]).toNat : Int) := by
                    rw [u8_xor_nat _ _ (g.b.take nb)[nb - 1].toNat_lt ts[kk].toNat_lt, ← UInt8.toNat_xor]
                  have hfz : w7.frozen? ⟨vb, nb - 1, none⟩ = false := by
                    rcases HO7.out.2 with ⟨e, _⟩ | ⟨vb', c9, cur, e, _, hh, _⟩
                    · cases e
                    · cases e; exact frozen_of_row _ _ _ _ _ hh
                  have HCB1 := Lib.hid hcb1
                  clear hxg htg hcb1 htr
                  generalize (g.b.take nb)[nb - 1] = x at *
                  generalize ts[kk] = t at *
                  obtain ⟨y, hy⟩ : ∃ y : UInt8, y = x ^^^ t := ⟨_, rfl⟩
                  rw [← hy] at HCB1 hxor
                  clear hy
                  obtain ⟨n1, hn1⟩ : ∃ n1, n1 = nb - 1 := ⟨_, rfl⟩
                  rw [← hn1] at hxc hfz HCB1
                  have hn1w : IntKind.i64.wrap ((nb : Int) - 1) = (n1 : Int) := by rw [IntKind.wrap_i64]; have := HSUM.out; have := HBL.out; omega
                  have hn1l : n1 < nb := by omega
                  have o0 := cell_of_row _ _ 0 _ _ _ HG7.out
                  have HN1 := Lib.hid hn1
                  have HXC := Lib.hid (And.intro hxc (And.intro htc2 hfz))
                  have HXR := Lib.hid hxor
                  have HW1 := Lib.hid hn1w
                  clear hn1 hxl hxc htc2 hfz hxor hn1w
                  go_upto_region 16 with fail
                  refine wp_region_chain 18 [Fact.eq (.pointer (some ⟨gp, 0, none⟩)),
                      Fact.eq (.pointer (some ⟨gp, 0, none⟩)),
                      Fact.eq (.pointer (some ⟨gp, 0, none⟩)),
                      Fact.eq (.slice (some ⟨vb, 0, none⟩) nb vc),
                      Fact.eq (.pointer (some ⟨gp, 0, none⟩)),
                      Fact.eq (.pointer (some ⟨gp, 0, none⟩)),
                      Fact.eq (.pointer (some ⟨gp, 0, none⟩)),
                      Fact.eq (.slice (some ⟨vb, 0, none⟩) nb vc),
                      Fact.eq (.int .i64 nb),
                      Fact.eq (.int .i64 n1),
                      Fact.eq (.pointer (some ⟨vb, n1, none⟩)),
                      Fact.eq (.int .u8 (x.toNat : Int)),
                      Fact.eq (.slice (some ⟨TB, to', none⟩) ts.length tc),
                      Fact.eq (.int .i64 kk),
                      Fact.eq (.pointer (some ⟨TB, to' + kk, none⟩)),
                      Fact.eq (.int .u8 (t.toNat : Int)),
                      Fact.eq (.int .u8 (y.toNat : Int)),
                      Fact.eq (.pointer (some ⟨vb, n1, none⟩))]
                    [[], [(0, 82)], [(1, 83)], [(2, 84)], [], [(4, 86)], [(5, 87)], [(6, 88)], [(7, 89)], [(8, 90)], [(3, 85), (9, 91)], [(10, 92)], [], [], [(12, 94), (13, 95)], [(14, 96)], [(11, 93), (15, 97)], [(3, 85), (9, 91)]]
                    [(0, 82), (1, 83), (2, 84), (3, 85), (4, 86), (5, 87), (6, 88), (7, 89), (8, 90), (9, 91), (10, 92), (11, 93), (12, 94), (13, 95), (14, 96), (15, 97), (16, 98), (17, 99)] (by kernel_rfl) (by kernel_rfl) ?_ ?_
                  · refine ⟨?_, ?_, ?_, ?_, ?_, ?_, ?_, ?_, ?_, ?_, ?_, ?_, ?_, ?_, ?_, ?_, ?_, ?_, trivial⟩
                    · intro w1 hx1; change wpList _ _ _ _ _ _; exact ob_move rfl rfl rfl rfl rfl
                    · intro w1 hx1; rintro _ rfl; change wpList _ _ _ _ _ _; go_wp2_with fail; exact ⟨rfl, Ext.refl _, rfl, rfl⟩
                    · intro w1 hx1; rintro _ rfl; change wpList _ _ _ _ _ _; go_wp2_with fail; exact ⟨rfl, Ext.refl _, rfl, rfl⟩
                    · intro w1 hx1; rintro _ rfl; change wpList _ _ _ _ _ _; have m0 := hx1.cell o0; go_wp2_with fail; exact ⟨rfl, Ext.refl _, rfl, rfl⟩
                    · intro w1 hx1; change wpList _ _ _ _ _ _; exact ob_move rfl rfl rfl rfl rfl
                    · intro w1 hx1; rintro _ rfl; change wpList _ _ _ _ _ _; go_wp2_with fail; exact ⟨rfl, Ext.refl _, rfl, rfl⟩
                    · intro w1 hx1; rintro _ rfl; change wpList _ _ _ _ _ _; go_wp2_with fail; exact ⟨rfl, Ext.refl _, rfl, rfl⟩
                    · intro w1 hx1; rintro _ rfl; change wpList _ _ _ _ _ _; have m0 := hx1.cell o0; go_wp2_with fail; exact ⟨rfl, Ext.refl _, rfl, rfl⟩
                    · intro w1 hx1; rintro _ rfl; change wpList _ _ _ _ _ _; go_wp2_with fail; exact ⟨rfl, Ext.refl _, rfl, rfl⟩
                    · intro w1 hx1; rintro _ rfl; change wpList _ _ _ _ _ _; have k1 := HW1.out; go_wp2_with fail; exact ⟨rfl, Ext.refl _, rfl, rfl⟩
                    · intro w1 hx1; rintro _ rfl; rintro _ rfl; change wpList _ _ _ _ _ _; have k1 := hn1l; go_wp2_with fail; exact ⟨rfl, Ext.refl _, rfl, rfl⟩
                    · intro w1 hx1; rintro _ rfl; change wpList _ _ _ _ _ _; have k1 := hx1.cell HXC.out.1; rw [Nat.zero_add] at k1; go_wp2_with fail; exact ⟨rfl, Ext.refl _, rfl, rfl⟩
                    · intro w1 hx1; change wpList _ _ _ _ _ _; exact ob_move rfl rfl rfl rfl rfl
                    · intro w1 hx1; change wpList _ _ _ _ _ _; exact ob_move rfl rfl rfl rfl rfl
                    · intro w1 hx1; rintro _ rfl; rintro _ rfl; change wpList _ _ _ _ _ _; have k1 := hkt; go_wp2_with fail; exact ⟨rfl, Ext.refl _, rfl, rfl⟩
                    · intro w1 hx1; rintro _ rfl; change wpList _ _ _ _ _ _; have k1 := hx1.cell HXC.out.2.1; go_wp2_with fail; exact ⟨rfl, Ext.refl _, rfl, rfl⟩
                    · intro w1 hx1; rintro _ rfl; rintro _ rfl; change wpList _ _ _ _ _ _; have k1 := HXR.out; go_wp2_with fail; exact ⟨rfl, Ext.refl _, rfl, rfl⟩
                    · intro w1 hx1; rintro _ rfl; rintro _ rfl; change wpList _ _ _ _ _ _; have k1 := hn1l; go_wp2_with fail; exact ⟨rfl, Ext.refl _, rfl, rfl⟩
                  · intro w1 hx1; rintro _ rfl; rintro _ rfl; rintro _ rfl; rintro _ rfl; rintro _ rfl; rintro _ rfl; rintro _ rfl; rintro _ rfl; rintro _ rfl; rintro _ rfl; rintro _ rfl; rintro _ rfl; rintro _ rfl; rintro _ rfl; rintro _ rfl; rintro _ rfl; rintro _ rfl; rintro _ rfl; refine depsThen_nil ?_; dsimp only; simp only [Act.put, List.setIfInBounds_toArray, List.set_cons_zero, List.set_cons_succ, List.drop_succ_cons, List.drop_zero]
                    have ho1 := own_ext HO7.out hx1
                    have hgb : gp ≠ vb := fun e => own_ne HO7.out HG7.out (by decide) (by rw [e]; rfl)
                    have hvN : wc.heap.size ≤ vb := own_base HO7.out vb rfl
                    have k5 := hx1.cell HXC.out.1
                    rw [Nat.zero_add] at k5
                    have k6 : w1.frozen? ⟨vb, n1, none⟩ = false := by
                      rcases ho1.2 with ⟨e, _⟩ | ⟨vb', c9, cur, e, _, hh, _⟩
                      · cases e
                      · cases e; exact frozen_of_row _ _ _ _ _ hh
                    have hg8 : (w1.setCell ⟨vb, n1, none⟩ (.int .u8 (y.toNat : Int))).heap[gp]? = some (.cells #[.slice (some ⟨vb, 0, none⟩) nb vc, .int .i64 (fst : Nat)] 70 (0, 0)) := (turns_cell w1 vb n1 _).at (block_later HG7.out hx1) (by simp; exact hgb)
                    have ho8 : (w1.setCell ⟨vb, n1, none⟩ (.int .u8 (y.toNat : Int))).ownsRow wc.heap.size 5 1 (.slice (some ⟨vb, 0, none⟩) nb vc) nb (bV cb) := by
                      have h1 := own_setD ho1 (j := n1) (.int .u8 (y.toNat : Int))
                      have e : bV cb = (bV (g.b.take nb)).set n1 (.int .u8 (y.toNat : Int)) := by
                        rw [HCB1.out]; unfold bV; rw [List.map_set]
                      rw [e]; exact h1
                    have ht8 : Turns (ftG g) wc (w1.setCell ⟨vb, n1, none⟩ (.int .u8 (y.toNat : Int))) := (HT7.out.trans (F := ftG g) (Turns.of_ext (F := ftG g) hx1) fun i hi => .inl hi).trans (turns_cell w1 vb n1 _) fun i hi => by simp at hi; subst hi; exact .inr hvN
                    have hcl8 : cb.length = nb := by rw [HCB1.out, List.length_set]; exact HLT.out
                    replace HG7 := Lib.hid hg8
                    replace HO7 := Lib.hid ho8
                    replace HT7 := Lib.hid ht8
                    have HCL2 := Lib.hid hcl8
                    clear ho1 hgb hvN hg8 ho8 ht8 hcl8 hx1 o0
                    go_upto_region 17 with fail
                    clear k5 k6
                    generalize w1.setCell ⟨vb, n1, none⟩ (.int .u8 (y.toNat : Int)) = w8 at *
                    have o0 := cell_of_row _ _ 0 _ _ _ HG7.out
                    have o1 := cell_of_row _ _ 1 _ _ _ HG7.out
                    have y1 := frozen_of_row _ _ 1 _ _ HG7.out
                    have hgm := (nget_some HG.out).1
                    have hset := HDR1.out.set (g := g) (g' := { g with b := cb, fast := nb, h := .slice (some ⟨vb, 0, none⟩) nb vc }) (w' := w8.setCell ⟨gp, 1, none⟩ (.int .i64 nb)) hgm rfl rfl (HT7.out.trans (F := ftG g) ((turns_cell w8 gp 1 _).wide fun i hi => by simp at hi; subst hi; rw [HGP.out]; simp [ftG]) fun i hi => .inl hi) ⟨by
                        show (w8.setCell ⟨gp, 1, none⟩ (.int .i64 nb)).heap[g.p]? = _
                        rw [← HGP.out]
                        exact setCell_row (i := 1) HG7.out _, by
                        show (w8.setCell ⟨gp, 1, none⟩ (.int .i64 nb)).ownsRow 0 5 1 (.slice (some ⟨vb, 0, none⟩) nb vc) cb.length (bV cb)
                        rw [HCL2.out]
                        exact (turns_cell w8 gp 1 _).own (own_low HO7.out (Nat.zero_le _)) fun q hq e => by
                          simp at e; subst e; exact own_ne HO7.out HG7.out (by decide) hq⟩ (fun k hk => by
                      rcases List.mem_cons.1 hk with rfl | hk
                      · exact .inl (by simp [ftG])
                      · exact .inr (own_base HO7.out k (by simpa using hk)))
                    have hnames : (w8.setCell ⟨gp, 1, none⟩ (.int .i64 nb)).ownsRow w0.heap.size 9 1 (.slice (some ⟨B, o, none⟩) n nc) n (gs.map fun g => stD g.nm) := by
                      have hfg := HDR1.out.files g hgm
                      have h1 : w8.ownsRow w0.heap.size 9 1 (.slice (some ⟨B, o, none⟩) n nc) n (gs.map fun g => stD g.nm) := HT7.out.own HNO1.out fun q hq e => by
                        rcases List.mem_cons.1 e with rfl | e
                        · exact own_ne HNO1.out hfg.cell (by decide) hq
                        · exact own_apart HNO1.out hfg.row (by decide) q (by simpa using e) hq
                      exact (turns_cell w8 gp 1 _).own h1 fun q hq e => by
                        simp at e; subst e; exact own_ne h1 HG7.out (by decide) hq
                    have hnext : (nset FG.nm gs' { g with b := cb, fast := nb, h := .slice (some ⟨vb, 0, none⟩) nb vc }).map FG.fl = crashI ps ts S.fs (j + 1) ∧ kk + 1 = cntL (S.fs.take (j + 1)) := by
                      obtain ⟨c1, c2, c3, c4⟩ := HCR.out
                      have e : ¬ (FG.fl g).b.length = (FG.fl g).fast := by show ¬ g.b.length = g.fast; rw [← HM.out, ← HFS.out]; have := HLO.out; omega
                      rw [if_neg e, ← HKK.out] at c2 c3
                      refine ⟨?_, c3.symm⟩
                      rw [← nset_map fl_nm, HGC.out, c1, c2, HCF.out]
                      exact nset_mid (by rw [← c1]; exact c4) rfl
                    have HNX := Lib.hid (And.intro hset (And.intro hnames hnext))
                    have hkj : kk < 1000000 := by
                      have h1 := HKK.out
                      have h2 := cntL_le (S.fs.take j)
                      rw [List.length_take] at h2
                      omega
                    clear hset hnames hnext hgm
                    go_wp2_with fail
                    go_roundw
                    case rel => exact ⟨j + 1, kk + 1, _, hlt, by go_num, by go_num, HNX.out.2.2.2, HNX.out.1.1, HNX.out.2.2.1, HMV1.out.trans HNX.out.1.2, HNX.out.2.1⟩
                    case measure => simp [intOf]; omega
    · obtain rfl : j = n := by omega
      have hI : decide ((j : Int) < (j : Int)) = false := decide_eq_false (by omega)
      have hfin : LeftD w5 b (foot b bm gs) (crashS ps ts S) wr := by
        refine ⟨foot b bm gs', ⟨bm, gs', HDR.out, ?_, rfl⟩, HMV.out⟩
        rw [HGC.out]
        show crashI ps ts S.fs j = crashL ps ts 0 S.fs
        unfold crashI
        have hjl : S.fs.length ≤ j := by rw [← dkG_len HGS.out, ← HN.out]; exact Nat.le_refl _
        rw [List.take_of_length_le hjl, List.drop_eq_nil_of_le hjl, List.append_nil]
      have HFIN := Lib.hid hfin
      clear hfin
      go_wp2_with fail
      exact bodyPost_ret (v := .int .i64 0) (by simp [results, Tryd.results12, go_sem]) rfl ⟨rfl, HFIN.out⟩
end Go.Proofs.YtdfnfmanpdafpaaDoor
